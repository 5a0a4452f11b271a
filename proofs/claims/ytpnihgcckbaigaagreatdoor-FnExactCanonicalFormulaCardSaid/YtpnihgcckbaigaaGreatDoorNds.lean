/- Rows of nodes: appended to, put behind each other. -/
import Derived.Test.YtpnihgcckbaigaaGreatDoorProg
import Derived.Test.YtpnihgcckbaigaaGreatDoorMem
import Derived.Test.YtpnihgcckbaigaaGreatDoorMath
import Derived.Test.YtpnihgcckbaigaaGreatDoorBasics
import Derived.Test.YtpnihgcckbaigaaGreatDoorOpenI
import Derived.Test.YtpnihgcckbaigaaGreatDoorHelpI
import Derived.Test.YtpnihgcckbaigaaGreatDoorGrid
import Derived.Test.YtpnihgcckbaigaaGreatDoorLab
import Derived.Test.YtpnihgcckbaigaaGreatDoorDec
import Derived.Test.YtpnihgcckbaigaaGreatDoorNode
import Derived.Test.YtpnihgcckbaigaaGreatDoorNodeW
import Derived.Test.YtpnihgcckbaigaaGreatDoorConc
import Derived.WalkKit
import Derived.BigQuiet
import Derived.Maps.AppendAt
import Derived.Laws.OwnMore
import Derived.Lib.AppendZeros
import Derived.Lib.AppendZerosOnto
import Derived.Lib.Hide
import Derived.Outline
set_option linter.unusedVariables false
set_option linter.unusedSimpArgs false
namespace Go.Proofs.YtpnihgcckbaigaaGreatDoor
open Go.RowKit

/-- The cells of a list of nodes, in a row. -/
def ndCells (f : List Nd) : List Value := (List.range (f.length * 4)).map (ndc f)
theorem ndCells_len (f : List Nd) : (ndCells f).length = f.length * 4 := by simp [ndCells]
theorem ndCells_get (f : List Nd) {i : Nat} (h : i < f.length * 4) : (ndCells f)[i]? = some (ndc f i) := by
  unfold ndCells
  rw [List.getElem?_map, List.getElem?_range h]; rfl
theorem ndnth_left (f g : List Nd) {i : Nat} (h : i < f.length) : ndnth (f ++ g) i = ndnth f i := by
  unfold ndnth
  rw [List.getD_eq_getElem?_getD, List.getD_eq_getElem?_getD, List.getElem?_append_left h]
theorem ndnth_right (f g : List Nd) (i : Nat) : ndnth (f ++ g) (f.length + i) = ndnth g i := by
  unfold ndnth
  rw [List.getD_eq_getElem?_getD, List.getD_eq_getElem?_getD, List.getElem?_append_right (by omega), Nat.add_sub_cancel_left]
theorem ndCells_append (f g : List Nd) : ndCells f ++ ndCells g = ndCells (f ++ g) := by
  refine List.ext_getElem? fun i => ?_
  by_cases h1 : i < f.length * 4
  · rw [List.getElem?_append_left (by rw [ndCells_len]; exact h1), ndCells_get f h1, ndCells_get _ (by rw [List.length_append]; omega)]
    unfold ndc
    rw [ndnth_left f g (by omega)]
  · rw [List.getElem?_append_right (by rw [ndCells_len]; omega), ndCells_len]
    by_cases h2 : i < (f ++ g).length * 4
    · have hl : (f ++ g).length = f.length + g.length := List.length_append
      rw [ndCells_get _ h2, ndCells_get g (by omega)]
      unfold ndc
      rw [show i / 4 = f.length + (i - f.length * 4) / 4 by omega, ndnth_right, show (i - f.length * 4) % 4 = i % 4 by omega]
    · have hl : (f ++ g).length = f.length + g.length := List.length_append
      rw [List.getElem?_eq_none (by rw [ndCells_len]; omega), List.getElem?_eq_none (by rw [ndCells_len]; omega)]
theorem ndCells_one (f : List Nd) : ∀ u ∈ ndCells f, u.oneCell' = true := by
  intro u hu
  obtain ⟨i, _, rfl⟩ := List.mem_map.1 hu
  unfold ndc ndv
  split
  · rfl
  · split
    · rfl
    · split <;> rfl
theorem ndCells_single (x : Nd) : ndCells [x] = [.int .i64 x.kind, .int .i64 x.var, .string x.lab, .bool x.neg] := by
  simp [ndCells, List.range, List.range.loop, ndc, ndv, ndnth]
/-- A row of nodes of the call's own reads as them. -/
theorem own_nd {w : World} {base n : Nat} {v : Value} {f : List Nd} (h : w.ownsRow base 37 4 v n (ndCells f)) : OwNd w base v f := by
  have hn : n = f.length := by have := h.1; rw [ndCells_len] at this; omega
  subst hn
  exact ownsRow_ow h _ fun i hi => ndCells_get f hi
theorem own_nd_nil {w : World} (B : Nat) (hB : B ≤ w.heap.size) : (w.alloc (.cells #[] 37)).ownsRow B 37 4 (.slice (some ⟨w.heap.size, 0, none⟩) 0 0) ([] : List Nd).length (ndCells []) :=
  ⟨rfl, Or.inr ⟨w.heap.size, 0, #[], rfl, hB, by show (w.heap.push _)[w.heap.size]? = some _; simp, Nat.le_refl _, Nat.zero_le _, rfl, rfl⟩⟩
/-- append(f, g...) on a row of the call's own. -/
theorem wpList_append_nd {w : World} {ops : Array Oper} {rest : List Oper} {o : Oper} {a : Act} {Q : Exit → Act → World → Prop} (hgd : o.guard = none) (s x : Operand)
    (ho : o.op = .call { callee := .builtin .append, args := #[s, x], argTypes := #[24, 24] })
    (base : Nat) (v vx : Value) (n : Nat) (f g : List Nd) (hnl : n = f.length) (hs : a.eval s = v) (hx : a.eval x = vx)
    (hown : w.ownsRow base 37 4 v n (ndCells f)) (hrd : RdNd w vx g) (hlen : f.length + g.length ≤ 2097152) (hbase : base ≤ w.heap.size)
    (B : Nat) (w0 : World) (hb : Below B w0 w) (hB : B ≤ base)
    (h : ∀ v' w', Hid (w'.ownsRow base 37 4 v' (n + g.length) (ndCells (f ++ g))) → Below B w0 w' → wpList Tryz.prog ops Q rest (a.put o.dst v') w') : wpList Tryz.prog ops Q (o :: rest) a w := by
  obtain ⟨i0, hi, hz0, hz1, hz2⟩ := info_parts infoNd
  obtain ⟨ax, cx, rfl, hcx, hmx, hrd⟩ := hrd
  subst hnl
  cases ax with
  | none =>
    have hg0 : g = [] := by
      cases g with
      | nil => rfl
      | cons y l =>
        obtain ⟨b, o, e, _⟩ := hrd (by simp)
        cases e
    subst hg0
    refine wpList_append_none' hgd s x 24 ho base 37 i0 4 Tryz.underlying24 hi v f.length cx (ndCells f) hs hown hx ?_
    exact h v w (Lib.hid (by rw [List.append_nil]; exact hown)) hb
  | some ad =>
    refine wpList_append_own_at w hgd s x 24 ho base 37 i0 (.agg #[.int .i64 0, .int .i64 0, .string ByteArray.empty, .bool false]) 4 40 Tryz.underlying24 hi hz0 hz1 hz2 rfl (by decide) v f.length (ndCells f) hs hown ad g.length cx (ndCells g) hx (ndCells_len g) ?_ (ndCells_one g) (by unfold maxLen; omega) (by omega) hbase ?_
    · intro j u hj
      have hjl : j < (ndCells g).length := (List.getElem?_eq_some_iff.1 hj).1
      rw [ndCells_len] at hjl
      obtain ⟨b2, o2, e2, hb2, hc2⟩ := hrd (by omega)
      cases e2
      rw [Addr.add_lit, hc2 j hjl, ← hj, ndCells_get g hjl]
    · intro v' w' hown' hgrow _ _
      refine h v' w' (Lib.hid ?_) (hb.grown hgrow (Nat.le_trans hB hbase) fun j hj => ?_)
      · rw [← ndCells_append]; exact hown'
      · exact Nat.le_trans hB (hown.lt j hj).1
end Go.Proofs.YtpnihgcckbaigaaGreatDoor
