/- Rows of elements of regular expressions; mirrored forests. No program in sight, but its types. -/
import Derived.Test.YtcakmchefbohoaaGreatDoorProg
import Derived.Test.YtcakmchefbohoaaGreatDoorMem
import Derived.Test.YtcakmchefbohoaaGreatDoorMath
import Derived.Test.YtcakmchefbohoaaGreatDoorBasics
import Derived.Test.YtcakmchefbohoaaGreatDoorOpenI
import Derived.Test.YtcakmchefbohoaaGreatDoorHelpI
import Derived.Test.YtcakmchefbohoaaGreatDoorGrid
import Derived.Test.YtcakmchefbohoaaGreatDoorLab
import Derived.Test.YtcakmchefbohoaaGreatDoorDec
import Derived.Test.YtcakmchefbohoaaGreatDoorEnv
import Derived.Test.YtcakmchefbohoaaGreatDoorRLab
import Derived.Test.YtcakmchefbohoaaGreatDoorReg
import Derived.Test.YtcakmchefbohoaaGreatDoorRegW
import Derived.Test.YtcakmchefbohoaaGreatDoorVReg
import Derived.Test.YtcakmchefbohoaaGreatDoorTreeR
import Derived.Test.YtcakmchefbohoaaGreatDoorConc
import Derived.Test.YtcakmchefbohoaaGreatDoorEmp
import Derived.WalkKit
import Derived.BigQuiet
import Derived.BigRegion
import Derived.Deep.QuietTactic
import Derived.Maps.AppendAt
import Derived.Laws.OwnMore
import Derived.Lib.SliceRun
import Derived.Maps.Range
import Derived.Deep.AppendLies
import Derived.Deep.RegionLaw
import Derived.Lib.Hide
import Derived.Outline
set_option linter.unusedVariables false
set_option linter.unusedSimpArgs false
namespace Go.Proofs.YtcakmchefbohoaaGreatDoor
open Go.RowKit

/-- The cells of a list of nodes, in a row. -/
def rgCells (f : List Rg) : List Value := (List.range (f.length * 3)).map (rgc f)
theorem rgCells_len (f : List Rg) : (rgCells f).length = f.length * 3 := by simp [rgCells]
theorem rgCells_get (f : List Rg) {i : Nat} (h : i < f.length * 3) : (rgCells f)[i]? = some (rgc f i) := by
  unfold rgCells
  rw [List.getElem?_map, List.getElem?_range h]; rfl
theorem rgnth_left (f g : List Rg) {i : Nat} (h : i < f.length) : rgnth (f ++ g) i = rgnth f i := by
  unfold rgnth
  rw [List.getD_eq_getElem?_getD, List.getD_eq_getElem?_getD, List.getElem?_append_left h]
theorem rgnth_right (f g : List Rg) (i : Nat) : rgnth (f ++ g) (f.length + i) = rgnth g i := by
  unfold rgnth
  rw [List.getD_eq_getElem?_getD, List.getD_eq_getElem?_getD, List.getElem?_append_right (by omega), Nat.add_sub_cancel_left]
theorem rgCells_append (f g : List Rg) : rgCells f ++ rgCells g = rgCells (f ++ g) := by
  refine List.ext_getElem? fun i => ?_
  by_cases h1 : i < f.length * 3
  · rw [List.getElem?_append_left (by rw [rgCells_len]; exact h1), rgCells_get f h1, rgCells_get _ (by rw [List.length_append]; omega)]
    unfold rgc
    rw [rgnth_left f g (by omega)]
  · rw [List.getElem?_append_right (by rw [rgCells_len]; omega), rgCells_len]
    by_cases h2 : i < (f ++ g).length * 3
    · have hl : (f ++ g).length = f.length + g.length := List.length_append
      rw [rgCells_get _ h2, rgCells_get g (by omega)]
      unfold rgc
      rw [show i / 3 = f.length + (i - f.length * 3) / 3 by omega, rgnth_right, show (i - f.length * 3) % 3 = i % 3 by omega]
    · have hl : (f ++ g).length = f.length + g.length := List.length_append
      rw [List.getElem?_eq_none (by rw [rgCells_len]; omega), List.getElem?_eq_none (by rw [rgCells_len]; omega)]
theorem rgCells_one (f : List Rg) : ∀ u ∈ rgCells f, u.oneCell' = true := by
  intro u hu
  obtain ⟨i, _, rfl⟩ := List.mem_map.1 hu
  unfold rgc rgv
  split
  · rfl
  · split <;> rfl
theorem rgCells_single (x : Rg) : rgCells [x] = [.int .i64 x.kind, .string x.lab, .bool x.neg] := by
  simp [rgCells, List.range, List.range.loop, rgc, rgv, rgnth]
/-- A row of nodes of the call's own reads as them. -/
theorem own_rg {w : World} {base n : Nat} {v : Value} {f : List Rg} (h : w.ownsRow base 63 3 v n (rgCells f)) : OwRg w base v f := by
  have hn : n = f.length := by have := h.1; rw [rgCells_len] at this; omega
  subst hn
  exact ownsRow_ow h _ fun i hi => rgCells_get f hi
theorem own_rg_nil {w : World} (B : Nat) (hB : B ≤ w.heap.size) : (w.alloc (.cells #[] 63)).ownsRow B 63 3 (.slice (some ⟨w.heap.size, 0, none⟩) 0 0) ([] : List Rg).length (rgCells []) :=
  ⟨rfl, Or.inr ⟨w.heap.size, 0, #[], rfl, hB, by show (w.heap.push _)[w.heap.size]? = some _; simp, Nat.le_refl _, Nat.zero_le _, rfl, rfl⟩⟩
/-- append(f, g...) on a row of the call's own. -/
theorem wpList_append_rg {w : World} {ops : Array Oper} {rest : List Oper} {o : Oper} {a : Act} {Q : Exit → Act → World → Prop} (hgd : o.guard = none) (s x : Operand)
    (ho : o.op = .call { callee := .builtin .append, args := #[s, x], argTypes := #[29, 29] })
    (base : Nat) (v vx : Value) (n : Nat) (f g : List Rg) (hnl : n = f.length) (hs : a.eval s = v) (hx : a.eval x = vx)
    (hown : w.ownsRow base 63 3 v n (rgCells f)) (hrd : RdRg w vx g) (hlen : f.length + g.length ≤ 2097152) (hbase : base ≤ w.heap.size)
    (B : Nat) (w0 : World) (hb : Below B w0 w) (hB : B ≤ base)
    (h : ∀ v' w', Hid (w'.ownsRow base 63 3 v' (n + g.length) (rgCells (f ++ g))) → Below B w0 w' → wpList Tryz.prog ops Q rest (a.put o.dst v') w') : wpList Tryz.prog ops Q (o :: rest) a w := by
  obtain ⟨i0, hi, hz0, hz1, hz2⟩ := info_parts infoRg
  obtain ⟨ax, cx, rfl, hcx, hmx, hrd⟩ := hrd
  subst hnl
  cases ax with
  | none =>
    have hg0 : g = [] := by
      cases g with
      | nil => rfl
      | cons y l =>
        obtain ⟨b, o, e, _⟩ := hrd (by simp)
        cases e
    subst hg0
    refine wpList_append_none' hgd s x 29 ho base 63 i0 3 Tryz.underlying29 hi v f.length cx (rgCells f) hs hown hx ?_
    exact h v w (Lib.hid (by rw [List.append_nil]; exact hown)) hb
  | some ad =>
    refine wpList_append_own_at w hgd s x 29 ho base 63 i0 (.agg #[.int .i64 0, .string ByteArray.empty, .bool false]) 3 32 Tryz.underlying29 hi hz0 hz1 hz2 rfl (by decide) v f.length (rgCells f) hs hown ad g.length cx (rgCells g) hx (rgCells_len g) ?_ (rgCells_one g) (by unfold maxLen; omega) (by omega) hbase ?_
    · intro j u hj
      have hjl : j < (rgCells g).length := (List.getElem?_eq_some_iff.1 hj).1
      rw [rgCells_len] at hjl
      obtain ⟨b2, o2, e2, hb2, hc2⟩ := hrd (by omega)
      cases e2
      rw [Addr.add_lit, hc2 j hjl, ← hj, rgCells_get g hjl]
    · intro v' w' hown' hgrow _ _
      refine h v' w' (Lib.hid ?_) (hb.grown hgrow (Nat.le_trans hB hbase) fun j hj => ?_)
      · rw [← rgCells_append]; exact hown'
      · exact Nat.le_trans hB (hown.lt j hj).1

namespace FRg
/-- The trees of a forest, the last one first; each tree with the operands of kind 1 exchanged. -/
def rvs : FRg → FRg
  | .nil => .nil
  | .cons x k n => app (rvs n) (.cons x k .nil)
def mir : FRg → FRg
  | .nil => .nil
  | .cons x k n => .cons x (if x.kind = 1 then rvs (mir k) else mir k) (mir n)
end FRg
def opF (x : Rg) (l : List (List Rg)) : List Rg := x :: l.flatten
def opR (x : Rg) (l : List (List Rg)) : List Rg := x :: (if x.kind = 1 then l.reverse.flatten else l.flatten)
namespace FRg
theorem flat_fold (G : FRg) : flat G = (fold opF G).flatten := by
  induction G with
  | nil => rfl
  | cons x k n ihk ihn => simp [flat, fold, opF, ihk, ihn]
theorem fold_rvs {β : Type} (op : Rg → List β → β) (G : FRg) : fold op (rvs G) = (fold op G).reverse := by
  induction G with
  | nil => rfl
  | cons x k n _ ihn => simp [rvs, fold, fold_app, ihn]
theorem fold_mir (G : FRg) : fold opF (mir G) = fold opR G := by
  induction G with
  | nil => rfl
  | cons x k n ihk ihn =>
    simp only [mir, fold, ihn, opF, opR]
    congr 2
    split
    · rw [fold_rvs, ihk]
    · rw [ihk]
theorem flat_rvs_len (G : FRg) : (flat (rvs G)).length = (flat G).length := by
  induction G with
  | nil => rfl
  | cons x k n _ ihn => simp [rvs, flat, flat_app, ihn]; omega
theorem flat_mir_len (G : FRg) : (flat (mir G)).length = (flat G).length := by
  induction G with
  | nil => rfl
  | cons x k n ihk ihn =>
    simp only [mir, flat, List.length_cons, List.length_append, ihn]
    split
    · rw [flat_rvs_len, ihk]
    · rw [ihk]
theorem len_mir (G : FRg) : len (mir G) = len G := by
  induction G with
  | nil => rfl
  | cons x k n _ ihn => simp [mir, len, ihn]
theorem mir_app (A B : FRg) : mir (app A B) = app (mir A) (mir B) := by
  induction A with
  | nil => rfl
  | cons x k n _ ihn => simp [mir, app, ihn]
end FRg
def revL (f : List Rg) : List Rg := if validR f = true then ((FRg.build f).fold opR).getD 0 [] else []
def revC (f : List Rg) : Int := if validR f = true then 0 else 1
theorem revL_eq {f : List Rg} {x : Rg} {kids : FRg} (h : validR f = true) (hB : FRg.build f = .cons x kids .nil) : revL f = x :: (if x.kind = 1 then FRg.rvs (FRg.mir kids) else FRg.mir kids).flat := by
  unfold revL
  rw [if_pos h, hB]
  have h1 := FRg.flat_fold (FRg.mir (.cons x kids .nil))
  rw [FRg.fold_mir] at h1
  simp only [FRg.mir, FRg.flat, FRg.fold, List.append_nil, List.flatten_cons, List.flatten_nil] at h1
  rw [h1]
  rfl
theorem revL_len (f : List Rg) : (revL f).length ≤ f.length := by
  by_cases h : validR f = true
  · obtain ⟨hs1, hs2⟩ := validR_shape h
    obtain ⟨x, kids, hB, hok, hf⟩ := FRg.one hs1 hs2
    rw [revL_eq h hB]
    conv => rhs; rw [hf]
    simp only [List.length_cons]
    split
    · rw [FRg.flat_rvs_len, FRg.flat_mir_len]; exact Nat.le_refl _
    · rw [FRg.flat_mir_len]; exact Nat.le_refl _
  · unfold revL
    rw [if_neg h]
    simp
theorem FAtRg.split {w : World} {K : Nat → Prop} {D R : FRg} {qs : List Value} (h : FAtRg w K (D.app R) qs) : ∃ qa qb, qs = qa ++ qb ∧ qa.length = D.len ∧ FAtRg w K R qb := by
  induction D generalizing qs with
  | nil => exact ⟨[], qs, rfl, rfl, h⟩
  | cons x k n _ ih =>
    obtain ⟨b, qs', v, ps', rfl, _, _, _, _, _, _, h9⟩ := h
    obtain ⟨qa, qb, rfl, e, h10⟩ := ih h9
    exact ⟨_ :: qa, qb, rfl, by simp [FRg.len, e], h10⟩
theorem FRg.behind {D R kids : FRg} {k m : Nat} (h : D.app R = kids ∧ D.len = k) (hm : m = kids.len) (hk : k < m) : ∃ y kk nx, R = .cons y kk nx := by
  cases R with
  | nil =>
    exfalso
    obtain ⟨h1, h2⟩ := h
    rw [FRg.app_nil] at h1
    rw [h1] at h2
    omega
  | cons y kk nx => exact ⟨y, kk, nx, rfl⟩
theorem FRg.done {D R kids : FRg} {k m : Nat} (h : D.app R = kids ∧ D.len = k) (hm : m = kids.len) (hk : k = m) : D = kids := by
  obtain ⟨h1, h2⟩ := h
  rw [← h1, FRg.len_app] at hm
  cases R with
  | nil => rw [← h1, FRg.app_nil]
  | cons y kk nx => simp [FRg.len] at hm; omega
theorem drew_cell (w : World) (a : Addr) : w.drew.cell? a = w.cell? a := rfl
theorem OwRg_zero (w : World) (base : Nat) : OwRg w base (.slice none 0 0) [] := ⟨none, 0, rfl, Nat.le_refl _, Nat.zero_le _, fun h => absurd h (by simp)⟩
theorem drew_below {B : Nat} (w : World) : Below B w w.drew := ⟨rfl, rfl, rfl, Nat.le_refl _, fun _ _ => rfl⟩
theorem rg_new (w : World) (x y z : Value) (T n : Nat) (hn : n = w.heap.size) : ∀ j u, [x, y, z][j]? = some u → (w.alloc (.cells #[x, y, z] T)).cell? ((⟨n, 0, none⟩ : Addr).add j) = some u := by
  subst hn
  exact World.news_of_block (cs := #[x, y, z]) (heap_alloc_new w _)
/-- A stack of rows: the outer row and each row of its own. -/
def lnth (ls : List (List Rg)) (i : Nat) : List Rg := ls.getD i []
theorem lnth_left (ls : List (List Rg)) (y : List Rg) (i : Nat) (h : i < ls.length) : lnth (ls ++ [y]) i = lnth ls i := by simp [lnth, List.getElem?_append_left h]
theorem lnth_last (ls : List (List Rg)) (y : List Rg) : lnth (ls ++ [y]) ls.length = y := by simp [lnth]
theorem lnth_take (ls : List (List Rg)) (k i : Nat) (h : i < k) : lnth (ls.take k) i = lnth ls i := by simp [lnth, List.getElem?_take, h]
def StkRv (w : World) (B T E : Nat) (st : Value) (ls : List (List Rg)) (vs : List Value) : Prop :=
  w.ownsRow B T 1 st ls.length vs ∧ ∀ i, i < ls.length → ∃ v, vs[i]? = some v ∧ w.ownsRow B E 3 v (lnth ls i).length (rgCells (lnth ls i)) ∧ ∀ g, v.ownBlock = some g → st.ownBlock ≠ some g
def StkR (w : World) (B T E : Nat) (st : Value) (ls : List (List Rg)) : Prop := ∃ vs, StkRv w B T E st ls vs
theorem StkRv.below {w w' : World} {B T E : Nat} {st : Value} {ls : List (List Rg)} {vs : List Value} (h : StkRv w B T E st ls vs) (hb : Below w.heap.size w w') : StkRv w' B T E st ls vs := by
  obtain ⟨h1, h2⟩ := h
  refine ⟨ownsRow_below h1 hb, fun i hi => ?_⟩
  obtain ⟨v, q1, q2, q3⟩ := h2 i hi
  exact ⟨v, q1, ownsRow_below q2 hb, q3⟩
theorem StkRv.shrink {w : World} {B T E g n cap : Nat} {ls : List (List Rg)} {vs : List Value} (h : StkRv w B T E (.slice (some ⟨g, 0, none⟩) n cap) ls vs) (hn : n = ls.length) {k : Nat} (hk : k ≤ n) : StkRv w B T E (.slice (some ⟨g, 0, none⟩) k cap) (ls.take k) (vs.take k) := by
  obtain ⟨h1, h2⟩ := h
  subst hn
  have hl : (ls.take k).length = k := by rw [List.length_take]; omega
  refine ⟨by rw [hl]; exact ownsRow_shrink h1 hk, fun i hi => ?_⟩
  rw [hl] at hi
  obtain ⟨v, q1, q2, q3⟩ := h2 i (by omega)
  refine ⟨v, by rw [List.getElem?_take, if_pos hi]; exact q1, by rw [lnth_take _ _ _ hi]; exact q2, q3⟩
theorem StkRv.push {w0 w w' : World} {B T E : Nat} {st v' xv : Value} {ls : List (List Rg)} {vs : List Value} {f : List Rg} (h : StkRv w0 B T E st ls vs) (hb : Below w0.heap.size w0 w) (hx : w.ownsRow w0.heap.size E 3 xv f.length (rgCells f)) (hB : B ≤ w0.heap.size)
    (hown : w'.ownsRow B T 1 v' (ls.length + 1) (vs ++ [xv])) (hg : w.grownBy w' st.ownBlock) (hloc : v'.ownBlock = st.ownBlock ∨ ∃ k, v'.ownBlock = some k ∧ w.heap.size ≤ k) : StkR w' B T E v' (ls ++ [f]) := by
  obtain ⟨h1, h2⟩ := h
  have hlen : vs.length = ls.length := by have := h1.1; omega
  have hst := h1.lt
  refine ⟨vs ++ [xv], by rw [List.length_append]; exact hown, fun i hi => ?_⟩
  rw [List.length_append] at hi
  simp only [List.length_cons, List.length_nil] at hi
  by_cases e : i = ls.length
  · subst e
    refine ⟨xv, by rw [List.getElem?_append_right (by omega)]; simp [hlen], ?_, fun k hk => ?_⟩
    · rw [lnth_last]
      have hx2 : w.ownsRow B E 3 xv f.length (rgCells f) := by
        obtain ⟨e1, e2⟩ := hx
        rcases e2 with h | ⟨g, cap, cur, r1, r2, r3⟩
        · exact ⟨e1, Or.inl h⟩
        · exact ⟨e1, Or.inr ⟨g, cap, cur, r1, by omega, r3⟩⟩
      refine hx2.kept hg ?_
      cases hq : xv.ownBlock with
      | none => exact Or.inl rfl
      | some k =>
        refine Or.inr fun e => ?_
        have q1 := hx.lt k hq
        have q2 := hst k e.symm
        omega
    · have q1 := hx.lt k hk
      intro e
      rcases hloc with hl | ⟨k', hk', hge⟩
      · rw [hl] at e
        have q2 := hst k e
        omega
      · rw [hk'] at e; cases e; omega
  · have hi' : i < ls.length := by omega
    obtain ⟨x, q1, q2, q3⟩ := h2 i hi'
    refine ⟨x, by rw [List.getElem?_append_left (by omega)]; exact q1, ?_, fun k hk => ?_⟩
    · rw [lnth_left _ _ _ hi']
      refine (ownsRow_below q2 hb).kept hg ?_
      cases hx : x.ownBlock with
      | none => exact Or.inl rfl
      | some k => exact Or.inr fun e => q3 k hx e.symm
    · rcases hloc with hl | ⟨k', hk', hge⟩
      · rw [hl]; exact q3 k hk
      · rw [hk']
        have := q2.lt k hk
        have := hb.size
        intro e; cases e; omega
theorem validR_stepG {β : Type} (op : Rg → List β → β) {f : List Rg} (h : validR f = true) {i : Nat} (hi : i < f.length) :
    (FRg.build (f.drop i)).fold op = op (rgnth f i) (((FRg.build (f.drop (i + 1))).fold op).take (rarity (rgnth f i).kind).toNat) :: ((FRg.build (f.drop (i + 1))).fold op).drop (rarity (rgnth f i).kind).toNat
    ∧ (rarity (rgnth f i).kind).toNat ≤ ((FRg.build (f.drop (i + 1))).fold op).length := by
  obtain ⟨hs1, hs2⟩ := validR_shape h
  obtain ⟨_, e2⟩ := FRg.suffix hs1 hs2 i (by omega)
  rw [List.drop_eq_getElem_cons hi, ← rgnth_eq f i hi] at e2 ⊢
  obtain ⟨G, hG⟩ : ∃ G, G = FRg.build (f.drop (i + 1)) := ⟨_, rfl⟩
  have hB : FRg.build (rgnth f i :: f.drop (i + 1)) = .cons (rgnth f i) (.tak (rarity (rgnth f i).kind).toNat G) (.drp (rarity (rgnth f i).kind).toNat G) := by rw [hG]; rfl
  rw [hB] at e2 ⊢
  rw [← hG, FRg.fold_len]
  have e3 := e2.1
  rw [(FRg.len_parts _ G).1] at e3
  have := rarity_bd (rgnth f i).kind
  refine ⟨?_, by omega⟩
  show op _ _ :: _ = _
  rw [(FRg.fold_parts op _ G).1, (FRg.fold_parts op _ G).2]
theorem fold_flat_len (G : FRg) : (G.fold opR).flatten.length = G.flat.length := by
  rw [← FRg.fold_mir, ← FRg.flat_fold, FRg.flat_mir_len]
theorem rg_made {w : World} {Y : Rg} {kd : Int} {T : Nat} (hk : kd = Y.kind) : (w.alloc (.cells #[.int .i64 kd, .string Y.lab, .bool Y.neg] T)).ownsRow w.heap.size T 3 (.slice (some ⟨w.heap.size, 0, none⟩) 1 1) 1 (rgCells [Y]) := by
  refine ⟨by rw [rgCells_len]; rfl, Or.inr ⟨w.heap.size, 1, _, rfl, Nat.le_refl _, heap_alloc_new w _, Nat.le_refl _, by decide, rfl, ?_⟩⟩
  rw [rgCells_single, hk]; rfl
end Go.Proofs.YtcakmchefbohoaaGreatDoor
