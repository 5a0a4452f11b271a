/- Slices of Reg: how they read, how an argument of that type is opened. -/
import Derived.Test.YtcakmchefbohoaaGreatDoorRows
import Derived.Test.YtcakmchefbohoaaGreatDoorMem
import Derived.Test.YtcakmchefbohoaaGreatDoorOpenI
import Derived.Test.YtcakmchefbohoaaGreatDoorGrid
import Derived.Test.YtcakmchefbohoaaGreatDoorOpenG
import Derived.WalkKit
import Derived.Lib.LaidTab
import Derived.DataElems
import Derived.DataReads
import Derived.ProofKit
import Derived.OpenShut
import Derived.ShutString
import Derived.ChangeOld
import Derived.Below
set_option linter.unusedVariables false
set_option linter.unusedSimpArgs false
namespace Go.Proofs.YtcakmchefbohoaaGreatDoor
open Go.ChangeShapes Go.WideShapes Go.ChangeAt Go.RowKit

structure Rg where
  kind : Int
  lab : ByteArray
  neg : Bool
deriving DecidableEq
def rg0 : Rg := ⟨0, ByteArray.empty, false⟩
def rgnth (f : List Rg) (i : Nat) : Rg := f.getD i rg0
theorem rgnth_eq (f : List Rg) (i : Nat) (h : i < f.length) : rgnth f i = f[i] := by simp [rgnth, h]
theorem take_rgnth (f : List Rg) (i : Nat) (h : i < f.length) : f.take (i + 1) = f.take i ++ [rgnth f i] := by
  rw [List.take_succ_eq_append_getElem h, rgnth_eq f i h]
theorem rg_ext {f g : List Rg} (hl : f.length = g.length) (h : ∀ i, i < f.length → rgnth f i = rgnth g i) : f = g := by
  refine List.ext_getElem hl fun i h1 h2 => ?_
  rw [← rgnth_eq f i h1, ← rgnth_eq g i h2]
  exact h i h1
/-- The cells of one, of a list. -/
def rgv (n : Rg) (j : Nat) : Value := if j = 0 then .int .i64 n.kind else if j = 1 then .string n.lab else .bool n.neg
def rgc (f : List Rg) (i : Nat) : Value := rgv (rgnth f (i / 3)) (i % 3)
theorem rgc_at (f : List Rg) (i j : Nat) (hj : j < 3) : rgc f (i * 3 + j) = rgv (rgnth f i) j := by
  unfold rgc
  rw [show (i * 3 + j) / 3 = i by omega, show (i * 3 + j) % 3 = j by omega]
def RdRg (w : World) (v : Value) (f : List Rg) : Prop := Rd w 3 v f.length (rgc f)
def OwRg (w : World) (base : Nat) (v : Value) (f : List Rg) : Prop := Ow w base 3 v f.length (rgc f)
def InRg (w : World) (lo hi : Nat) (v : Value) (f : List Rg) : Prop := In w lo hi 3 v f.length (rgc f)
theorem RdRg.below {w w' : World} {v : Value} {f : List Rg} (h : RdRg w v f) (hb : Below w.heap.size w w') : RdRg w' v f := Rd.below h hb
theorem OwRg.rd {w : World} {base : Nat} {v : Value} {f : List Rg} (h : OwRg w base v f) : RdRg w v f := Ow.rd h
theorem OwRg.below {w w' : World} {base : Nat} {v : Value} {f : List Rg} (h : OwRg w base v f) (hb : Below w.heap.size w w') : OwRg w' base v f := Ow.below h hb
theorem OwRg.inn {w : World} {base : Nat} {v : Value} {f : List Rg} (h : OwRg w base v f) : InRg w base w.heap.size v f := Ow.inn h
theorem InRg.rd {w : World} {lo hi : Nat} {v : Value} {f : List Rg} (h : InRg w lo hi v f) : RdRg w v f := In.rd h
theorem InRg.below {w w' : World} {lo hi B : Nat} {v : Value} {f : List Rg} (h : InRg w lo hi v f) (hb : Below B w w') (hB : hi ≤ B) : InRg w' lo hi v f := In.below h hb hB
theorem InRg.mod {w w' : World} {lo hi l m : Nat} {v : Value} {f : List Rg} (h : InRg w lo hi v f) (hm : Mod l m w w') (hd : hi ≤ l ∨ m ≤ lo) : InRg w' lo hi v f := In.mod h hm hd
theorem RdRg.slice {w : World} {v : Value} {f : List Rg} (h : RdRg w v f) : ∃ a cap, v = .slice a f.length cap := by
  obtain ⟨a, cap, rfl, _⟩ := h; exact ⟨a, cap, rfl⟩
theorem RdRg.cells {w : World} {a : Option Addr} {n cap : Nat} {f : List Rg} (h : RdRg w (.slice a n cap) f) {i : Nat} (hi : i < f.length) :
    ∃ b o, a = some ⟨b, o, none⟩ ∧ b < w.heap.size ∧ w.cell? ⟨b, o + i * 3, none⟩ = some (.int .i64 (rgnth f i).kind) ∧ w.cell? ⟨b, o + i * 3 + 1, none⟩ = some (.string (rgnth f i).lab) ∧ w.cell? ⟨b, o + i * 3 + 2, none⟩ = some (.bool (rgnth f i).neg) := by
  obtain ⟨_, _, e, _, _, hc⟩ := h
  cases e
  obtain ⟨b, o, rfl, hb, hc⟩ := hc (by omega)
  refine ⟨b, o, rfl, hb, ?_, ?_, ?_⟩
  · have := hc (i * 3) (by omega)
    rw [show i * 3 = i * 3 + 0 from rfl, rgc_at f i 0 (by decide)] at this
    exact this
  · have := hc (i * 3 + 1) (by omega)
    rw [rgc_at f i 1 (by decide)] at this
    rw [Nat.add_assoc]
    exact this
  · have := hc (i * 3 + 2) (by omega)
    rw [rgc_at f i 2 (by decide)] at this
    rw [Nat.add_assoc]
    exact this
/-- Numbers and texts that fit. -/
def RgOk (n : Rg) : Prop := (-9223372036854775808 ≤ n.kind ∧ n.kind ≤ 9223372036854775807) ∧ n.lab.size ≤ maxLen
def RgsOk (f : List Rg) : Prop := ∀ i, i < f.length → RgOk (rgnth f i)
set_option maxRecDepth 100000 in
theorem openReg {H : Type} {enc : TypeId × Value → H} {W : World} {base lo : Nat} {v : Value} {d : DataW H} {p : List MemPlace} {sp : Nat → Bool} {held : Bool}
    (hv : Value.okWide Tryz.prog W .any base 22 v) (h : DataW.Trod enc Tryz.prog W lo sp held 22 v d p) (lt : ∀ x ∈ p, x.block < W.heap.size) : ∃ f, RdRg W v f ∧ RgsOk f := by
  obtain ⟨a, len, cap, rfl⟩ := okWide_slice Tryz.underlying22 hv
  obtain ⟨fuel, hf⟩ := h
  obtain ⟨cs, hrd, n, hel⟩ := open_gen Tryz.underlying22 (show Tryz.prog.cellsOf 55 = 3 by kernel_rfl) (by decide) hf
  have hz : ∀ i, ∃ z : Rg, i < len → cs (i * 3) = .int .i64 z.kind ∧ cs (i * 3 + 1) = .string z.lab ∧ cs (i * 3 + 2) = .bool z.neg ∧ RgOk z := by
    intro i
    by_cases hi : i < len
    · obtain ⟨y, hy⟩ := hel i hi
      obtain ⟨ys, n', _, _, _, hl, hg⟩ := DataW.trod_struct Tryz.underlying55 hy
      have h0 := (hg 0 _ rfl).trans (List.getElem?_eq_getElem (show 0 < ys.length by rw [hl]; decide))
      have h1 := (hg 1 _ rfl).trans (List.getElem?_eq_getElem (show 1 < ys.length by rw [hl]; decide))
      have h2 := (hg 2 _ rfl).trans (List.getElem?_eq_getElem (show 2 < ys.length by rw [hl]; decide))
      have c64 : Tryz.prog.cellsOf 2 = 1 := by kernel_rfl
      have cst : Tryz.prog.cellsOf 9 = 1 := by kernel_rfl
      have cbo : Tryz.prog.cellsOf 4 = 1 := by kernel_rfl
      have er : (List.range 3).map (fun j => cs (i * 3 + j)) = [cs (i * 3), cs (i * 3 + 1), cs (i * 3 + 2)] := rfl
      obtain ⟨x0, e0, _, w0⟩ := DataW.trod_int Tryz.underlying2 h0
      obtain ⟨x1, e1, _, w1⟩ := DataW.trod_string Tryz.underlying9 h1
      obtain ⟨x2, e2, _⟩ := DataW.trod_bool Tryz.underlying4 h2
      have f0 : List.take (Tryz.prog.cellsOf 2) (List.drop 0 ((List.range 3).map fun j => cs (i * 3 + j))) = [.int .i64 x0] := e0
      rw [c64, er] at f0
      simp only [List.drop_zero, List.drop_succ_cons, List.take_succ_cons, List.take_zero, List.cons.injEq, and_true] at f0
      have f1 : List.take (Tryz.prog.cellsOf 9) (List.drop 1 ((List.range 3).map fun j => cs (i * 3 + j))) = [.string x1] := e1
      rw [cst, er] at f1
      simp only [List.drop_zero, List.drop_succ_cons, List.take_succ_cons, List.take_zero, List.cons.injEq, and_true] at f1
      have f2 : List.take (Tryz.prog.cellsOf 4) (List.drop 2 ((List.range 3).map fun j => cs (i * 3 + j))) = [.bool x2] := e2
      rw [cbo, er] at f2
      simp only [List.drop_zero, List.drop_succ_cons, List.take_succ_cons, List.take_zero, List.cons.injEq, and_true] at f2
      exact ⟨⟨x0, x1, x2⟩, fun _ => ⟨f0, f1, f2, i64_of_wf w0, w1⟩⟩
    · exact ⟨rg0, fun h => absurd h hi⟩
  obtain ⟨g, hg⟩ := Classical.axiomOfChoice hz
  have hr : ∀ i, i < len → rgnth ((List.range len).map g) i = g i := fun i hi => by simp [rgnth, hi]
  refine ⟨(List.range len).map g, ?_, fun i hi => ?_⟩
  · obtain ⟨a', c', e, q1, q2, q3⟩ := hrd
    cases e
    unfold RdRg Rd
    rw [List.length_map, List.length_range]
    refine ⟨_, _, rfl, q1, q2, fun h0 => ?_⟩
    obtain ⟨b, o, e, hb, hcl⟩ := q3 h0
    refine ⟨b, o, e, hb, fun i hi => ?_⟩
    rw [hcl i hi]
    have hi4 : i / 3 < len := by omega
    obtain ⟨h0, h1, h2, _⟩ := hg (i / 3) hi4
    unfold rgc
    rw [hr (i / 3) hi4]
    have hm : i = i / 3 * 3 + i % 3 := by omega
    have hc : i % 3 = 0 ∨ i % 3 = 1 ∨ i % 3 = 2 := by omega
    rcases hc with h | h | h
    · rw [h, Nat.add_zero] at hm; rw [h]; conv => lhs; rw [hm]
      exact congrArg some h0
    · rw [h] at hm ⊢; conv => lhs; rw [hm]
      exact congrArg some h1
    · rw [h] at hm ⊢; conv => lhs; rw [hm]
      exact congrArg some h2
  · rw [List.length_map, List.length_range] at hi
    rw [hr i hi]
    exact (hg i hi).2.2.2
end Go.Proofs.YtcakmchefbohoaaGreatDoor
