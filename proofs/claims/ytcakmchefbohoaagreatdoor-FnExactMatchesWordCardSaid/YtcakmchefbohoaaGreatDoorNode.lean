/- Slices of Node: how they read, how an argument of that type is opened. -/
import Derived.Test.YtcakmchefbohoaaGreatDoorRows
import Derived.Test.YtcakmchefbohoaaGreatDoorMem
import Derived.Test.YtcakmchefbohoaaGreatDoorOpenI
import Derived.Test.YtcakmchefbohoaaGreatDoorGrid
import Derived.Test.YtcakmchefbohoaaGreatDoorOpenG
import Derived.WalkKit
import Derived.Lib.LaidTab
import Derived.DataElems
import Derived.DataReads
import Derived.ProofKit
import Derived.OpenShut
import Derived.ShutString
import Derived.ChangeOld
import Derived.Below
set_option linter.unusedVariables false
set_option linter.unusedSimpArgs false
namespace Go.Proofs.YtcakmchefbohoaaGreatDoor
open Go.ChangeShapes Go.WideShapes Go.ChangeAt Go.RowKit

structure Nd where
  kind : Int
  var : Int
  lab : ByteArray
  neg : Bool
deriving DecidableEq
def nd0 : Nd := ⟨0, 0, ByteArray.empty, false⟩
def ndnth (f : List Nd) (i : Nat) : Nd := f.getD i nd0
theorem ndnth_eq (f : List Nd) (i : Nat) (h : i < f.length) : ndnth f i = f[i] := by simp [ndnth, h]
theorem take_ndnth (f : List Nd) (i : Nat) (h : i < f.length) : f.take (i + 1) = f.take i ++ [ndnth f i] := by
  rw [List.take_succ_eq_append_getElem h, ndnth_eq f i h]
theorem nd_ext {f g : List Nd} (hl : f.length = g.length) (h : ∀ i, i < f.length → ndnth f i = ndnth g i) : f = g := by
  refine List.ext_getElem hl fun i h1 h2 => ?_
  rw [← ndnth_eq f i h1, ← ndnth_eq g i h2]
  exact h i h1
/-- The cells of one, of a list. -/
def ndv (n : Nd) (j : Nat) : Value := if j = 0 then .int .i64 n.kind else if j = 1 then .int .i64 n.var else if j = 2 then .string n.lab else .bool n.neg
def ndc (f : List Nd) (i : Nat) : Value := ndv (ndnth f (i / 4)) (i % 4)
theorem ndc_at (f : List Nd) (i j : Nat) (hj : j < 4) : ndc f (i * 4 + j) = ndv (ndnth f i) j := by
  unfold ndc
  rw [show (i * 4 + j) / 4 = i by omega, show (i * 4 + j) % 4 = j by omega]
def RdNd (w : World) (v : Value) (f : List Nd) : Prop := Rd w 4 v f.length (ndc f)
def OwNd (w : World) (base : Nat) (v : Value) (f : List Nd) : Prop := Ow w base 4 v f.length (ndc f)
def InNd (w : World) (lo hi : Nat) (v : Value) (f : List Nd) : Prop := In w lo hi 4 v f.length (ndc f)
theorem RdNd.below {w w' : World} {v : Value} {f : List Nd} (h : RdNd w v f) (hb : Below w.heap.size w w') : RdNd w' v f := Rd.below h hb
theorem OwNd.rd {w : World} {base : Nat} {v : Value} {f : List Nd} (h : OwNd w base v f) : RdNd w v f := Ow.rd h
theorem OwNd.below {w w' : World} {base : Nat} {v : Value} {f : List Nd} (h : OwNd w base v f) (hb : Below w.heap.size w w') : OwNd w' base v f := Ow.below h hb
theorem OwNd.inn {w : World} {base : Nat} {v : Value} {f : List Nd} (h : OwNd w base v f) : InNd w base w.heap.size v f := Ow.inn h
theorem InNd.rd {w : World} {lo hi : Nat} {v : Value} {f : List Nd} (h : InNd w lo hi v f) : RdNd w v f := In.rd h
theorem InNd.below {w w' : World} {lo hi B : Nat} {v : Value} {f : List Nd} (h : InNd w lo hi v f) (hb : Below B w w') (hB : hi ≤ B) : InNd w' lo hi v f := In.below h hb hB
theorem InNd.mod {w w' : World} {lo hi l m : Nat} {v : Value} {f : List Nd} (h : InNd w lo hi v f) (hm : Mod l m w w') (hd : hi ≤ l ∨ m ≤ lo) : InNd w' lo hi v f := In.mod h hm hd
theorem RdNd.slice {w : World} {v : Value} {f : List Nd} (h : RdNd w v f) : ∃ a cap, v = .slice a f.length cap := by
  obtain ⟨a, cap, rfl, _⟩ := h; exact ⟨a, cap, rfl⟩
theorem RdNd.cells {w : World} {a : Option Addr} {n cap : Nat} {f : List Nd} (h : RdNd w (.slice a n cap) f) {i : Nat} (hi : i < f.length) :
    ∃ b o, a = some ⟨b, o, none⟩ ∧ b < w.heap.size ∧ w.cell? ⟨b, o + i * 4, none⟩ = some (.int .i64 (ndnth f i).kind) ∧ w.cell? ⟨b, o + i * 4 + 1, none⟩ = some (.int .i64 (ndnth f i).var) ∧ w.cell? ⟨b, o + i * 4 + 2, none⟩ = some (.string (ndnth f i).lab) ∧ w.cell? ⟨b, o + i * 4 + 3, none⟩ = some (.bool (ndnth f i).neg) := by
  obtain ⟨_, _, e, _, _, hc⟩ := h
  cases e
  obtain ⟨b, o, rfl, hb, hc⟩ := hc (by omega)
  refine ⟨b, o, rfl, hb, ?_, ?_, ?_, ?_⟩
  · have := hc (i * 4) (by omega)
    rw [show i * 4 = i * 4 + 0 from rfl, ndc_at f i 0 (by decide)] at this
    exact this
  · have := hc (i * 4 + 1) (by omega)
    rw [ndc_at f i 1 (by decide)] at this
    rw [Nat.add_assoc]
    exact this
  · have := hc (i * 4 + 2) (by omega)
    rw [ndc_at f i 2 (by decide)] at this
    rw [Nat.add_assoc]
    exact this
  · have := hc (i * 4 + 3) (by omega)
    rw [ndc_at f i 3 (by decide)] at this
    rw [Nat.add_assoc]
    exact this
/-- Numbers and texts that fit. -/
def NdOk (n : Nd) : Prop := (-9223372036854775808 ≤ n.kind ∧ n.kind ≤ 9223372036854775807) ∧ (-9223372036854775808 ≤ n.var ∧ n.var ≤ 9223372036854775807) ∧ n.lab.size ≤ maxLen
def NdsOk (f : List Nd) : Prop := ∀ i, i < f.length → NdOk (ndnth f i)
set_option maxRecDepth 100000 in
theorem openNode {H : Type} {enc : TypeId × Value → H} {W : World} {base lo : Nat} {v : Value} {d : DataW H} {p : List MemPlace} {sp : Nat → Bool} {held : Bool}
    (hv : Value.okWide Tryz.prog W .any base 23 v) (h : DataW.Trod enc Tryz.prog W lo sp held 23 v d p) (lt : ∀ x ∈ p, x.block < W.heap.size) : ∃ f, RdNd W v f ∧ NdsOk f := by
  obtain ⟨a, len, cap, rfl⟩ := okWide_slice Tryz.underlying23 hv
  obtain ⟨fuel, hf⟩ := h
  obtain ⟨cs, hrd, n, hel⟩ := open_gen Tryz.underlying23 (show Tryz.prog.cellsOf 58 = 4 by kernel_rfl) (by decide) hf
  have hz : ∀ i, ∃ z : Nd, i < len → cs (i * 4) = .int .i64 z.kind ∧ cs (i * 4 + 1) = .int .i64 z.var ∧ cs (i * 4 + 2) = .string z.lab ∧ cs (i * 4 + 3) = .bool z.neg ∧ NdOk z := by
    intro i
    by_cases hi : i < len
    · obtain ⟨y, hy⟩ := hel i hi
      obtain ⟨ys, n', _, _, _, hl, hg⟩ := DataW.trod_struct Tryz.underlying58 hy
      have h0 := (hg 0 _ rfl).trans (List.getElem?_eq_getElem (show 0 < ys.length by rw [hl]; decide))
      have h1 := (hg 1 _ rfl).trans (List.getElem?_eq_getElem (show 1 < ys.length by rw [hl]; decide))
      have h2 := (hg 2 _ rfl).trans (List.getElem?_eq_getElem (show 2 < ys.length by rw [hl]; decide))
      have h3 := (hg 3 _ rfl).trans (List.getElem?_eq_getElem (show 3 < ys.length by rw [hl]; decide))
      have c64 : Tryz.prog.cellsOf 2 = 1 := by kernel_rfl
      have cst : Tryz.prog.cellsOf 9 = 1 := by kernel_rfl
      have cbo : Tryz.prog.cellsOf 4 = 1 := by kernel_rfl
      have er : (List.range 4).map (fun j => cs (i * 4 + j)) = [cs (i * 4), cs (i * 4 + 1), cs (i * 4 + 2), cs (i * 4 + 3)] := rfl
      obtain ⟨x0, e0, _, w0⟩ := DataW.trod_int Tryz.underlying2 h0
      obtain ⟨x1, e1, _, w1⟩ := DataW.trod_int Tryz.underlying2 h1
      obtain ⟨x2, e2, _, w2⟩ := DataW.trod_string Tryz.underlying9 h2
      obtain ⟨x3, e3, _⟩ := DataW.trod_bool Tryz.underlying4 h3
      have f0 : List.take (Tryz.prog.cellsOf 2) (List.drop 0 ((List.range 4).map fun j => cs (i * 4 + j))) = [.int .i64 x0] := e0
      rw [c64, er] at f0
      simp only [List.drop_zero, List.drop_succ_cons, List.take_succ_cons, List.take_zero, List.cons.injEq, and_true] at f0
      have f1 : List.take (Tryz.prog.cellsOf 2) (List.drop 1 ((List.range 4).map fun j => cs (i * 4 + j))) = [.int .i64 x1] := e1
      rw [c64, er] at f1
      simp only [List.drop_zero, List.drop_succ_cons, List.take_succ_cons, List.take_zero, List.cons.injEq, and_true] at f1
      have f2 : List.take (Tryz.prog.cellsOf 9) (List.drop 2 ((List.range 4).map fun j => cs (i * 4 + j))) = [.string x2] := e2
      rw [cst, er] at f2
      simp only [List.drop_zero, List.drop_succ_cons, List.take_succ_cons, List.take_zero, List.cons.injEq, and_true] at f2
      have f3 : List.take (Tryz.prog.cellsOf 4) (List.drop 3 ((List.range 4).map fun j => cs (i * 4 + j))) = [.bool x3] := e3
      rw [cbo, er] at f3
      simp only [List.drop_zero, List.drop_succ_cons, List.take_succ_cons, List.take_zero, List.cons.injEq, and_true] at f3
      exact ⟨⟨x0, x1, x2, x3⟩, fun _ => ⟨f0, f1, f2, f3, i64_of_wf w0, i64_of_wf w1, w2⟩⟩
    · exact ⟨nd0, fun h => absurd h hi⟩
  obtain ⟨g, hg⟩ := Classical.axiomOfChoice hz
  have hr : ∀ i, i < len → ndnth ((List.range len).map g) i = g i := fun i hi => by simp [ndnth, hi]
  refine ⟨(List.range len).map g, ?_, fun i hi => ?_⟩
  · obtain ⟨a', c', e, q1, q2, q3⟩ := hrd
    cases e
    unfold RdNd Rd
    rw [List.length_map, List.length_range]
    refine ⟨_, _, rfl, q1, q2, fun h0 => ?_⟩
    obtain ⟨b, o, e, hb, hcl⟩ := q3 h0
    refine ⟨b, o, e, hb, fun i hi => ?_⟩
    rw [hcl i hi]
    have hi4 : i / 4 < len := by omega
    obtain ⟨h0, h1, h2, h3, _⟩ := hg (i / 4) hi4
    unfold ndc
    rw [hr (i / 4) hi4]
    have hm : i = i / 4 * 4 + i % 4 := by omega
    have hc : i % 4 = 0 ∨ i % 4 = 1 ∨ i % 4 = 2 ∨ i % 4 = 3 := by omega
    rcases hc with h | h | h | h
    · rw [h, Nat.add_zero] at hm; rw [h]; conv => lhs; rw [hm]
      exact congrArg some h0
    · rw [h] at hm ⊢; conv => lhs; rw [hm]
      exact congrArg some h1
    · rw [h] at hm ⊢; conv => lhs; rw [hm]
      exact congrArg some h2
    · rw [h] at hm ⊢; conv => lhs; rw [hm]
      exact congrArg some h3
  · rw [List.length_map, List.length_range] at hi
    rw [hr i hi]
    exact (hg i hi).2.2.2.2
end Go.Proofs.YtcakmchefbohoaaGreatDoor
