/- Regular modalities: what the program's call changes in memory, and what it keeps. -/
import Derived.Test.YtcakmchefbohoaaGreatDoorProg
import Derived.Test.YtcakmchefbohoaaGreatDoorMem
import Derived.Test.YtcakmchefbohoaaGreatDoorMath
import Derived.Test.YtcakmchefbohoaaGreatDoorBasics
import Derived.Test.YtcakmchefbohoaaGreatDoorHelpI
import Derived.Test.YtcakmchefbohoaaGreatDoorGrid
import Derived.Test.YtcakmchefbohoaaGreatDoorNode
import Derived.Test.YtcakmchefbohoaaGreatDoorReg
import Derived.Test.YtcakmchefbohoaaGreatDoorVReg
import Derived.Test.YtcakmchefbohoaaGreatDoorTreeR
import Derived.Test.YtcakmchefbohoaaGreatDoorNds
import Derived.Test.YtcakmchefbohoaaGreatDoorModP
import Derived.WalkKit
import Derived.BigQuiet
import Derived.Maps.AppendAt
import Derived.Laws.OwnMore
import Derived.Lib.Hide
import Derived.Outline
set_option linter.unusedVariables false
set_option linter.unusedSimpArgs false
namespace Go.Proofs.YtcakmchefbohoaaGreatDoor
open Go.RowKit

/-- The numbers below d. -/
def upto (d : Nat) : List Int := (List.range d).map fun i : Nat => (i : Int)
theorem upto_len (d : Nat) : (upto d).length = d := by simp [upto]
theorem nth_upto {d i : Nat} (h : i < d) : nth (upto d) i = (i : Int) := by simp [nth, upto, h]
theorem upto_succ (d : Nat) : upto (d + 1) = upto d ++ [(d : Int)] := by simp [upto, List.range_succ]
def uptoV (d : Nat) : List Value := (upto d).map (Value.int .i64)
theorem uptoV_succ (d : Nat) : uptoV (d + 1) = uptoV d ++ [.int .i64 (d : Int)] := by simp [uptoV, upto_succ]
theorem uptoV_take (d : Nat) : (uptoV (d + 1)).take d = uptoV d := by rw [uptoV_succ, List.take_append_of_le_length (by simp [uptoV, upto]), List.take_of_length_le (by simp [uptoV, upto])]
/-- All blocks that K lets through stay. -/
structure Exc (K : Nat → Prop) (w w' : World) : Prop where
  os : w'.os = w.os
  tape : w'.tape = w.tape
  output : w'.output = w.output
  size : w.heap.size ≤ w'.heap.size
  block : ∀ k, k < w.heap.size → K k → w'.heap[k]? = w.heap[k]?
theorem Exc.refl (K : Nat → Prop) (w : World) : Exc K w w := ⟨rfl, rfl, rfl, Nat.le_refl _, fun _ _ _ => rfl⟩
theorem Exc.trans {K K' : Nat → Prop} {a b c : World} (h : Exc K a b) (g : Exc K' b c) (hk : ∀ i, i < a.heap.size → K i → K' i) : Exc K a c :=
  ⟨g.os.trans h.os, g.tape.trans h.tape, g.output.trans h.output, Nat.le_trans h.size g.size, fun i hi hK => (g.block i (Nat.lt_of_lt_of_le hi h.size) (hk i hi hK)).trans (h.block i hi hK)⟩
theorem Exc.of_below {K : Nat → Prop} {w w' : World} (h : Below w.heap.size w w') : Exc K w w' := ⟨h.os, h.tape, h.output, h.size, fun k hk _ => h.block k hk⟩
theorem Exc.setCell {K : Nat → Prop} {w : World} {X i : Nat} {v : Value} (h : ¬ K X) : Exc K w (w.setCell ⟨X, i, none⟩ v) :=
  ⟨rfl, rfl, rfl, by rw [size_setCell]; exact Nat.le_refl _, fun k _ hK => Below.heap_setCell _ _ _ _ (by intro e; cases e; exact h hK)⟩
theorem Exc.grown {K : Nat → Prop} {w w' : World} {g : Option Nat} (h : w.grownBy w' g) (hk : ∀ k, g = some k → ¬ K k) : Exc K w w' :=
  ⟨h.os, h.tape, h.output, h.size, fun k hs hK => h.block k hs fun e => hk k e.symm hK⟩
theorem Exc.cell {K : Nat → Prop} {w w' : World} (h : Exc K w w') {b o : Nat} (hb : b < w.heap.size) (hk : K b) : w'.cell? ⟨b, o, none⟩ = w.cell? ⟨b, o, none⟩ := World.cell?_of_block (a := ⟨b, o, none⟩) (h.block b hb hk)
theorem Exc.below {K : Nat → Prop} {w w' : World} {B : Nat} (h : Exc K w w') (hB : B ≤ w.heap.size) (hK : ∀ k, k < B → K k) : Below B w w' :=
  ⟨h.os, h.tape, h.output, h.size, fun k hk => h.block k (by omega) (hK k hk)⟩
/-- Neither the replacement's own block nor that of the numbers it holds. -/
def KX (X : Nat) (uv : Value) (k : Nat) : Prop := k ≠ X ∧ uv.ownBlock ≠ some k
/-- A list of nodes in blocks that K lets through. -/
def NdK (w : World) (K : Nat → Prop) (v : Value) (f : List Nd) : Prop :=
  ∃ a cap, v = .slice a f.length cap ∧ f.length ≤ cap ∧ cap ≤ maxLen ∧ (0 < f.length → ∃ b o, a = some ⟨b, o, none⟩ ∧ K b ∧ b < w.heap.size ∧ ∀ i, i < f.length * 4 → w.cell? ⟨b, o + i, none⟩ = some (ndc f i))
theorem NdK.rd {w : World} {K : Nat → Prop} {v : Value} {f : List Nd} (h : NdK w K v f) : RdNd w v f := by
  obtain ⟨a, cap, rfl, h1, h2, h3⟩ := h
  refine ⟨a, cap, rfl, h1, h2, fun h0 => ?_⟩
  obtain ⟨b, o, rfl, _, hb, hc⟩ := h3 h0
  exact ⟨b, o, rfl, hb, hc⟩
theorem NdK.mono {w w' : World} {K K' : Nat → Prop} {v : Value} {f : List Nd} (h : NdK w K v f) (hs : w.heap.size ≤ w'.heap.size) (hb : ∀ b, K b → b < w.heap.size → w'.heap[b]? = w.heap[b]? ∧ K' b) : NdK w' K' v f := by
  obtain ⟨a, cap, rfl, h1, h2, h3⟩ := h
  refine ⟨a, cap, rfl, h1, h2, fun h0 => ?_⟩
  obtain ⟨b, o, rfl, hk, hbl, hc⟩ := h3 h0
  obtain ⟨e1, e2⟩ := hb b hk hbl
  exact ⟨b, o, rfl, e2, by omega, fun i hi => (World.cell?_of_block (a := ⟨b, o + i, none⟩) e1).trans (hc i hi)⟩
theorem NdK.below {w w' : World} {K : Nat → Prop} {v : Value} {f : List Nd} (h : NdK w K v f) (hb : Below w.heap.size w w') : NdK w' K v f := h.mono hb.size fun b h1 h2 => ⟨hb.block b h2, h1⟩
theorem NdK.of_ow {w : World} {base : Nat} {v : Value} {f : List Nd} (h : OwNd w base v f) : NdK w (fun c => base ≤ c) v f := by
  obtain ⟨a, cap, rfl, h1, h2, h3⟩ := h
  refine ⟨a, cap, rfl, h1, h2, fun h0 => ?_⟩
  obtain ⟨b, o, rfl, hk, hb, hc⟩ := h3 h0
  exact ⟨b, o, rfl, hk, hb, fun i hi => (hc i hi).1⟩
theorem NdK.ow {w : World} {K : Nat → Prop} {v : Value} {f : List Nd} (h : NdK w K v f) : ∀ base, (∀ b, K b → b < w.heap.size → base ≤ b) → (∀ b o, K b → b < w.heap.size → w.frozen? ⟨b, o, none⟩ = false) → OwNd w base v f := by
  intro base hK hz
  obtain ⟨a, cap, rfl, h1, h2, h3⟩ := h
  refine ⟨a, cap, rfl, h1, h2, fun h0 => ?_⟩
  obtain ⟨b, o, rfl, hk, hb, hc⟩ := h3 h0
  exact ⟨b, o, rfl, hK b hk hb, hb, fun i hi => ⟨hc i hi, hz b _ hk hb⟩⟩
theorem NdK_nil (w : World) (K : Nat → Prop) : NdK w K (.slice none 0 0) [] := ⟨none, 0, rfl, Nat.le_refl _, Nat.zero_le _, fun h => absurd h (by simp)⟩
theorem FAtRg.exc {w w' : World} {X : Nat} {uv uv' : Value} {G : FRg} {ps : List Value} (h : FAtRg w (KX X uv) G ps) (he : Exc (KX X uv) w w') (hg : ∀ c, uv'.ownBlock = some c → uv.ownBlock = some c ∨ w.heap.size ≤ c) : FAtRg w' (KX X uv') G ps :=
  h.mono he.size fun b h1 h2 => ⟨he.block b h2 h1, h1.1, fun e => by rcases hg b e with h | h; exact h1.2 h; omega⟩
theorem NdK.exc {w w' : World} {X : Nat} {uv uv' : Value} {v : Value} {f : List Nd} (h : NdK w (KX X uv) v f) (he : Exc (KX X uv) w w') (hg : ∀ c, uv'.ownBlock = some c → uv.ownBlock = some c ∨ w.heap.size ≤ c) : NdK w' (KX X uv') v f :=
  h.mono he.size fun b h1 h2 => ⟨he.block b h2 h1, h1.1, fun e => by rcases hg b e with h | h; exact h1.2 h; omega⟩
/-- The replacement's own block: which modality, the numbers in use, whether it is full. -/
structure Rp (w : World) (X : Nat) (box : Bool) (uv : Value) (d : Nat) (full : Bool) : Prop where
  lt : X < w.heap.size
  c0 : w.cell? ⟨X, 0, none⟩ = some (.bool box)
  c1 : w.cell? ⟨X, 1, none⟩ = some uv
  c2 : w.cell? ⟨X, 2, none⟩ = some (.bool full)
  z1 : w.frozen? ⟨X, 1, none⟩ = false
  z2 : w.frozen? ⟨X, 2, none⟩ = false
  own : w.ownsRow (X + 1) 2 1 uv d (uptoV d)
theorem Rp.below {w w' : World} {X : Nat} {box : Bool} {uv : Value} {d : Nat} {full : Bool} (h : Rp w X box uv d full) (hb : Below w.heap.size w w') : Rp w' X box uv d full :=
  ⟨Nat.lt_of_lt_of_le h.lt hb.size, (hb.cell (p := ⟨X, 0, none⟩) h.lt).trans h.c0, (hb.cell (p := ⟨X, 1, none⟩) h.lt).trans h.c1, (hb.cell (p := ⟨X, 2, none⟩) h.lt).trans h.c2, (hb.frozen (p := ⟨X, 1, none⟩) h.lt).trans h.z1, (hb.frozen (p := ⟨X, 2, none⟩) h.lt).trans h.z2, ownsRow_below h.own hb⟩
theorem Rp.rd {w : World} {X : Nat} {box : Bool} {uv : Value} {d : Nat} {full : Bool} (h : Rp w X box uv d full) : RdI w uv (upto d) := by
  have h2 := (ownsRow_owI (zs := upto d) h.own).rd
  exact h2
theorem Rp.setFull {w : World} {X : Nat} {box : Bool} {uv : Value} {d : Nat} {full : Bool} (h : Rp w X box uv d full) (b : Bool) : Rp (w.setCell ⟨X, 2, none⟩ (.bool b)) X box uv d b :=
  ⟨by rw [size_setCell]; exact h.lt, by rw [World.cell?_setCell_other _ _ _ _ (by intro e; cases e)]; exact h.c0, by rw [World.cell?_setCell_other _ _ _ _ (by intro e; cases e)]; exact h.c1, World.cell?_setCell_same _ _ _ h.c2, by rw [frozen_setCell]; exact h.z1, by rw [frozen_setCell]; exact h.z2, ownsRow_setCell_other h.own _ (Nat.lt_succ_self _) _⟩
theorem Rp.setUsed {w : World} {X : Nat} {box : Bool} {uv u2 : Value} {d d2 : Nat} {full : Bool} (h : Rp w X box uv d full) (ho : w.ownsRow (X + 1) 2 1 u2 d2 (uptoV d2)) : Rp (w.setCell ⟨X, 1, none⟩ u2) X box u2 d2 full :=
  ⟨by rw [size_setCell]; exact h.lt, by rw [World.cell?_setCell_other _ _ _ _ (by intro e; cases e)]; exact h.c0, World.cell?_setCell_same _ _ _ h.c1, by rw [World.cell?_setCell_other _ _ _ _ (by intro e; cases e)]; exact h.c2, by rw [frozen_setCell]; exact h.z1, by rw [frozen_setCell]; exact h.z2, ownsRow_setCell_other ho _ (Nat.lt_succ_self _) _⟩
/-- The contract of (*replacement).of at one tree. -/
def Of1 (box : Bool) (x : Rg) (k : FRg) : Prop := ∀ (b X d : Nat) (vf uv : Value) (f : List Nd) (full : Bool) (w : World),
  FAtRg w (KX X uv) (.cons x k .nil) [.pointer (some ⟨b, 0, none⟩)] → NdK w (KX X uv) vf f → f.length ≤ 1048576 → d ≤ 3 → Rp w X box uv d full →
  Calls Tryz.prog 75 #[.pointer (some ⟨X, 0, none⟩), .pointer (some ⟨b, 0, none⟩), vf] w fun e w' => ∃ u uv' l, e = .returned u ∧ NdK w' (fun c => w.heap.size ≤ c ∧ uv'.ownBlock ≠ some c) u l ∧ l.length ≤ 32 * (1 + k.flat.length) ∧
    (∀ y, (if full = true then none else opMI box x (FRg.fold (opMI box) k) f d) = some y → l = y) ∧ Rp w' X box uv' d (if full = true then none else opMI box x (FRg.fold (opMI box) k) f d).isNone ∧ Exc (KX X uv) w w' ∧ (∀ c, uv'.ownBlock = some c → uv.ownBlock = some c ∨ w.heap.size ≤ c)
end Go.Proofs.YtcakmchefbohoaaGreatDoor
