/- General lemmas on memory: slices that are read, slices that the call owns, what a callee leaves. No program in sight. -/
import Derived.WalkKit
import Derived.Below
import Derived.Lib.Hide
set_option linter.unusedVariables false
set_option linter.unusedSimpArgs false
namespace Go.Proofs.YtcakmchefbohoaaGreatDoor
open Go.RowKit

/-- The i-th number of a list (0 behind its end), closed to simp. -/
def nth (xs : List Int) (i : Nat) : Int := xs.getD i 0
theorem nth_eq (xs : List Int) (i : Nat) (h : i < xs.length) : nth xs i = xs[i] := by simp [nth, h]
theorem nth_get? (xs : List Int) (i : Nat) (h : i < xs.length) : xs[i]? = some (nth xs i) := by simp [nth, h]
theorem take_nth (xs : List Int) (i : Nat) (h : i < xs.length) : xs.take (i + 1) = xs.take i ++ [nth xs i] := by
  rw [List.take_succ_eq_append_getElem h, nth_eq xs i h]
theorem drop_nth (xs : List Int) (i : Nat) (h : i < xs.length) : xs.drop i = nth xs i :: xs.drop (i + 1) := by
  rw [List.drop_eq_getElem_cons h, nth_eq xs i h]

/-- A slice of n elements of sz cells each that reads as the cells cs. -/
def Rd (w : World) (sz : Nat) (v : Value) (n : Nat) (cs : Nat → Value) : Prop :=
  ∃ a cap, v = .slice a n cap ∧ n ≤ cap ∧ cap ≤ maxLen ∧ (0 < n → ∃ b o, a = some ⟨b, o, none⟩ ∧ b < w.heap.size ∧ ∀ i, i < n * sz → w.cell? ⟨b, o + i, none⟩ = some (cs i))
theorem Rd.below {w w' : World} {sz : Nat} {v : Value} {n : Nat} {cs : Nat → Value} (h : Rd w sz v n cs) (hb : Below w.heap.size w w') : Rd w' sz v n cs := by
  obtain ⟨a, cap, rfl, h1, h2, h3⟩ := h
  refine ⟨a, cap, rfl, h1, h2, fun hn => ?_⟩
  obtain ⟨b, o, rfl, hb', hc⟩ := h3 hn
  exact ⟨b, o, rfl, Nat.lt_of_lt_of_le hb' hb.size, fun i hi => (hb.cell (p := ⟨b, o + i, none⟩) hb').trans (hc i hi)⟩
/-- Numbers as cells. -/
def ic (xs : List Int) (i : Nat) : Value := .int .i64 (nth xs i)
def RdI (w : World) (v : Value) (xs : List Int) : Prop := Rd w 1 v xs.length (ic xs)
theorem RdI.below {w w' : World} {v : Value} {xs : List Int} (h : RdI w v xs) (hb : Below w.heap.size w w') : RdI w' v xs := Rd.below h hb

/-- What a call leaves: below its first new block all is as it was. -/
theorem below_trans' {w w1 w2 : World} (h : Below w.heap.size w w1) (k : Below w1.heap.size w1 w2) : Below w.heap.size w w2 := h.trans (k.mono h.size)

/-- A slice of sz-cell elements that may be written: its cells lie from block base on, none frozen. -/
def Ow (w : World) (base sz : Nat) (v : Value) (n : Nat) (cs : Nat → Value) : Prop :=
  ∃ a cap, v = .slice a n cap ∧ n ≤ cap ∧ cap ≤ maxLen ∧ (0 < n → ∃ b o, a = some ⟨b, o, none⟩ ∧ base ≤ b ∧ b < w.heap.size ∧ ∀ i, i < n * sz → w.cell? ⟨b, o + i, none⟩ = some (cs i) ∧ w.frozen? ⟨b, o + i, none⟩ = false)
theorem Ow.rd {w : World} {base sz : Nat} {v : Value} {n : Nat} {cs : Nat → Value} (h : Ow w base sz v n cs) : Rd w sz v n cs := by
  obtain ⟨a, cap, rfl, h1, h2, h3⟩ := h
  refine ⟨a, cap, rfl, h1, h2, fun hn => ?_⟩
  obtain ⟨b, o, rfl, _, hb', hc⟩ := h3 hn
  exact ⟨b, o, rfl, hb', fun i hi => (hc i hi).1⟩
theorem Ow.below {w w' : World} {base sz : Nat} {v : Value} {n : Nat} {cs : Nat → Value} (h : Ow w base sz v n cs) (hb : Below w.heap.size w w') : Ow w' base sz v n cs := by
  obtain ⟨a, cap, rfl, h1, h2, h3⟩ := h
  refine ⟨a, cap, rfl, h1, h2, fun hn => ?_⟩
  obtain ⟨b, o, rfl, hg, hb', hc⟩ := h3 hn
  exact ⟨b, o, rfl, hg, Nat.lt_of_lt_of_le hb' hb.size, fun i hi => ⟨(hb.cell (p := ⟨b, o + i, none⟩) hb').trans (hc i hi).1, (hb.frozen (p := ⟨b, o + i, none⟩) hb').trans (hc i hi).2⟩⟩
theorem Ow.mono {w : World} {base base' sz : Nat} {v : Value} {n : Nat} {cs : Nat → Value} (h : Ow w base sz v n cs) (hb : base' ≤ base) : Ow w base' sz v n cs := by
  obtain ⟨a, cap, rfl, h1, h2, h3⟩ := h
  refine ⟨a, cap, rfl, h1, h2, fun hn => ?_⟩
  obtain ⟨b, o, rfl, hg, hb', hc⟩ := h3 hn
  exact ⟨b, o, rfl, Nat.le_trans hb hg, hb', hc⟩
def OwI (w : World) (base : Nat) (v : Value) (xs : List Int) : Prop := Ow w base 1 v xs.length (ic xs)
theorem OwI.rd {w : World} {base : Nat} {v : Value} {xs : List Int} (h : OwI w base v xs) : RdI w v xs := Ow.rd h
theorem OwI.below {w w' : World} {base : Nat} {v : Value} {xs : List Int} (h : OwI w base v xs) (hb : Below w.heap.size w w') : OwI w' base v xs := Ow.below h hb

/-- A row of the call's own is such a slice. -/
theorem ownsRow_ow {w : World} {base e sz : Nat} {v : Value} {n : Nat} {xs : List Value} (h : w.ownsRow base e sz v n xs) (cs : Nat → Value) (hcs : ∀ i, i < n * sz → xs[i]? = some (cs i)) : Ow w base sz v n cs := by
  obtain ⟨h1, h2⟩ := h
  rcases h2 with ⟨rfl, rfl⟩ | ⟨g, cap, cur, rfl, hg, hh, hn, hm, hs, ht⟩
  · exact ⟨none, 0, rfl, Nat.le_refl _, Nat.zero_le _, fun h => by omega⟩
  · refine ⟨_, cap, rfl, hn, hm, fun _ => ⟨g, 0, rfl, hg, (Array.getElem?_eq_some_iff.1 hh).1, fun i hi => ?_⟩⟩
    have hown : w.ownsRow base e sz (.slice (some ⟨g, 0, none⟩) n cap) n xs := ⟨h1, .inr ⟨g, cap, cur, rfl, hg, hh, hn, hm, hs, ht⟩⟩
    rw [Nat.zero_add]
    exact ⟨(hown.cellAt i hi).trans (hcs i hi), hown.frozenAt i⟩
theorem ownsRow_owI {w : World} {base e : Nat} {v : Value} {n : Nat} {zs : List Int} (h : w.ownsRow base e 1 v n (zs.map (Value.int .i64))) : OwI w base v zs := by
  have hn : n = zs.length := by have := h.1; simp at this; exact this.symm
  subst hn
  refine ownsRow_ow h _ fun i hi => ?_
  rw [List.getElem?_map, nth_get? zs i (by omega)]
  rfl

/-- A row of n cells, of which the first k are filled by f, the others hold z. -/
def fillRow (f : Nat → Value) (n k : Nat) (z : Value) : List Value := (List.range k).map f ++ List.replicate (n - k) z
theorem fillRow_zero (f : Nat → Value) (n : Nat) (z : Value) : fillRow f n 0 z = List.replicate n z := by simp [fillRow]
theorem fillRow_get (f : Nat → Value) (n k : Nat) (z : Value) (h : k < n) : (fillRow f n k z)[k]? = some z := by
  unfold fillRow
  rw [List.getElem?_append_right (by simp), List.getElem?_replicate]
  simp; omega
theorem fillRow_set (f : Nat → Value) (n k : Nat) (z : Value) (h : k < n) : (fillRow f n k z).set k (f k) = fillRow f n (k + 1) z := by
  unfold fillRow
  rw [List.set_append_right _ _ (by simp), List.range_succ]
  simp [show n - k = (n - (k + 1)) + 1 by omega, List.replicate_succ]
theorem fillRow_full (f : Nat → Value) (n i : Nat) (z : Value) (h : i < n) : (fillRow f n n z)[i]? = some (f i) := by
  unfold fillRow
  rw [List.getElem?_append_left (by simpa using h)]
  simp [h]

/-- Only one block of what was there has changed. -/
theorem grownBy_below {w w' : World} {g B : Nat} (h : w.grownBy w' (some g)) (hg : B ≤ g) (hB : B ≤ w.heap.size) : Below B w w' :=
  ⟨h.os, h.tape, h.output, h.size, fun k hk => h.block k (by omega) (fun e => by cases e; omega)⟩
/-- One block has changed, and no other of what was there. -/
def One (g : Nat) (w w' : World) : Prop := w.grownBy w' (some g)
theorem One.refl (g : Nat) (w : World) : One g w w := ⟨rfl, rfl, rfl, Nat.le_refl _, fun _ _ _ => rfl⟩
theorem One.trans {g : Nat} {a b c : World} (h : One g a b) (k : One g b c) : One g a c :=
  ⟨k.os.trans h.os, k.tape.trans h.tape, k.output.trans h.output, Nat.le_trans h.size k.size, fun i hi hn => (k.block i (Nat.lt_of_lt_of_le hi h.size) hn).trans (h.block i hi hn)⟩
theorem One.setCell (g i : Nat) (w : World) (v : Value) : One g w (w.setCell ⟨g, i, none⟩ v) :=
  ⟨rfl, rfl, rfl, by simp [World.setCell], fun k _ hn => Below.heap_setCell _ _ _ _ (fun e => hn (by simp [e]))⟩
theorem One.alloc (g : Nat) (w : World) (o : Obj) : One g w (w.alloc o) := ⟨rfl, rfl, rfl, by simp, fun k hk _ => Below.heap_alloc _ _ _ hk⟩
theorem One.drew (g : Nat) (w : World) : One g w w.drew := ⟨rfl, rfl, rfl, Nat.le_refl _, fun _ _ _ => rfl⟩
theorem One.below {g B : Nat} {w w' : World} (h : One g w w') (hg : B ≤ g) (hB : B ≤ w.heap.size) : Below B w w' := grownBy_below h hg hB
theorem One.cell {g : Nat} {w w' : World} (h : One g w w') {b o : Nat} (hb : b < w.heap.size) (hn : b ≠ g) : w'.cell? ⟨b, o, none⟩ = w.cell? ⟨b, o, none⟩ :=
  World.cell?_of_block (a := ⟨b, o, none⟩) (h.block b hb (fun e => hn (by simpa using e)))
theorem One.frozen {g : Nat} {w w' : World} (h : One g w w') {b o : Nat} (hb : b < w.heap.size) (hn : b ≠ g) : w'.frozen? ⟨b, o, none⟩ = w.frozen? ⟨b, o, none⟩ :=
  World.frozen?_of_block (a := ⟨b, o, none⟩) (h.block b hb (fun e => hn (by simpa using e)))
theorem frozen_setCell (w : World) (a b : Addr) (v : Value) : (w.setCell a v).frozen? b = w.frozen? b := by
  simp only [World.frozen?, World.setCell, Array.getElem?_modify]
  by_cases h : a.block = b.block
  · rw [if_pos h]
    cases hq : w.heap[b.block]? with
    | none => rfl
    | some o => cases o <;> rfl
  · rw [if_neg h]
theorem addr_ne {b o i k : Nat} (h : i ≠ k) : (⟨b, o + k, none⟩ : Addr) ≠ ⟨b, o + i, none⟩ := by
  intro e
  have := congrArg Addr.off e
  simp only at this
  omega
theorem size_setCell (w : World) (a : Addr) (v : Value) : (w.setCell a v).heap.size = w.heap.size := by simp [World.setCell]
/-- The block of a slice. -/
def blk : Value → Nat
  | .slice (some a) _ _ => a.block
  | _ => 0

/-- Only blocks from lo up to hi have changed, of what was there. -/
structure Mod (lo hi : Nat) (w w' : World) : Prop where
  os : w'.os = w.os
  tape : w'.tape = w.tape
  output : w'.output = w.output
  size : w.heap.size ≤ w'.heap.size
  block : ∀ k, k < w.heap.size → (k < lo ∨ hi ≤ k) → w'.heap[k]? = w.heap[k]?
theorem Mod.refl (lo hi : Nat) (w : World) : Mod lo hi w w := ⟨rfl, rfl, rfl, Nat.le_refl _, fun _ _ _ => rfl⟩
theorem Mod.trans {lo hi : Nat} {a b c : World} (h : Mod lo hi a b) (k : Mod lo hi b c) : Mod lo hi a c :=
  ⟨k.os.trans h.os, k.tape.trans h.tape, k.output.trans h.output, Nat.le_trans h.size k.size, fun i hi hn => (k.block i (Nat.lt_of_lt_of_le hi h.size) hn).trans (h.block i hi hn)⟩
theorem Mod.setCell {lo hi : Nat} {a w : World} (h : Mod lo hi a w) {p : Addr} (h1 : lo ≤ p.block) (h2 : p.block < hi) (v : Value) : Mod lo hi a (w.setCell p v) :=
  h.trans ⟨rfl, rfl, rfl, by simp [World.setCell], fun k _ hn => Below.heap_setCell _ _ _ _ (by omega)⟩
theorem Mod.drew {lo hi : Nat} {a w : World} (h : Mod lo hi a w) : Mod lo hi a w.drew := ⟨h.os, h.tape, h.output, h.size, h.block⟩
theorem Mod.below {lo hi B : Nat} {w w' : World} (h : Mod lo hi w w') (hB : B ≤ lo) (hw : B ≤ w.heap.size) : Below B w w' := ⟨h.os, h.tape, h.output, h.size, fun k hk => h.block k (by omega) (Or.inl (by omega))⟩
theorem Mod.widen {lo hi lo' hi' : Nat} {w w' : World} (h : Mod lo hi w w') (h1 : lo' ≤ lo) (h2 : hi ≤ hi') : Mod lo' hi' w w' := ⟨h.os, h.tape, h.output, h.size, fun k hk hn => h.block k hk (by omega)⟩
/-- A slice whose cells lie in blocks from lo up to hi, none frozen. -/
def In (w : World) (lo hi sz : Nat) (v : Value) (n : Nat) (cs : Nat → Value) : Prop :=
  ∃ a cap, v = .slice a n cap ∧ n ≤ cap ∧ cap ≤ maxLen ∧ (0 < n → ∃ b o, a = some ⟨b, o, none⟩ ∧ lo ≤ b ∧ b < hi ∧ b < w.heap.size ∧ ∀ i, i < n * sz → w.cell? ⟨b, o + i, none⟩ = some (cs i) ∧ w.frozen? ⟨b, o + i, none⟩ = false)
theorem Ow.inn {w : World} {base sz : Nat} {v : Value} {n : Nat} {cs : Nat → Value} (h : Ow w base sz v n cs) : In w base w.heap.size sz v n cs := by
  obtain ⟨a, cap, rfl, h1, h2, h3⟩ := h
  refine ⟨a, cap, rfl, h1, h2, fun hn => ?_⟩
  obtain ⟨b, o, rfl, hg, hb', hc⟩ := h3 hn
  exact ⟨b, o, rfl, hg, hb', hb', hc⟩
theorem In.ow {w : World} {lo hi sz : Nat} {v : Value} {n : Nat} {cs : Nat → Value} (h : In w lo hi sz v n cs) : Ow w lo sz v n cs := by
  obtain ⟨a, cap, rfl, h1, h2, h3⟩ := h
  refine ⟨a, cap, rfl, h1, h2, fun hn => ?_⟩
  obtain ⟨b, o, rfl, hg, _, hb', hc⟩ := h3 hn
  exact ⟨b, o, rfl, hg, hb', hc⟩
theorem In.rd {w : World} {lo hi sz : Nat} {v : Value} {n : Nat} {cs : Nat → Value} (h : In w lo hi sz v n cs) : Rd w sz v n cs := h.ow.rd
theorem In.stay {w w' : World} {lo hi sz : Nat} {v : Value} {n : Nat} {cs : Nat → Value} (h : In w lo hi sz v n cs) (hs : w.heap.size ≤ w'.heap.size) (hb : ∀ k, lo ≤ k → k < hi → k < w.heap.size → w'.heap[k]? = w.heap[k]?) : In w' lo hi sz v n cs := by
  obtain ⟨a, cap, rfl, h1, h2, h3⟩ := h
  refine ⟨a, cap, rfl, h1, h2, fun hn => ?_⟩
  obtain ⟨b, o, rfl, hg, hh, hb', hc⟩ := h3 hn
  have e := hb b hg hh hb'
  exact ⟨b, o, rfl, hg, hh, by omega, fun i hi => ⟨(World.cell?_of_block (a := ⟨b, o + i, none⟩) e).trans (hc i hi).1, (World.frozen?_of_block (a := ⟨b, o + i, none⟩) e).trans (hc i hi).2⟩⟩
theorem In.below {w w' : World} {lo hi sz B : Nat} {v : Value} {n : Nat} {cs : Nat → Value} (h : In w lo hi sz v n cs) (hb : Below B w w') (hB : hi ≤ B) : In w' lo hi sz v n cs :=
  h.stay hb.size fun k _ h2 _ => hb.block k (by omega)
theorem In.mod {w w' : World} {lo hi sz l m : Nat} {v : Value} {n : Nat} {cs : Nat → Value} (h : In w lo hi sz v n cs) (hm : Mod l m w w') (hd : hi ≤ l ∨ m ≤ lo) : In w' lo hi sz v n cs :=
  h.stay hm.size fun k h1 h2 h3 => hm.block k h3 (by omega)
def InI (w : World) (lo hi : Nat) (v : Value) (xs : List Int) : Prop := In w lo hi 1 v xs.length (ic xs)
theorem OwI.inn {w : World} {base : Nat} {v : Value} {xs : List Int} (h : OwI w base v xs) : InI w base w.heap.size v xs := Ow.inn h
theorem InI.ow {w : World} {lo hi : Nat} {v : Value} {xs : List Int} (h : InI w lo hi v xs) : OwI w lo v xs := In.ow h
theorem InI.rd {w : World} {lo hi : Nat} {v : Value} {xs : List Int} (h : InI w lo hi v xs) : RdI w v xs := In.rd h
theorem InI.below {w w' : World} {lo hi B : Nat} {v : Value} {xs : List Int} (h : InI w lo hi v xs) (hb : Below B w w') (hB : hi ≤ B) : InI w' lo hi v xs := In.below h hb hB
theorem InI.mod {w w' : World} {lo hi l m : Nat} {v : Value} {xs : List Int} (h : InI w lo hi v xs) (hm : Mod l m w w') (hd : hi ≤ l ∨ m ≤ lo) : InI w' lo hi v xs := In.mod h hm hd
theorem InI.widen {w : World} {lo hi hi' : Nat} {v : Value} {xs : List Int} (h : InI w lo hi v xs) (hh : hi ≤ hi') : InI w lo hi' v xs := by
  obtain ⟨a, cap, e, h1, h2, h3⟩ := h
  refine ⟨a, cap, e, h1, h2, fun hn => ?_⟩
  obtain ⟨b, o, rfl, q1, q2, q3, q4⟩ := h3 hn
  exact ⟨b, o, rfl, q1, by omega, q3, q4⟩
theorem RdI.len {w : World} {v : Value} {xs : List Int} (h : RdI w v xs) : xs.length ≤ maxLen := by
  obtain ⟨a, cap, _, h1, h2, _⟩ := h; omega
/-- A slice is a slice. -/
theorem RdI.slice {w : World} {v : Value} {xs : List Int} (h : RdI w v xs) : ∃ a cap, v = .slice a xs.length cap := by
  obtain ⟨a, cap, rfl, _⟩ := h; exact ⟨a, cap, rfl⟩
theorem OwI.mono' {w : World} {base base' : Nat} {v : Value} {xs : List Int} (h : OwI w base v xs) (hb : base' ≤ base) : OwI w base' v xs := Ow.mono h hb
theorem OwI_nil (w : World) (base : Nat) : OwI w base (.slice none 0 0) [] := ⟨none, 0, rfl, Nat.le_refl _, Nat.zero_le _, fun h => absurd h (by simp)⟩

/-- The i-th text of a list (the empty one behind its end), closed to simp. -/
def snth (ss : List ByteArray) (i : Nat) : ByteArray := ss.getD i ByteArray.empty
theorem snth_eq (ss : List ByteArray) (i : Nat) (h : i < ss.length) : snth ss i = ss[i] := by simp [snth, h]
theorem snth_get? (ss : List ByteArray) (i : Nat) (h : i < ss.length) : ss[i]? = some (snth ss i) := by simp [snth, h]
theorem take_snth (ss : List ByteArray) (i : Nat) (h : i < ss.length) : ss.take (i + 1) = ss.take i ++ [snth ss i] := by
  rw [List.take_succ_eq_append_getElem h, snth_eq ss i h]
theorem drop_snth (ss : List ByteArray) (i : Nat) (h : i < ss.length) : ss.drop i = snth ss i :: ss.drop (i + 1) := by
  rw [List.drop_eq_getElem_cons h, snth_eq ss i h]
def sc (ss : List ByteArray) (i : Nat) : Value := .string (snth ss i)
def RdS (w : World) (v : Value) (ss : List ByteArray) : Prop := Rd w 1 v ss.length (sc ss)
def OwS (w : World) (base : Nat) (v : Value) (ss : List ByteArray) : Prop := Ow w base 1 v ss.length (sc ss)
def InS (w : World) (lo hi : Nat) (v : Value) (ss : List ByteArray) : Prop := In w lo hi 1 v ss.length (sc ss)
theorem RdS.below {w w' : World} {v : Value} {ss : List ByteArray} (h : RdS w v ss) (hb : Below w.heap.size w w') : RdS w' v ss := Rd.below h hb
theorem OwS.rd {w : World} {base : Nat} {v : Value} {ss : List ByteArray} (h : OwS w base v ss) : RdS w v ss := Ow.rd h
theorem OwS.below {w w' : World} {base : Nat} {v : Value} {ss : List ByteArray} (h : OwS w base v ss) (hb : Below w.heap.size w w') : OwS w' base v ss := Ow.below h hb
theorem OwS.inn {w : World} {base : Nat} {v : Value} {ss : List ByteArray} (h : OwS w base v ss) : InS w base w.heap.size v ss := Ow.inn h
theorem InS.ow {w : World} {lo hi : Nat} {v : Value} {ss : List ByteArray} (h : InS w lo hi v ss) : OwS w lo v ss := In.ow h
theorem InS.rd {w : World} {lo hi : Nat} {v : Value} {ss : List ByteArray} (h : InS w lo hi v ss) : RdS w v ss := In.rd h
theorem InS.below {w w' : World} {lo hi B : Nat} {v : Value} {ss : List ByteArray} (h : InS w lo hi v ss) (hb : Below B w w') (hB : hi ≤ B) : InS w' lo hi v ss := In.below h hb hB
theorem InS.mod {w w' : World} {lo hi l m : Nat} {v : Value} {ss : List ByteArray} (h : InS w lo hi v ss) (hm : Mod l m w w') (hd : hi ≤ l ∨ m ≤ lo) : InS w' lo hi v ss := In.mod h hm hd
theorem RdS.slice {w : World} {v : Value} {ss : List ByteArray} (h : RdS w v ss) : ∃ a cap, v = .slice a ss.length cap := by
  obtain ⟨a, cap, rfl, _⟩ := h; exact ⟨a, cap, rfl⟩
theorem OwS_nil (w : World) (base : Nat) : OwS w base (.slice none 0 0) [] := ⟨none, 0, rfl, Nat.le_refl _, Nat.zero_le _, fun h => absurd h (by simp)⟩
/-- A row that the call has just laid. -/
theorem rd_alloc (w : World) (cs : Array Value) (e : TypeId) (n : Nat) (f : Nat → Value) (hn : cs.size = n) (hm : n ≤ maxLen) (hf : ∀ i, i < n → cs[i]? = some (f i)) :
    Ow (w.alloc (.cells cs e)) w.heap.size 1 (.slice (some ⟨w.heap.size, 0, none⟩) n n) n f := by
  refine ⟨_, n, rfl, Nat.le_refl _, hm, fun _ => ⟨w.heap.size, 0, rfl, Nat.le_refl _, by simp, fun i hi => ?_⟩⟩
  rw [Nat.zero_add, cell_of_row _ _ _ _ _ _ (heap_alloc_new w _)]
  exact ⟨hf i (by omega), frozen_of_row _ _ _ _ _ (heap_alloc_new w _)⟩
end Go.Proofs.YtcakmchefbohoaaGreatDoor
