/- Rws of cells, some of which are slices themselves: how they read, and what keeps them. No program in sight. -/
import Derived.Test.YtdlldgenkmngiaaMem
import Derived.Test.YtdlldgenkmngiaaGrid
import Derived.WalkKit
import Derived.Deep.Draws
set_option linter.unusedVariables false
set_option linter.unusedSimpArgs false
namespace Go.Proofs.Ytdlldgenkmngiaa
open Go.RowKit

/-- The i-th element, another behind the end. -/
def gnth {α : Type} (d : α) (f : List α) (i : Nat) : α := f.getD i d
theorem gnth_eq {α : Type} (d : α) (f : List α) (i : Nat) (h : i < f.length) : gnth d f i = f[i] := by simp [gnth, h]
theorem take_gnth {α : Type} (d : α) (f : List α) (i : Nat) (h : i < f.length) : f.take (i + 1) = f.take i ++ [gnth d f i] := by
  rw [List.take_succ_eq_append_getElem h, gnth_eq d f i h]
theorem g_ext {α : Type} (d : α) {f g : List α} (hl : f.length = g.length) (h : ∀ i, i < f.length → gnth d f i = gnth d g i) : f = g := by
  refine List.ext_getElem hl fun i h1 h2 => ?_
  rw [← gnth_eq d f i h1, ← gnth_eq d g i h2]
  exact h i h1
theorem gnth_range {α : Type} (d : α) (g : Nat → α) (n i : Nat) (h : i < n) : gnth d ((List.range n).map g) i = g i := by simp [gnth, h]

/-- n rows of sz cells each, in a block from lo up to hi; Q says what lies in each cell. -/
def Rws (w : World) (lo hi : Nat) (v : Value) (n sz : Nat) (Q : Nat → Nat → Value → Prop) : Prop :=
  ∃ a cap, v = .slice a n cap ∧ n ≤ cap ∧ cap ≤ maxLen ∧ (0 < n → ∃ b o, a = some ⟨b, o, none⟩ ∧ lo ≤ b ∧ b < hi ∧ b < w.heap.size ∧ ∀ i j, i < n → j < sz → ∃ u, w.cell? ⟨b, o + i * sz + j, none⟩ = some u ∧ Q i j u)
theorem Rws.imp {w : World} {lo hi lo' hi' n sz : Nat} {v : Value} {Q Q' : Nat → Nat → Value → Prop} (h : Rws w lo hi v n sz Q) (h1 : lo' ≤ lo) (h2 : hi ≤ hi') (hq : ∀ i j u, i < n → j < sz → Q i j u → Q' i j u) : Rws w lo' hi' v n sz Q' := by
  obtain ⟨a, cap, rfl, q1, q2, q3⟩ := h
  refine ⟨a, cap, rfl, q1, q2, fun h0 => ?_⟩
  obtain ⟨b, o, rfl, p1, p2, p3, p4⟩ := q3 h0
  refine ⟨b, o, rfl, by omega, by omega, p3, fun i j hi hj => ?_⟩
  obtain ⟨u, hu, hq'⟩ := p4 i j hi hj
  exact ⟨u, hu, hq i j u hi hj hq'⟩
/-- The blocks from lo up to hi are as they were. -/
def Keep (lo hi : Nat) (w w' : World) : Prop := w.heap.size ≤ w'.heap.size ∧ ∀ b, lo ≤ b → b < hi → b < w.heap.size → w'.heap[b]? = w.heap[b]?
theorem Keep.of_below {w w' : World} (lo hi : Nat) (h : Below w.heap.size w w') : Keep lo hi w w' := ⟨h.size, fun b _ _ hb => h.block b hb⟩
theorem Keep.of_below' {w w' : World} {B : Nat} (lo hi : Nat) (h : Below B w w') (hB : hi ≤ B) : Keep lo hi w w' := ⟨h.size, fun b _ hb _ => h.block b (by omega)⟩
theorem Keep.refl (lo hi : Nat) (w : World) : Keep lo hi w w := ⟨Nat.le_refl _, fun _ _ _ _ => rfl⟩
theorem Keep.trans {lo hi : Nat} {a b c : World} (h : Keep lo hi a b) (k : Keep lo hi b c) : Keep lo hi a c :=
  ⟨Nat.le_trans h.1 k.1, fun x h1 h2 h3 => (k.2 x h1 h2 (Nat.lt_of_lt_of_le h3 h.1)).trans (h.2 x h1 h2 h3)⟩
theorem Keep.setCell {lo hi : Nat} {a w : World} (h : Keep lo hi a w) {p : Addr} (hp : p.block < lo ∨ hi ≤ p.block) (v : Value) : Keep lo hi a (w.setCell p v) :=
  h.trans ⟨by simp [World.setCell], fun b h1 h2 _ => Below.heap_setCell _ _ _ _ (by omega)⟩
theorem Rws.keep {w w' : World} {lo hi n sz : Nat} {v : Value} {Q Q' : Nat → Nat → Value → Prop} (h : Rws w lo hi v n sz Q) (hk : Keep lo hi w w') (hq : ∀ i j u, i < n → j < sz → Q i j u → Q' i j u) : Rws w' lo hi v n sz Q' := by
  obtain ⟨a, cap, rfl, q1, q2, q3⟩ := h
  refine ⟨a, cap, rfl, q1, q2, fun h0 => ?_⟩
  obtain ⟨b, o, rfl, p1, p2, p3, p4⟩ := q3 h0
  refine ⟨b, o, rfl, p1, p2, Nat.lt_of_lt_of_le p3 hk.1, fun i j hi hj => ?_⟩
  obtain ⟨u, hu, hq'⟩ := p4 i j hi hj
  exact ⟨u, (World.cell?_of_block (a := ⟨b, o + i * sz + j, none⟩) (hk.2 b p1 p2 p3)).trans hu, hq i j u hi hj hq'⟩
theorem Rws.cells {w : World} {lo hi n sz cap : Nat} {a : Option Addr} {Q : Nat → Nat → Value → Prop} (h : Rws w lo hi (.slice a n cap) n sz Q) {i : Nat} (hi' : i < n) :
    ∃ b o, a = some ⟨b, o, none⟩ ∧ b < w.heap.size ∧ ∀ j, j < sz → ∃ u, w.cell? ⟨b, o + i * sz + j, none⟩ = some u ∧ Q i j u := by
  obtain ⟨_, _, e, _, _, q⟩ := h
  cases e
  obtain ⟨b, o, rfl, _, _, p3, p4⟩ := q (by omega)
  exact ⟨b, o, rfl, p3, fun j hj => p4 i j hi' hj⟩
theorem Rws.slice {w : World} {lo hi n sz : Nat} {v : Value} {Q : Nat → Nat → Value → Prop} (h : Rws w lo hi v n sz Q) : ∃ a cap, v = .slice a n cap ∧ n ≤ cap ∧ cap ≤ maxLen := by
  obtain ⟨a, cap, e, h1, h2, _⟩ := h; exact ⟨a, cap, e, h1, h2⟩
theorem Rws_nil (w : World) (lo hi sz : Nat) (Q : Nat → Nat → Value → Prop) : Rws w lo hi (.slice none 0 0) 0 sz Q :=
  ⟨none, 0, rfl, Nat.le_refl _, Nat.zero_le _, fun h => absurd h (by omega)⟩
theorem Rws_of_rd {w : World} {sz n : Nat} {v : Value} {cs : Nat → Value} (h : Rd w sz v n cs) {Q : Nat → Nat → Value → Prop} (hq : ∀ i j, i < n → j < sz → Q i j (cs (i * sz + j))) : Rws w 0 w.heap.size v n sz Q := by
  obtain ⟨a, cap, rfl, q1, q2, q3⟩ := h
  refine ⟨a, cap, rfl, q1, q2, fun h0 => ?_⟩
  obtain ⟨b, o, rfl, p1, p2⟩ := q3 h0
  refine ⟨b, o, rfl, Nat.zero_le _, p1, p1, fun i j hi hj => ⟨_, ?_, hq i j hi hj⟩⟩
  have : (i + 1) * sz ≤ n * sz := Nat.mul_le_mul_right _ hi
  rw [Nat.succ_mul] at this
  have := p2 (i * sz + j) (by omega)
  rwa [Nat.add_assoc]
/-- A row that the call owns, whose cells are known. -/
theorem Rws_of_own {w : World} {base e sz n : Nat} {v : Value} {X : List Value} (h : w.ownsRow base e sz v n X) {hi : Nat} (hh : w.heap.size ≤ hi) {Q : Nat → Nat → Value → Prop} (hq : ∀ i j, i < n → j < sz → ∃ u, X[i * sz + j]? = some u ∧ Q i j u) : Rws w base hi v n sz Q := by
  obtain ⟨h1, h2⟩ := h
  rcases h2 with ⟨rfl, rfl⟩ | ⟨g, cap, cur, rfl, hg, hh', hn, hm, hs, ht⟩
  · exact Rws_nil _ _ _ _ _
  · have hsz := (Array.getElem?_eq_some_iff.1 hh').1
    refine ⟨_, cap, rfl, hn, hm, fun _ => ⟨g, 0, rfl, hg, by omega, hsz, fun i j hi hj => ?_⟩⟩
    have hown : w.ownsRow base e sz (.slice (some ⟨g, 0, none⟩) n cap) n X := ⟨h1, .inr ⟨g, cap, cur, rfl, hg, hh', hn, hm, hs, ht⟩⟩
    obtain ⟨u, hu, hq'⟩ := hq i j hi hj
    have : (i + 1) * sz ≤ n * sz := Nat.mul_le_mul_right _ hi
    rw [Nat.succ_mul] at this
    refine ⟨u, ?_, hq'⟩
    rw [Nat.zero_add]
    exact (hown.cellAt (i * sz + j) (by omega)).trans hu
/-- The sum of the first n values. -/
def sumTo (g : Nat → Nat) : Nat → Nat
  | 0 => 0
  | i + 1 => sumTo g i + g i
theorem sumTo_mono (g : Nat → Nat) {i j : Nat} (h : i ≤ j) : sumTo g i ≤ sumTo g j := by
  induction j with
  | zero => rw [show i = 0 by omega]; exact Nat.le_refl _
  | succ j ih =>
    by_cases e : i = j + 1
    · rw [e]; exact Nat.le_refl _
    · have := ih (by omega)
      rw [sumTo]; omega
theorem sumTo_le (g : Nat → Nat) {i n : Nat} (h : i < n) : g i ≤ sumTo g n := by
  have := sumTo_mono g (show i + 1 ≤ n by omega)
  rw [sumTo] at this; omega

theorem sumTo_zero (n : Nat) {g : Nat → Nat} (h : ∀ i, g i = 0) : sumTo g n = 0 := by
  induction n with
  | zero => rfl
  | succ n ih => rw [sumTo, ih, h]

/-- Numbers. -/
def GI (w : World) (lo hi : Nat) (v : Value) (xs : List Int) : Prop := Rws w lo hi v xs.length 1 fun i _ u => u = .int .i64 (nth xs i)
theorem GI.mono {w : World} {lo hi lo' hi' : Nat} {v : Value} {xs : List Int} (h : GI w lo hi v xs) (h1 : lo' ≤ lo) (h2 : hi ≤ hi') : GI w lo' hi' v xs := Rws.imp h h1 h2 fun _ _ _ _ _ h => h
theorem GI.keep {w w' : World} {lo hi : Nat} {v : Value} {xs : List Int} (h : GI w lo hi v xs) (hk : Keep lo hi w w') : GI w' lo hi v xs := Rws.keep h hk fun _ _ _ _ _ h => h
theorem GI.rd {w : World} {lo hi : Nat} {v : Value} {xs : List Int} (h : GI w lo hi v xs) : RdI w v xs := by
  obtain ⟨a, cap, rfl, q1, q2, q3⟩ := h
  refine ⟨a, cap, rfl, q1, q2, fun h0 => ?_⟩
  obtain ⟨b, o, rfl, p1, p2, p3, p4⟩ := q3 h0
  refine ⟨b, o, rfl, p3, fun i hi => ?_⟩
  obtain ⟨u, hu, rfl⟩ := p4 i 0 (by omega) (by omega)
  rw [show o + i * 1 + 0 = o + i by omega] at hu
  exact hu
theorem RdI.gi {w : World} {v : Value} {xs : List Int} (h : RdI w v xs) : GI w 0 w.heap.size v xs := Rws_of_rd h fun i j hi hj => by
  rw [show i * 1 + j = i by omega]; rfl
theorem OwI.gi {w : World} {base : Nat} {v : Value} {xs : List Int} (h : OwI w base v xs) : GI w base w.heap.size v xs := by
  obtain ⟨a, cap, rfl, q1, q2, q3⟩ := h
  refine ⟨a, cap, rfl, q1, q2, fun h0 => ?_⟩
  obtain ⟨b, o, rfl, p1, p2, p3⟩ := q3 h0
  refine ⟨b, o, rfl, p1, p2, p2, fun i j hi hj => ⟨_, ?_, rfl⟩⟩
  rw [show o + i * 1 + j = o + i by omega]
  exact (p3 i (by omega)).1
/-- Texts. -/
def GS (w : World) (lo hi : Nat) (v : Value) (ss : List ByteArray) : Prop := Rws w lo hi v ss.length 1 fun i _ u => u = .string (snth ss i)
theorem GS.mono {w : World} {lo hi lo' hi' : Nat} {v : Value} {xs : List ByteArray} (h : GS w lo hi v xs) (h1 : lo' ≤ lo) (h2 : hi ≤ hi') : GS w lo' hi' v xs := Rws.imp h h1 h2 fun _ _ _ _ _ h => h
theorem GS.keep {w w' : World} {lo hi : Nat} {v : Value} {xs : List ByteArray} (h : GS w lo hi v xs) (hk : Keep lo hi w w') : GS w' lo hi v xs := Rws.keep h hk fun _ _ _ _ _ h => h
theorem GS.rd {w : World} {lo hi : Nat} {v : Value} {xs : List ByteArray} (h : GS w lo hi v xs) : RdS w v xs := by
  obtain ⟨a, cap, rfl, q1, q2, q3⟩ := h
  refine ⟨a, cap, rfl, q1, q2, fun h0 => ?_⟩
  obtain ⟨b, o, rfl, p1, p2, p3, p4⟩ := q3 h0
  refine ⟨b, o, rfl, p3, fun i hi => ?_⟩
  obtain ⟨u, hu, rfl⟩ := p4 i 0 (by omega) (by omega)
  rw [show o + i * 1 + 0 = o + i by omega] at hu
  exact hu
theorem RdS.gs {w : World} {v : Value} {xs : List ByteArray} (h : RdS w v xs) : GS w 0 w.heap.size v xs := Rws_of_rd h fun i j hi hj => by
  rw [show i * 1 + j = i by omega]; rfl
theorem OwS.gs {w : World} {base : Nat} {v : Value} {xs : List ByteArray} (h : OwS w base v xs) : GS w base w.heap.size v xs := by
  obtain ⟨a, cap, rfl, q1, q2, q3⟩ := h
  refine ⟨a, cap, rfl, q1, q2, fun h0 => ?_⟩
  obtain ⟨b, o, rfl, p1, p2, p3⟩ := q3 h0
  refine ⟨b, o, rfl, p1, p2, p2, fun i j hi hj => ⟨_, ?_, rfl⟩⟩
  rw [show o + i * 1 + j = o + i by omega]
  exact (p3 i (by omega)).1
theorem GS.cells {w : World} {lo hi n cap : Nat} {a : Option Addr} {ss : List ByteArray} (h : GS w lo hi (.slice a n cap) ss) {i : Nat} (hi' : i < ss.length) :
    ∃ b o, a = some ⟨b, o, none⟩ ∧ b < w.heap.size ∧ w.cell? ⟨b, o + i, none⟩ = some (.string (snth ss i)) := by
  obtain ⟨_, _, e, _⟩ := Rws.slice h
  cases e
  obtain ⟨b, o, rfl, hb, hc⟩ := Rws.cells h hi'
  obtain ⟨u, hu, rfl⟩ := hc 0 (by decide)
  rw [show o + i * 1 + 0 = o + i by omega] at hu
  exact ⟨b, o, rfl, hb, hu⟩
theorem GI.cells {w : World} {lo hi n cap : Nat} {a : Option Addr} {ss : List Int} (h : GI w lo hi (.slice a n cap) ss) {i : Nat} (hi' : i < ss.length) :
    ∃ b o, a = some ⟨b, o, none⟩ ∧ b < w.heap.size ∧ w.cell? ⟨b, o + i, none⟩ = some (.int .i64 (nth ss i)) := by
  obtain ⟨_, _, e, _⟩ := Rws.slice h
  cases e
  obtain ⟨b, o, rfl, hb, hc⟩ := Rws.cells h hi'
  obtain ⟨u, hu, rfl⟩ := hc 0 (by decide)
  rw [show o + i * 1 + 0 = o + i by omega] at hu
  exact ⟨b, o, rfl, hb, hu⟩
theorem GI.slice {w : World} {lo hi : Nat} {v : Value} {f : List Int} (h : GI w lo hi v f) : ∃ a cap, v = .slice a f.length cap ∧ f.length ≤ cap ∧ cap ≤ maxLen := Rws.slice h
theorem GS.slice {w : World} {lo hi : Nat} {v : Value} {f : List ByteArray} (h : GS w lo hi v f) : ∃ a cap, v = .slice a f.length cap ∧ f.length ≤ cap ∧ cap ≤ maxLen := Rws.slice h
theorem drewN_below {w w' : World} (h : ∃ m, w' = w.drewN m) : Below w.heap.size w w' := by
  obtain ⟨m, rfl⟩ := h
  exact ⟨rfl, rfl, rfl, Nat.le_refl _, fun _ _ => rfl⟩
theorem calls_below {P : Program} {f : FuncId} {args : Array Value} {w : World} {v : Value} (h : Calls P f args w fun e w' => e = .returned v ∧ ∃ m, w' = w.drewN m) : Calls P f args w fun e w' => e = .returned v ∧ Below w.heap.size w w' :=
  h.mono fun _ _ h => ⟨h.1, drewN_below h.2⟩
theorem box_one {w w1 : World} {a b : Obj} (h : Below ((w.alloc a).alloc b).heap.size ((w.alloc a).alloc b) w1) : w1.heap[w.heap.size]? = some a := by
  rw [h.block _ (by simp only [World.size_alloc]; omega)]
  show ((w.heap.push a).push b)[w.heap.size]? = some a
  rw [Array.getElem?_push, if_neg (by simp), Array.getElem?_push, if_pos (by simp)]
theorem box_two {w w1 : World} {a b : Obj} (h : Below ((w.alloc a).alloc b).heap.size ((w.alloc a).alloc b) w1) : w1.heap[w.heap.size + 1]? = some b := by
  rw [h.block _ (by simp only [World.size_alloc]; omega)]
  show ((w.heap.push a).push b)[w.heap.size + 1]? = some b
  rw [Array.getElem?_push, if_pos (by simp)]
theorem lt_of_some {w : World} {k : Nat} {o : Obj} (h : w.heap[k]? = some o) : k < w.heap.size := (Array.getElem?_eq_some_iff.1 h).1
theorem box_only {w w1 : World} {a : Obj} (h : Below (w.alloc a).heap.size (w.alloc a) w1) : w1.heap[w.heap.size]? = some a := by
  rw [h.block _ (by simp)]
  show (w.heap.push a)[w.heap.size]? = some a
  rw [Array.getElem?_push, if_pos rfl]
theorem box_first {w w1 : World} {a b c : Obj} (h : Below (((w.alloc a).alloc b).alloc c).heap.size (((w.alloc a).alloc b).alloc c) w1) : w1.heap[w.heap.size]? = some a := by
  rw [h.block _ (by simp only [World.size_alloc]; omega)]
  show (((w.heap.push a).push b).push c)[w.heap.size]? = some a
  rw [Array.getElem?_push, if_neg (by simp; omega), Array.getElem?_push, if_neg (by simp), Array.getElem?_push, if_pos (by simp)]
theorem below3 (w : World) (a b c : Obj) : Below w.heap.size w (((w.alloc a).alloc b).alloc c) := (((Below.refl _ w).alloc (Nat.le_refl _) _).alloc (by simp) _).alloc (by simp; omega) _
theorem box_third {w w1 : World} {a b c : Obj} (h : Below (((w.alloc a).alloc b).alloc c).heap.size (((w.alloc a).alloc b).alloc c) w1) : w1.heap[w.heap.size + 1 + 1]? = some c := by
  rw [h.block _ (by simp)]
  show (((w.heap.push a).push b).push c)[w.heap.size + 1 + 1]? = some c
  rw [Array.getElem?_push, if_pos (by simp)]
theorem box_second {w w1 : World} {a b c : Obj} (h : Below (((w.alloc a).alloc b).alloc c).heap.size (((w.alloc a).alloc b).alloc c) w1) : w1.heap[w.heap.size + 1]? = some b := by
  rw [h.block _ (by simp)]
  show (((w.heap.push a).push b).push c)[w.heap.size + 1]? = some b
  rw [Array.getElem?_push, if_neg (by simp), Array.getElem?_push, if_pos (by simp)]
theorem beq_txt (x y : ByteArray) : (x.toList == y.toList) = decide (x = y) := by
  by_cases h : x = y
  · subst h; simp
  · rw [decide_eq_false h]
    cases hq : x.toList == y.toList with
    | false => rfl
    | true =>
      have e : ∀ z : ByteArray, z.toList = z.data.toList := fun z => by rw [ByteArray.toList_eq]
      have h2 : x.toList = y.toList := by simpa using hq
      rw [e, e] at h2
      exact absurd (ByteArray.ext (Array.toList_inj.1 h2)) h
/-- What is left of l behind t, or -1. -/
def cut (t : Nat) (l : Int) : Int := if (t : Int) ≤ l then l - t else -1
theorem cut_yes {t : Nat} {l : Int} (h : (t : Int) ≤ l) : cut t l = l - t := if_pos h
theorem cut_no {t : Nat} {l : Int} (h : ¬ (t : Int) ≤ l) : cut t l = -1 := if_neg h
def totI (xs : List Int) : Nat := xs.length
def okI (xs : List Int) : Prop := True
def totS (ss : List ByteArray) : Nat := ss.length + sumTo (fun i => (snth ss i).size) ss.length
def okS (ss : List ByteArray) : Prop := ∀ i, i < ss.length → (snth ss i).size ≤ maxLen
end Go.Proofs.Ytdlldgenkmngiaa
