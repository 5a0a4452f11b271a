/- Slices of slices of numbers: what is read, what the call owns row by row. No program in sight. -/
import Derived.Test.YthnlnnbhkpnkgaaMem
import Derived.Maps.AppendAt
set_option linter.unusedVariables false
set_option linter.unusedSimpArgs false
namespace Go.Proofs.Ythnlnnbhkpnkgaa
open Go.RowKit

theorem ownsRow_below {w w' : World} {base e sz : Nat} {v : Value} {n : Nat} {xs : List Value} (h : w.ownsRow base e sz v n xs) (hb : Below w.heap.size w w') : w'.ownsRow base e sz v n xs :=
  h.kept (row := none) ⟨hb.os, hb.tape, hb.output, hb.size, fun k hk _ => hb.block k hk⟩ (by cases v.ownBlock <;> simp)
theorem fillRow_congr {f g : Nat → Value} (n k : Nat) (z : Value) (h : ∀ i, i < k → f i = g i) : fillRow f n k z = fillRow g n k z := by
  unfold fillRow
  congr 1
  exact List.map_congr_left fun i hi => h i (by simpa using hi)

/-- The i-th row (the empty one behind the end). -/
def rnth (xss : List (List Int)) (i : Nat) : List Int := xss.getD i []
theorem rnth_eq (xss : List (List Int)) (i : Nat) (h : i < xss.length) : rnth xss i = xss[i] := by simp [rnth, h]
theorem take_rnth (xss : List (List Int)) (i : Nat) (h : i < xss.length) : xss.take (i + 1) = xss.take i ++ [rnth xss i] := by
  rw [List.take_succ_eq_append_getElem h, rnth_eq xss i h]
theorem rnth_append_lt (xss : List (List Int)) (y : List Int) (i : Nat) (h : i < xss.length) : rnth (xss ++ [y]) i = rnth xss i := by simp [rnth, List.getElem?_append_left h]
theorem rnth_append_eq (xss : List (List Int)) (y : List Int) : rnth (xss ++ [y]) xss.length = y := by simp [rnth]

def RdII (w : World) (v : Value) (xss : List (List Int)) : Prop :=
  ∃ vs : Nat → Value, Rd w 1 v xss.length vs ∧ ∀ i, i < xss.length → RdI w (vs i) (rnth xss i)
theorem RdII.below {w w' : World} {v : Value} {xss : List (List Int)} (h : RdII w v xss) (hb : Below w.heap.size w w') : RdII w' v xss := by
  obtain ⟨vs, h1, h2⟩ := h
  exact ⟨vs, h1.below hb, fun i hi => (h2 i hi).below hb⟩
theorem RdII.slice {w : World} {v : Value} {xss : List (List Int)} (h : RdII w v xss) : ∃ a cap, v = .slice a xss.length cap := by
  obtain ⟨vs, ⟨a, cap, rfl, _⟩, _⟩ := h; exact ⟨a, cap, rfl⟩

/-- A slice of rows, all in blocks from lo up to hi, no row in another's block nor in the outer one. -/
def InII (w : World) (lo hi : Nat) (v : Value) (xss : List (List Int)) : Prop :=
  ∃ (vs : Nat → Value) (L H : Nat → Nat) (l h : Nat), lo ≤ l ∧ h ≤ hi ∧ In w l h 1 v xss.length vs ∧
    ∀ i, i < xss.length → lo ≤ L i ∧ H i ≤ hi ∧ InI w (L i) (H i) (vs i) (rnth xss i) ∧ (H i ≤ l ∨ h ≤ L i) ∧ ∀ j, j < xss.length → j ≠ i → (H i ≤ L j ∨ H j ≤ L i)
theorem InII.rd {w : World} {lo hi : Nat} {v : Value} {xss : List (List Int)} (h : InII w lo hi v xss) : RdII w v xss := by
  obtain ⟨vs, L, H, l, h', _, _, h3, h4⟩ := h
  exact ⟨vs, h3.rd, fun i hi => (h4 i hi).2.2.1.rd⟩
theorem InII.below {w w' : World} {lo hi B : Nat} {v : Value} {xss : List (List Int)} (h : InII w lo hi v xss) (hb : Below B w w') (hB : hi ≤ B) : InII w' lo hi v xss := by
  obtain ⟨vs, L, H, l, h', h1, h2, h3, h4⟩ := h
  refine ⟨vs, L, H, l, h', h1, h2, h3.below hb (by omega), fun i hi => ?_⟩
  obtain ⟨q1, q2, q3, q4, q5⟩ := h4 i hi
  exact ⟨q1, q2, q3.below hb (by omega), q4, q5⟩
theorem InII.mod {w w' : World} {lo hi x y : Nat} {v : Value} {xss : List (List Int)} (h : InII w lo hi v xss) (hm : Mod x y w w') (hd : hi ≤ x ∨ y ≤ lo) : InII w' lo hi v xss := by
  obtain ⟨vs, L, H, l, h', h1, h2, h3, h4⟩ := h
  refine ⟨vs, L, H, l, h', h1, h2, h3.mod hm (by omega), fun i hi => ?_⟩
  obtain ⟨q1, q2, q3, q4, q5⟩ := h4 i hi
  exact ⟨q1, q2, q3.mod hm (by omega), q4, q5⟩
theorem InII.inn {w : World} {lo hi : Nat} {v : Value} {xss : List (List Int)} (h : InII w lo hi v xss) : InII w lo hi v xss := h
theorem InII.lower {w : World} {lo lo' hi : Nat} {v : Value} {xss : List (List Int)} (h : InII w lo hi v xss) (hl : lo' ≤ lo) : InII w lo' hi v xss := by
  obtain ⟨vs, L, H, l, h', h1, h2, h3, h4⟩ := h
  refine ⟨vs, L, H, l, h', by omega, h2, h3, fun i hi => ?_⟩
  obtain ⟨q1, q2, q3, q4, q5⟩ := h4 i hi
  exact ⟨by omega, q2, q3, q4, q5⟩
theorem InII_nil (w : World) (lo hi : Nat) (hl : lo ≤ hi) : InII w lo hi (.slice none 0 0) [] :=
  ⟨fun _ => .slice none 0 0, fun _ => lo, fun _ => lo, lo, lo, Nat.le_refl _, hl, ⟨none, 0, rfl, Nat.le_refl _, Nat.zero_le _, fun h => absurd h (by simp)⟩, fun i hi => absurd hi (by simp)⟩

/-- How many numbers the first i rows hold. -/
def offs (xss : List (List Int)) : Nat → Nat
  | 0 => 0
  | i + 1 => offs xss i + (rnth xss i).length
theorem offs_mono (xss : List (List Int)) {i j : Nat} (h : i ≤ j) : offs xss i ≤ offs xss j := by
  induction j with
  | zero => obtain rfl : i = 0 := by omega
            exact Nat.le_refl _
  | succ j ih =>
    by_cases e : i = j + 1
    · rw [e]; exact Nat.le_refl _
    · have := ih (by omega)
      rw [offs]; omega
def total (xss : List (List Int)) : Nat := offs xss xss.length
theorem row_le (xss : List (List Int)) (i : Nat) (h : i < xss.length) : (rnth xss i).length ≤ total xss := by
  have := offs_mono xss (show i + 1 ≤ xss.length by omega)
  rw [offs] at this
  unfold total; omega
/-- A grid in the making: the outer row is the call's own, its rows lie in blocks of their own from B on. -/
def OwGv (w : World) (B T : Nat) (v : Value) (xss : List (List Int)) (vs : List Value) : Prop :=
  ∃ (L H : Nat → Nat), w.ownsRow B T 1 v xss.length vs ∧
    ∀ i, i < xss.length → ∃ x, vs[i]? = some x ∧ B ≤ L i ∧ H i ≤ w.heap.size ∧ InI w (L i) (H i) x (rnth xss i) ∧ (∀ k, v.ownBlock = some k → H i ≤ k ∨ k < L i) ∧ ∀ j, j < xss.length → j ≠ i → (H i ≤ L j ∨ H j ≤ L i)
def OwG (w : World) (B T : Nat) (v : Value) (xss : List (List Int)) : Prop := ∃ vs, OwGv w B T v xss vs
theorem OwG_nil (w : World) (B T : Nat) : OwG w B T (.slice none 0 0) [] := ⟨[], fun _ => 0, fun _ => 0, World.ownsRow_nil _ _ _ _, fun i hi => absurd hi (by simp)⟩
theorem OwG_made (w : World) (B T : Nat) (hB : B ≤ w.heap.size) : OwG (w.alloc (.cells #[] T)) B T (.slice (some ⟨w.heap.size, 0, none⟩) 0 0) [] :=
  ⟨[], fun _ => 0, fun _ => 0, World.ownsRow_made w #[] 0 hB (by unfold maxLen; omega) rfl, fun i hi => absurd hi (by simp)⟩
theorem OwGv.own {w : World} {B T : Nat} {v : Value} {xss : List (List Int)} {vs : List Value} (h : OwGv w B T v xss vs) : w.ownsRow B T 1 v xss.length vs := by
  obtain ⟨_, _, h1, _⟩ := h; exact h1
theorem OwG.below {w w' : World} {B T : Nat} {v : Value} {xss : List (List Int)} (h : OwG w B T v xss) (hb : Below w.heap.size w w') : OwG w' B T v xss := by
  obtain ⟨vs, L, H, h1, h2⟩ := h
  refine ⟨vs, L, H, ownsRow_below h1 hb, fun i hi => ?_⟩
  obtain ⟨x, q1, q2, q3, q4, q5, q6⟩ := h2 i hi
  exact ⟨x, q1, q2, Nat.le_trans q3 hb.size, q4.below hb q3, q5, q6⟩
theorem OwG.len {w : World} {B T : Nat} {v : Value} {xss : List (List Int)} (h : OwG w B T v xss) : ∃ a cap, v = .slice a xss.length cap := by
  obtain ⟨vs, L, H, h1, _⟩ := h
  rcases h1.2 with ⟨rfl, h⟩ | ⟨g, cap, cur, rfl, _⟩
  · exact ⟨none, 0, by rw [h]⟩
  · exact ⟨_, cap, rfl⟩
/-- The grid is done. -/
theorem OwG.inn {w : World} {B T : Nat} {v : Value} {xss : List (List Int)} (h : OwG w B T v xss) (hB : B ≤ w.heap.size) : InII w B w.heap.size v xss := by
  obtain ⟨vs, L, H, h1, h2⟩ := h
  obtain ⟨e1, e2⟩ := id h1
  have hf : ∀ i, i < xss.length → vs[i]? = some (vs.getD i undef) := fun i hi => by
    have : i < vs.length := by omega
    simp [this]
  rcases e2 with ⟨rfl, e⟩ | ⟨g, cap, cur, rfl, hg, hh, hr⟩
  · have : xss = [] := List.eq_nil_of_length_eq_zero e
    subst this
    exact InII_nil _ _ _ hB
  · have hlt := (Array.getElem?_eq_some_iff.1 hh).1
    have ho := ownsRow_ow h1 (fun i => vs.getD i undef) (fun i hi => hf i (by omega))
    refine ⟨fun i => vs.getD i undef, L, H, g, g + 1, hg, by omega, ?_, fun i hi => ?_⟩
    · obtain ⟨a, cap', q1, q2, q3, q4⟩ := ho
      refine ⟨a, cap', q1, q2, q3, fun hn => ?_⟩
      obtain ⟨b, o, rfl, p1, p2, p3⟩ := q4 hn
      cases q1
      exact ⟨_, _, rfl, Nat.le_refl _, by omega, p2, p3⟩
    · obtain ⟨x, q1, q2, q3, q4, q5, q6⟩ := h2 i hi
      have ex : x = vs.getD i undef := by
        have := hf i hi
        rw [q1] at this
        exact Option.some.inj this
      subst ex
      have := q5 g rfl
      exact ⟨q2, q3, q4, by omega, q6⟩
/-- One row more: its cells lie in blocks from l up to h, all younger than the grid as it stood. -/
theorem OwGv.append {w0 w w' : World} {B T : Nat} {v v' x : Value} {xss : List (List Int)} {y : List Int} {vs : List Value} (h : OwGv w0 B T v xss vs) (hb : Below w0.heap.size w0 w)
    (hx : InI w w0.heap.size w.heap.size x y) (hB : B ≤ w0.heap.size)
    (hown : w'.ownsRow B T 1 v' (xss.length + 1) (vs ++ [x])) (hg : w.grownBy w' v.ownBlock) (hloc : v'.ownBlock = v.ownBlock ∨ ∃ k, v'.ownBlock = some k ∧ w.heap.size ≤ k) : OwG w' B T v' (xss ++ [y]) := by
  obtain ⟨L, H, h1, h2⟩ := h
  have h1' := ownsRow_below h1 hb
  have hlen : vs.length = xss.length := by have := h1.1; omega
  have hlt := h1.lt
  have hst : ∀ (a b : Nat) (z : Value) (q : List Int), InI w a b z q → (∀ k, v.ownBlock = some k → b ≤ k ∨ k < a) → InI w' a b z q := fun a b z q hi hk =>
    In.stay hi hg.size fun k k1 k2 k3 => hg.block k k3 fun e => by have := hk k e.symm; omega
  refine ⟨vs ++ [x], fun i => if i = xss.length then w0.heap.size else L i, fun i => if i = xss.length then w.heap.size else H i, by rw [List.length_append]; exact hown, fun i hi => ?_⟩
  rw [List.length_append] at hi
  by_cases e : i = xss.length
  · subst e
    refine ⟨x, by rw [List.getElem?_append_right (by omega)]; simp [hlen], ?_⟩
    dsimp only
    rw [if_pos rfl, if_pos rfl, rnth_append_eq]
    refine ⟨hB, hg.size, hst _ _ _ _ hx fun k hk => ?_, fun k hk => ?_, fun j hj hji => ?_⟩
    · have := hlt k hk; omega
    · rcases hloc with hl | ⟨k', hk', hge⟩
      · rw [hl] at hk; have := hlt k hk; omega
      · rw [hk'] at hk; cases hk; omega
    · rw [List.length_append] at hj
      simp only [List.length_cons, List.length_nil] at hj
      rw [if_neg (by omega), if_neg (by omega)]
      obtain ⟨_, _, _, q3, _⟩ := h2 j (by omega)
      omega
  · simp only [List.length_cons, List.length_nil] at hi
    have hi' : i < xss.length := by omega
    obtain ⟨z, q1, q2, q3, q4, q5, q6⟩ := h2 i hi'
    refine ⟨z, by rw [List.getElem?_append_left (by omega)]; exact q1, ?_⟩
    dsimp only
    rw [if_neg e, if_neg e, rnth_append_lt _ _ _ hi']
    refine ⟨q2, by have := hb.size; have := hg.size; omega, hst _ _ _ _ (q4.below hb q3) q5, fun k hk => ?_, fun j hj hji => ?_⟩
    · rcases hloc with hl | ⟨k', hk', hge⟩
      · rw [hl] at hk; exact q5 k hk
      · rw [hk'] at hk; cases hk; have := hb.size; omega
    · rw [List.length_append] at hj
      simp only [List.length_cons, List.length_nil] at hj
      by_cases ej : j = xss.length
      · rw [if_pos ej, if_pos ej]; omega
      · rw [if_neg ej, if_neg ej]; exact q6 j (by omega) hji
theorem cell_one_new' (w : World) (x : Value) (T n : Nat) (hn : n = w.heap.size) : ∀ j u, [x][j]? = some u → (w.alloc (.cells #[x] T)).cell? ((⟨n, 0, none⟩ : Addr).add j) = some u := by
  subst hn; exact cell_one_new _ _ _
/-- 'append(out, []int64{a, b})': what the law on append leaves. -/
theorem grid_pair {wr w1 : World} {B T E S : Nat} {v v' : Value} {xss : List (List Int)} {vs : List Value} {a b : Int} (h : OwGv wr B T v xss vs) (hB : B ≤ wr.heap.size)
    (hown : w1.ownsRow B T 1 v' (xss.length + 1) (vs ++ [.slice (some ⟨wr.heap.size, 0, none⟩) 2 2]))
    (hg : ((wr.alloc (.cells #[.int .i64 a, .int .i64 b] E)).alloc (.cells #[.slice (some ⟨wr.heap.size, 0, none⟩) 2 2] S)).grownBy w1 v.ownBlock)
    (hloc : v'.ownBlock = v.ownBlock ∨ v'.ownBlock = some (wr.heap.size + 1 + 1)) : OwG w1 B T v' (xss ++ [[a, b]]) := by
  have hrow : OwI (wr.alloc (.cells #[.int .i64 a, .int .i64 b] E)) wr.heap.size (.slice (some ⟨wr.heap.size, 0, none⟩) 2 2) [a, b] := by
    refine rd_alloc wr _ E 2 _ rfl (by unfold maxLen; omega) fun i hi => ?_
    have : i = 0 ∨ i = 1 := by omega
    rcases this with rfl | rfl <;> rfl
  have hrow2 := (hrow.below ((Below.refl _ _).alloc (Nat.le_refl _) (.cells #[.slice (some ⟨wr.heap.size, 0, none⟩) 2 2] S))).inn
  exact h.append (((Below.refl _ _).alloc (Nat.le_refl _) _).alloc (by simp) _) hrow2 hB hown hg (hloc.imp id fun e => ⟨_, e, by simp⟩)
end Go.Proofs.Ythnlnnbhkpnkgaa
