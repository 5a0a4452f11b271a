/- Slices of slices of numbers: what is read, what the call owns row by row. No program in sight. -/
import Derived.Test.YtcakmchefbohoaaGreatDoorMem
import Derived.Maps.AppendAt
set_option linter.unusedVariables false
set_option linter.unusedSimpArgs false
namespace Go.Proofs.YtcakmchefbohoaaGreatDoor
open Go.RowKit

theorem ownsRow_below {w w' : World} {base e sz : Nat} {v : Value} {n : Nat} {xs : List Value} (h : w.ownsRow base e sz v n xs) (hb : Below w.heap.size w w') : w'.ownsRow base e sz v n xs :=
  h.kept (row := none) ⟨hb.os, hb.tape, hb.output, hb.size, fun k hk _ => hb.block k hk⟩ (by cases v.ownBlock <;> simp)
theorem fillRow_congr {f g : Nat → Value} (n k : Nat) (z : Value) (h : ∀ i, i < k → f i = g i) : fillRow f n k z = fillRow g n k z := by
  unfold fillRow
  congr 1
  exact List.map_congr_left fun i hi => h i (by simpa using hi)

/-- The i-th row (the empty one behind the end). -/
def rnth (xss : List (List Int)) (i : Nat) : List Int := xss.getD i []
theorem rnth_eq (xss : List (List Int)) (i : Nat) (h : i < xss.length) : rnth xss i = xss[i] := by simp [rnth, h]
theorem take_rnth (xss : List (List Int)) (i : Nat) (h : i < xss.length) : xss.take (i + 1) = xss.take i ++ [rnth xss i] := by
  rw [List.take_succ_eq_append_getElem h, rnth_eq xss i h]
theorem rnth_append_lt (xss : List (List Int)) (y : List Int) (i : Nat) (h : i < xss.length) : rnth (xss ++ [y]) i = rnth xss i := by simp [rnth, List.getElem?_append_left h]
theorem rnth_append_eq (xss : List (List Int)) (y : List Int) : rnth (xss ++ [y]) xss.length = y := by simp [rnth]

def RdII (w : World) (v : Value) (xss : List (List Int)) : Prop :=
  ∃ vs : Nat → Value, Rd w 1 v xss.length vs ∧ ∀ i, i < xss.length → RdI w (vs i) (rnth xss i)
theorem RdII.below {w w' : World} {v : Value} {xss : List (List Int)} (h : RdII w v xss) (hb : Below w.heap.size w w') : RdII w' v xss := by
  obtain ⟨vs, h1, h2⟩ := h
  exact ⟨vs, h1.below hb, fun i hi => (h2 i hi).below hb⟩
theorem RdII.slice {w : World} {v : Value} {xss : List (List Int)} (h : RdII w v xss) : ∃ a cap, v = .slice a xss.length cap := by
  obtain ⟨vs, ⟨a, cap, rfl, _⟩, _⟩ := h; exact ⟨a, cap, rfl⟩

/-- A slice of rows, all in blocks from lo up to hi, no row in another's block nor in the outer one. -/
def InII (w : World) (lo hi : Nat) (v : Value) (xss : List (List Int)) : Prop :=
  ∃ (vs : Nat → Value) (L H : Nat → Nat) (l h : Nat), lo ≤ l ∧ h ≤ hi ∧ In w l h 1 v xss.length vs ∧
    ∀ i, i < xss.length → lo ≤ L i ∧ H i ≤ hi ∧ InI w (L i) (H i) (vs i) (rnth xss i) ∧ (H i ≤ l ∨ h ≤ L i) ∧ ∀ j, j < xss.length → j ≠ i → (H i ≤ L j ∨ H j ≤ L i)
theorem InII.rd {w : World} {lo hi : Nat} {v : Value} {xss : List (List Int)} (h : InII w lo hi v xss) : RdII w v xss := by
  obtain ⟨vs, L, H, l, h', _, _, h3, h4⟩ := h
  exact ⟨vs, h3.rd, fun i hi => (h4 i hi).2.2.1.rd⟩
theorem InII.below {w w' : World} {lo hi B : Nat} {v : Value} {xss : List (List Int)} (h : InII w lo hi v xss) (hb : Below B w w') (hB : hi ≤ B) : InII w' lo hi v xss := by
  obtain ⟨vs, L, H, l, h', h1, h2, h3, h4⟩ := h
  refine ⟨vs, L, H, l, h', h1, h2, h3.below hb (by omega), fun i hi => ?_⟩
  obtain ⟨q1, q2, q3, q4, q5⟩ := h4 i hi
  exact ⟨q1, q2, q3.below hb (by omega), q4, q5⟩
theorem InII.mod {w w' : World} {lo hi x y : Nat} {v : Value} {xss : List (List Int)} (h : InII w lo hi v xss) (hm : Mod x y w w') (hd : hi ≤ x ∨ y ≤ lo) : InII w' lo hi v xss := by
  obtain ⟨vs, L, H, l, h', h1, h2, h3, h4⟩ := h
  refine ⟨vs, L, H, l, h', h1, h2, h3.mod hm (by omega), fun i hi => ?_⟩
  obtain ⟨q1, q2, q3, q4, q5⟩ := h4 i hi
  exact ⟨q1, q2, q3.mod hm (by omega), q4, q5⟩
theorem InII.inn {w : World} {lo hi : Nat} {v : Value} {xss : List (List Int)} (h : InII w lo hi v xss) : InII w lo hi v xss := h
theorem InII.lower {w : World} {lo lo' hi : Nat} {v : Value} {xss : List (List Int)} (h : InII w lo hi v xss) (hl : lo' ≤ lo) : InII w lo' hi v xss := by
  obtain ⟨vs, L, H, l, h', h1, h2, h3, h4⟩ := h
  refine ⟨vs, L, H, l, h', by omega, h2, h3, fun i hi => ?_⟩
  obtain ⟨q1, q2, q3, q4, q5⟩ := h4 i hi
  exact ⟨by omega, q2, q3, q4, q5⟩
theorem InII_nil (w : World) (lo hi : Nat) (hl : lo ≤ hi) : InII w lo hi (.slice none 0 0) [] :=
  ⟨fun _ => .slice none 0 0, fun _ => lo, fun _ => lo, lo, lo, Nat.le_refl _, hl, ⟨none, 0, rfl, Nat.le_refl _, Nat.zero_le _, fun h => absurd h (by simp)⟩, fun i hi => absurd hi (by simp)⟩

/-- How many numbers the first i rows hold. -/
def offs (xss : List (List Int)) : Nat → Nat
  | 0 => 0
  | i + 1 => offs xss i + (rnth xss i).length
theorem offs_mono (xss : List (List Int)) {i j : Nat} (h : i ≤ j) : offs xss i ≤ offs xss j := by
  induction j with
  | zero => obtain rfl : i = 0 := by omega
            exact Nat.le_refl _
  | succ j ih =>
    by_cases e : i = j + 1
    · rw [e]; exact Nat.le_refl _
    · have := ih (by omega)
      rw [offs]; omega
def total (xss : List (List Int)) : Nat := offs xss xss.length
theorem row_le (xss : List (List Int)) (i : Nat) (h : i < xss.length) : (rnth xss i).length ≤ total xss := by
  have := offs_mono xss (show i + 1 ≤ xss.length by omega)
  rw [offs] at this
  unfold total; omega
/-- A grid in the making: the outer row is the call's own, its rows lie in blocks of their own from B on. -/
def OwGv (w : World) (B T : Nat) (v : Value) (xss : List (List Int)) (vs : List Value) : Prop :=
  ∃ (L H : Nat → Nat), w.ownsRow B T 1 v xss.length vs ∧
    ∀ i, i < xss.length → ∃ x, vs[i]? = some x ∧ B ≤ L i ∧ H i ≤ w.heap.size ∧ InI w (L i) (H i) x (rnth xss i) ∧ (∀ k, v.ownBlock = some k → H i ≤ k ∨ k < L i) ∧ ∀ j, j < xss.length → j ≠ i → (H i ≤ L j ∨ H j ≤ L i)
def OwG (w : World) (B T : Nat) (v : Value) (xss : List (List Int)) : Prop := ∃ vs, OwGv w B T v xss vs
theorem OwG_nil (w : World) (B T : Nat) : OwG w B T (.slice none 0 0) [] := ⟨[], fun _ => 0, fun _ => 0, World.ownsRow_nil _ _ _ _, fun i hi => absurd hi (by simp)⟩
theorem OwG_made (w : World) (B T : Nat) (hB : B ≤ w.heap.size) : OwG (w.alloc (.cells #[] T)) B T (.slice (some ⟨w.heap.size, 0, none⟩) 0 0) [] :=
  ⟨[], fun _ => 0, fun _ => 0, World.ownsRow_made w #[] 0 hB (by unfold maxLen; omega) rfl, fun i hi => absurd hi (by simp)⟩
theorem OwGv.own {w : World} {B T : Nat} {v : Value} {xss : List (List Int)} {vs : List Value} (h : OwGv w B T v xss vs) : w.ownsRow B T 1 v xss.length vs := by
  obtain ⟨_, _, h1, _⟩ := h; exact h1
theorem OwG.below {w w' : World} {B T : Nat} {v : Value} {xss : List (List Int)} (h : OwG w B T v xss) (hb : Below w.heap.size w w') : OwG w' B T v xss := by
  obtain ⟨vs, L, H, h1, h2⟩ := h
  refine ⟨vs, L, H, ownsRow_below h1 hb, fun i hi => ?_⟩
  obtain ⟨x, q1, q2, q3, q4, q5, q6⟩ := h2 i hi
  exact ⟨x, q1, q2, Nat.le_trans q3 hb.size, q4.below hb q3, q5, q6⟩
theorem OwG.len {w : World} {B T : Nat} {v : Value} {xss : List (List Int)} (h : OwG w B T v xss) : ∃ a cap, v = .slice a xss.length cap := by
  obtain ⟨vs, L, H, h1, _⟩ := h
  rcases h1.2 with ⟨rfl, h⟩ | ⟨g, cap, cur, rfl, _⟩
  · exact ⟨none, 0, by rw [h]⟩
  · exact ⟨_, cap, rfl⟩
/-- The grid is done. -/
theorem OwG.inn {w : World} {B T : Nat} {v : Value} {xss : List (List Int)} (h : OwG w B T v xss) (hB : B ≤ w.heap.size) : InII w B w.heap.size v xss := by
  obtain ⟨vs, L, H, h1, h2⟩ := h
  obtain ⟨e1, e2⟩ := id h1
  have hf : ∀ i, i < xss.length → vs[i]? = some (vs.getD i undef) := fun i hi => by
    have : i < vs.length := by omega
    simp [this]
  rcases e2 with ⟨rfl, e⟩ | ⟨g, cap, cur, rfl, hg, hh, hr⟩
  · have : xss = [] := List.eq_nil_of_length_eq_zero e
    subst this
    exact InII_nil _ _ _ hB
  · have hlt := (Array.getElem?_eq_some_iff.1 hh).1
    have ho := ownsRow_ow h1 (fun i => vs.getD i undef) (fun i hi => hf i (by omega))
    refine ⟨fun i => vs.getD i undef, L, H, g, g + 1, hg, by omega, ?_, fun i hi => ?_⟩
    · obtain ⟨a, cap', q1, q2, q3, q4⟩ := ho
      refine ⟨a, cap', q1, q2, q3, fun hn => ?_⟩
      obtain ⟨b, o, rfl, p1, p2, p3⟩ := q4 hn
      cases q1
      exact ⟨_, _, rfl, Nat.le_refl _, by omega, p2, p3⟩
    · obtain ⟨x, q1, q2, q3, q4, q5, q6⟩ := h2 i hi
      have ex : x = vs.getD i undef := by
        have := hf i hi
        rw [q1] at this
        exact Option.some.inj this
      subst ex
      have := q5 g rfl
      exact ⟨q2, q3, q4, by omega, q6⟩
/-- One row more: its cells lie in blocks from l up to h, all younger than the grid as it stood. -/
theorem OwGv.append {w0 w w' : World} {B T : Nat} {v v' x : Value} {xss : List (List Int)} {y : List Int} {vs : List Value} (h : OwGv w0 B T v xss vs) (hb : Below w0.heap.size w0 w)
    (hx : InI w w0.heap.size w.heap.size x y) (hB : B ≤ w0.heap.size)
    (hown : w'.ownsRow B T 1 v' (xss.length + 1) (vs ++ [x])) (hg : w.grownBy w' v.ownBlock) (hloc : v'.ownBlock = v.ownBlock ∨ ∃ k, v'.ownBlock = some k ∧ w.heap.size ≤ k) : OwG w' B T v' (xss ++ [y]) := by
  obtain ⟨L, H, h1, h2⟩ := h
  have h1' := ownsRow_below h1 hb
  have hlen : vs.length = xss.length := by have := h1.1; omega
  have hlt := h1.lt
  have hst : ∀ (a b : Nat) (z : Value) (q : List Int), InI w a b z q → (∀ k, v.ownBlock = some k → b ≤ k ∨ k < a) → InI w' a b z q := fun a b z q hi hk =>
    In.stay hi hg.size fun k k1 k2 k3 => hg.block k k3 fun e => by have := hk k e.symm; omega
  refine ⟨vs ++ [x], fun i => if i = xss.length then w0.heap.size else L i, fun i => if i = xss.length then w.heap.size else H i, by rw [List.length_append]; exact hown, fun i hi => ?_⟩
  rw [List.length_append] at hi
  by_cases e : i = xss.length
  · subst e
    refine ⟨x, by rw [List.getElem?_append_right (by omega)]; simp [hlen], ?_⟩
    dsimp only
    rw [if_pos rfl, if_pos rfl, rnth_append_eq]
    refine ⟨hB, hg.size, hst _ _ _ _ hx fun k hk => ?_, fun k hk => ?_, fun j hj hji => ?_⟩
    · have := hlt k hk; omega
    · rcases hloc with hl | ⟨k', hk', hge⟩
      · rw [hl] at hk; have := hlt k hk; omega
      · rw [hk'] at hk; cases hk; omega
    · rw [List.length_append] at hj
      simp only [List.length_cons, List.length_nil] at hj
      rw [if_neg (by omega), if_neg (by omega)]
      obtain ⟨_, _, _, q3, _⟩ := h2 j (by omega)
      omega
  · simp only [List.length_cons, List.length_nil] at hi
    have hi' : i < xss.length := by omega
    obtain ⟨z, q1, q2, q3, q4, q5, q6⟩ := h2 i hi'
    refine ⟨z, by rw [List.getElem?_append_left (by omega)]; exact q1, ?_⟩
    dsimp only
    rw [if_neg e, if_neg e, rnth_append_lt _ _ _ hi']
    refine ⟨q2, by have := hb.size; have := hg.size; omega, hst _ _ _ _ (q4.below hb q3) q5, fun k hk => ?_, fun j hj hji => ?_⟩
    · rcases hloc with hl | ⟨k', hk', hge⟩
      · rw [hl] at hk; exact q5 k hk
      · rw [hk'] at hk; cases hk; have := hb.size; omega
    · rw [List.length_append] at hj
      simp only [List.length_cons, List.length_nil] at hj
      by_cases ej : j = xss.length
      · rw [if_pos ej, if_pos ej]; omega
      · rw [if_neg ej, if_neg ej]; exact q6 j (by omega) hji
theorem cell_one_new' (w : World) (x : Value) (T n : Nat) (hn : n = w.heap.size) : ∀ j u, [x][j]? = some u → (w.alloc (.cells #[x] T)).cell? ((⟨n, 0, none⟩ : Addr).add j) = some u := by
  subst hn; exact cell_one_new _ _ _
/-- 'append(out, []int64{a, b})': what the law on append leaves. -/
theorem grid_pair {wr w1 : World} {B T E S : Nat} {v v' : Value} {xss : List (List Int)} {vs : List Value} {a b : Int} (h : OwGv wr B T v xss vs) (hB : B ≤ wr.heap.size)
    (hown : w1.ownsRow B T 1 v' (xss.length + 1) (vs ++ [.slice (some ⟨wr.heap.size, 0, none⟩) 2 2]))
    (hg : ((wr.alloc (.cells #[.int .i64 a, .int .i64 b] E)).alloc (.cells #[.slice (some ⟨wr.heap.size, 0, none⟩) 2 2] S)).grownBy w1 v.ownBlock)
    (hloc : v'.ownBlock = v.ownBlock ∨ v'.ownBlock = some (wr.heap.size + 1 + 1)) : OwG w1 B T v' (xss ++ [[a, b]]) := by
  have hrow : OwI (wr.alloc (.cells #[.int .i64 a, .int .i64 b] E)) wr.heap.size (.slice (some ⟨wr.heap.size, 0, none⟩) 2 2) [a, b] := by
    refine rd_alloc wr _ E 2 _ rfl (by unfold maxLen; omega) fun i hi => ?_
    have : i = 0 ∨ i = 1 := by omega
    rcases this with rfl | rfl <;> rfl
  have hrow2 := (hrow.below ((Below.refl _ _).alloc (Nat.le_refl _) (.cells #[.slice (some ⟨wr.heap.size, 0, none⟩) 2 2] S))).inn
  exact h.append (((Below.refl _ _).alloc (Nat.le_refl _) _).alloc (by simp) _) hrow2 hB hown hg (hloc.imp id fun e => ⟨_, e, by simp⟩)

/-- A grid whose rows still grow: the outer row and each row of its own, no two in one block. -/
def OwRv (w : World) (B T E : Nat) (v : Value) (xss : List (List Int)) (vs : List Value) : Prop :=
  w.ownsRow B T 1 v xss.length vs ∧ ∀ i, i < xss.length → ∃ x, vs[i]? = some x ∧ w.ownsRow B E 1 x (rnth xss i).length ((rnth xss i).map (Value.int .i64)) ∧
    (∀ k, x.ownBlock = some k → v.ownBlock ≠ some k) ∧ ∀ j y, j < xss.length → j ≠ i → vs[j]? = some y → ∀ k, x.ownBlock = some k → y.ownBlock ≠ some k
def OwR (w : World) (B T E : Nat) (v : Value) (xss : List (List Int)) : Prop := ∃ vs, OwRv w B T E v xss vs
theorem OwR_nil (w : World) (B T E : Nat) : OwR w B T E (.slice none 0 0) [] := ⟨[], World.ownsRow_nil _ _ _ _, fun i hi => absurd hi (by simp)⟩
theorem ownsRow_slice {w : World} {B T sz : Nat} {v : Value} {n : Nat} {xs : List Value} (h : w.ownsRow B T sz v n xs) : ∃ a cap, v = .slice a n cap := by
  rcases h.2 with ⟨rfl, h0⟩ | ⟨g, cap, cur, rfl, _⟩
  · exact ⟨none, 0, by rw [h0]⟩
  · exact ⟨_, cap, rfl⟩
theorem OwR.len {w : World} {B T E : Nat} {v : Value} {xss : List (List Int)} (h : OwR w B T E v xss) : ∃ a cap, v = .slice a xss.length cap := by
  obtain ⟨vs, h1, _⟩ := h; exact ownsRow_slice h1
theorem OwR.inn {w : World} {B T E : Nat} {v : Value} {xss : List (List Int)} (h : OwR w B T E v xss) (hB : B ≤ w.heap.size) : InII w B w.heap.size v xss := by
  obtain ⟨vs, h1, h2⟩ := h
  obtain ⟨e1, e2⟩ := id h1
  have hf : ∀ i, i < xss.length → vs[i]? = some (vs.getD i undef) := fun i hi => by
    have : i < vs.length := by omega
    simp [this]
  rcases e2 with ⟨rfl, e⟩ | ⟨g, cap, cur, rfl, hg, hh, hr⟩
  · have : xss = [] := List.eq_nil_of_length_eq_zero e
    subst this
    exact InII_nil _ _ _ hB
  · have hlt := (Array.getElem?_eq_some_iff.1 hh).1
    have ho := ownsRow_ow h1 (fun i => vs.getD i undef) (fun i hi => hf i (by omega))
    refine ⟨fun i => vs.getD i undef, fun i => (vs.getD i undef).ownBlock.getD B, fun i => ((vs.getD i undef).ownBlock.map (· + 1)).getD B, g, g + 1, hg, by omega, ?_, fun i hi => ?_⟩
    · obtain ⟨a, cap', q1, q2, q3, q4⟩ := ho
      refine ⟨a, cap', q1, q2, q3, fun hn => ?_⟩
      obtain ⟨b, o, rfl, p1, p2, p3⟩ := q4 hn
      cases q1
      exact ⟨_, _, rfl, Nat.le_refl _, by omega, p2, p3⟩
    · obtain ⟨x, q1, q2, q3, q4⟩ := h2 i hi
      have ex : vs.getD i undef = x := by
        have := hf i hi
        rw [q1] at this
        exact (Option.some.inj this).symm
      simp only [ex]
      have hlt2 := q2.lt
      cases hx : x.ownBlock with
      | none =>
        simp only [Option.map_none, Option.getD_none]
        refine ⟨Nat.le_refl _, hB, ?_, by omega, fun j hj hji => ?_⟩
        · rcases q2.2 with ⟨rfl, e⟩ | ⟨g', c', cu, rfl, _⟩
          · have : rnth xss i = [] := List.eq_nil_of_length_eq_zero e
            rw [this]
            exact ⟨none, 0, rfl, Nat.le_refl _, Nat.zero_le _, fun h => absurd h (by simp)⟩
          · simp [Value.ownBlock] at hx
        · obtain ⟨y, p1, p2, p3, p4⟩ := h2 j hj
          have ey : vs.getD j undef = y := by
            have := hf j hj
            rw [p1] at this
            exact (Option.some.inj this).symm
          rw [ey]
          cases hy : y.ownBlock with
          | none => simp
          | some k => have := p2.lt k hy; simp; omega
      | some k =>
        have hk := hlt2 k hx
        simp only [Option.map_some, Option.getD_some]
        have hkg : k ≠ g := fun e => q3 k hx (by rw [e]; rfl)
        refine ⟨hk.1, by omega, ?_, by omega, fun j hj hji => ?_⟩
        · rcases q2.2 with ⟨rfl, e⟩ | ⟨g', c', cu, rfl, _, _, _⟩
          · simp [Value.ownBlock] at hx
          · simp [Value.ownBlock] at hx
            subst hx
            obtain ⟨a, cap', w1, w2, w3, w4⟩ := ownsRow_owI q2
            refine ⟨a, cap', w1, w2, w3, fun hn => ?_⟩
            obtain ⟨b, o, rfl, z1, z2, z3⟩ := w4 hn
            cases w1
            exact ⟨_, _, rfl, Nat.le_refl _, by omega, z2, z3⟩
        · obtain ⟨y, p1, p2, p3, p4⟩ := h2 j hj
          have ey : vs.getD j undef = y := by
            have := hf j hj
            rw [p1] at this
            exact (Option.some.inj this).symm
          rw [ey]
          cases hy : y.ownBlock with
          | none => simp; omega
          | some k' =>
            have hne := q4 j y hj hji p1 k hx
            have : k' ≠ k := fun e => hne (by rw [hy, e])
            simp
            omega
/-- 'out = append(out, nil)'. -/
theorem OwRv.appendNil {w w' : World} {B T E : Nat} {v v' : Value} {xss : List (List Int)} {vs : List Value} (h : OwRv w B T E v xss vs)
    (hown : w'.ownsRow B T 1 v' (xss.length + 1) (vs ++ [.slice none 0 0])) (hg : w.grownBy w' v.ownBlock) (hloc : v'.ownBlock = v.ownBlock ∨ ∃ k, v'.ownBlock = some k ∧ w.heap.size ≤ k) : OwR w' B T E v' (xss ++ [[]]) := by
  obtain ⟨h1, h2⟩ := h
  have hlen : vs.length = xss.length := by have := h1.1; omega
  refine ⟨vs ++ [.slice none 0 0], by rw [List.length_append]; exact hown, fun i hi => ?_⟩
  rw [List.length_append] at hi
  simp only [List.length_cons, List.length_nil] at hi
  by_cases e : i = xss.length
  · subst e
    refine ⟨.slice none 0 0, by rw [List.getElem?_append_right (by omega)]; simp [hlen], ?_, ?_, ?_⟩
    · rw [rnth_append_eq]
      exact World.ownsRow_nil _ _ _ _
    · intro k hk; simp [Value.ownBlock] at hk
    · intro j y _ _ _ k hk; simp [Value.ownBlock] at hk
  · have hi' : i < xss.length := by omega
    obtain ⟨x, q1, q2, q3, q4⟩ := h2 i hi'
    refine ⟨x, by rw [List.getElem?_append_left (by omega)]; exact q1, ?_, fun k hk => ?_, fun j y hj hji hy k hk => ?_⟩
    · rw [rnth_append_lt _ _ _ hi']
      refine q2.kept hg ?_
      cases hx : x.ownBlock with
      | none => exact Or.inl rfl
      | some k => exact Or.inr fun e => q3 k hx e.symm
    · rcases hloc with hl | ⟨k', hk', hge⟩
      · rw [hl]; exact q3 k hk
      · rw [hk']
        have := q2.lt k hk
        intro e; cases e; omega
    · by_cases ej : j = xss.length
      · subst ej
        rw [List.getElem?_append_right (by omega)] at hy
        simp [hlen] at hy
        subst hy
        intro e; cases e
      · rw [List.length_append] at hj
        simp only [List.length_cons, List.length_nil] at hj
        rw [List.getElem?_append_left (by omega)] at hy
        exact q4 j y (by omega) hji hy k hk
theorem rnth_set (xss : List (List Int)) (b i : Nat) (y : List Int) (hb : b < xss.length) : rnth (xss.set b y) i = if i = b then y else rnth xss i := by
  unfold rnth
  rw [List.getD_eq_getElem?_getD, List.getElem?_set]
  by_cases e : b = i
  · subst e; simp [hb]
  · rw [if_neg e, if_neg (fun h => e h.symm)]; rfl
/-- 'out[b] = append(out[b], n)': the row's append has gone from w to w1, the store goes into the outer row. -/
theorem OwRv.rowAppend {w w1 : World} {B T E g cap N : Nat} {xss : List (List Int)} {vs : List Value} {b : Nat} {x x' : Value} {n : Int} (h : OwRv w B T E (.slice (some ⟨g, 0, none⟩) N cap) xss vs) (hN : N = xss.length) (hb : b < xss.length) (hx : vs[b]? = some x)
    (hown : w1.ownsRow B E 1 x' ((rnth xss b).length + 1) ((rnth xss b).map (Value.int .i64) ++ [.int .i64 n])) (hg : w.grownBy w1 x.ownBlock) (hloc : x'.ownBlock = x.ownBlock ∨ ∃ k, x'.ownBlock = some k ∧ w.heap.size ≤ k) :
    OwR (w1.setCell ⟨g, b, none⟩ x') B T E (.slice (some ⟨g, 0, none⟩) N cap) (xss.set b (rnth xss b ++ [n])) := by
  subst hN
  obtain ⟨h1, h2⟩ := h
  have hlen : vs.length = xss.length := by have := h1.1; omega
  have hgl := h1.lt g rfl
  obtain ⟨x0, q1, q2, q3, q4⟩ := h2 b hb
  rw [hx] at q1
  obtain rfl := Option.some.inj q1
  have h1' : w1.ownsRow B T 1 (.slice (some ⟨g, 0, none⟩) xss.length cap) xss.length vs := h1.kept hg (by
    cases hxo : x.ownBlock with
    | none => exact Or.inr (by simp [Value.ownBlock])
    | some k => exact Or.inr fun e => q3 k hxo e)
  have hst := h1'.stored b x'
  have hkeep : ∀ (y : Value) (m : Nat) (zs : List Value), w1.ownsRow B E 1 y m zs → (∀ k, y.ownBlock = some k → k ≠ g) → (w1.setCell ⟨g, b, none⟩ x').ownsRow B E 1 y m zs := fun y m zs hy hk => hy.kept hst.2 (by
    cases hyo : y.ownBlock with
    | none => exact Or.inl rfl
    | some k => exact Or.inr fun e => hk k hyo (Option.some.inj e))
  have hx'g : ∀ k, x'.ownBlock = some k → k ≠ g := fun k hk => by
    rcases hloc with hl | ⟨k', hk', hge⟩
    · rw [hl] at hk
      intro e; subst e
      exact q3 k hk rfl
    · rw [hk'] at hk; cases hk; omega
  refine ⟨vs.set b x', by rw [List.length_set]; exact hst.1, fun i hi => ?_⟩
  rw [List.length_set] at hi
  rw [rnth_set _ _ _ _ hb]
  by_cases e : i = b
  · subst e
    rw [if_pos rfl]
    refine ⟨x', by rw [List.getElem?_set]; simp; omega, ?_, fun k hk e => ?_, fun j y hj hji hy k hk e => ?_⟩
    · have := hkeep x' _ _ hown hx'g
      simpa using this
    · cases e; exact hx'g g hk rfl
    · rw [List.length_set] at hj
      rw [List.getElem?_set, if_neg (fun e => hji e.symm)] at hy
      rcases hloc with hl | ⟨k', hk', hge⟩
      · rw [hl] at hk
        exact q4 j y hj hji hy k hk e
      · rw [hk'] at hk; cases hk
        obtain ⟨y0, p1, p2, _⟩ := h2 j hj
        rw [hy] at p1
        obtain rfl := Option.some.inj p1
        have := p2.lt _ e
        omega
  · rw [if_neg e]
    obtain ⟨z, p1, p2, p3, p4⟩ := h2 i hi
    refine ⟨z, by rw [List.getElem?_set, if_neg (fun q => e q.symm)]; exact p1, ?_, p3, fun j y hj hji hy k hk ek => ?_⟩
    · refine hkeep z _ _ (p2.kept hg ?_) fun k hk q => ?_
      · cases hzo : z.ownBlock with
        | none => exact Or.inl rfl
        | some k => exact Or.inr fun q => p4 b x hb (fun q => e q.symm) hx k hzo q.symm
      · subst q; exact p3 k hk rfl
    · rw [List.length_set] at hj
      rw [List.getElem?_set] at hy
      split at hy
      · rename_i ej
        subst ej
        split at hy
        · cases hy
          rcases hloc with hl | ⟨k', hk', hge⟩
          · rw [hl] at ek
            exact p4 b x hb hji hx k hk ek
          · rw [hk'] at ek; cases ek
            have := p2.lt _ hk
            omega
        · cases hy
      · exact p4 j y hj hji hy k hk ek
theorem OwRv.below {w w' : World} {B T E : Nat} {v : Value} {xss : List (List Int)} {vs : List Value} (h : OwRv w B T E v xss vs) (hb : Below w.heap.size w w') : OwRv w' B T E v xss vs := by
  obtain ⟨h1, h2⟩ := h
  refine ⟨ownsRow_below h1 hb, fun i hi => ?_⟩
  obtain ⟨x, q1, q2, q3, q4⟩ := h2 i hi
  exact ⟨x, q1, ownsRow_below q2 hb, q3, q4⟩
theorem OwR.below {w w' : World} {B T E : Nat} {v : Value} {xss : List (List Int)} (h : OwR w B T E v xss) (hb : Below w.heap.size w w') : OwR w' B T E v xss := by
  obtain ⟨vs, h⟩ := h; exact ⟨vs, h.below hb⟩
/-- Row b is there: its value, what it owns, and that the outer row outlives what it does to its own block. -/
theorem OwRv.row {w : World} {B T E : Nat} {v : Value} {xss : List (List Int)} {vs : List Value} (h : OwRv w B T E v xss vs) (b : Nat) (hb : b < xss.length) :
    ∃ g cap x, v = .slice (some ⟨g, 0, none⟩) xss.length cap ∧ vs[b]? = some x ∧ w.cell? ⟨g, b, none⟩ = some x ∧ w.ownsRow B E 1 x (rnth xss b).length ((rnth xss b).map (Value.int .i64)) ∧
      ∀ w', w.grownBy w' x.ownBlock → w'.cell? ⟨g, b, none⟩ = some x ∧ w'.frozen? ⟨g, b, none⟩ = false := by
  obtain ⟨h1, h2⟩ := h
  obtain ⟨x, q1, q2, q3, q4⟩ := h2 b hb
  rcases id h1.2 with ⟨rfl, e⟩ | ⟨g, cap, cur, rfl, _⟩
  · omega
  · refine ⟨g, cap, x, rfl, q1, (h1.cellAt b (by omega)).trans q1, q2, fun w' hg => ?_⟩
    have h1' : w'.ownsRow B T 1 (.slice (some ⟨g, 0, none⟩) xss.length cap) xss.length vs := h1.kept hg (by
      cases hxo : x.ownBlock with
      | none => exact Or.inr (by simp [Value.ownBlock])
      | some k => exact Or.inr fun e => q3 k hxo e)
    exact ⟨(h1'.cellAt b (by omega)).trans q1, h1'.frozenAt b⟩
end Go.Proofs.YtcakmchefbohoaaGreatDoor
