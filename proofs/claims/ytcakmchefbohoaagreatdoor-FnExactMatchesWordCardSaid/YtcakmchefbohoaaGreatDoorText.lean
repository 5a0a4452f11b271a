/- The plain law of texts that are split at a byte and joined again; of labels. No program in sight. -/
import Derived.Lib.SplitLaws
import Derived.Lib.Join
import Derived.Lib.Strings
import Derived.Test.YtcakmchefbohoaaGreatDoorNum
set_option linter.unusedVariables false
set_option linter.unusedSimpArgs false
namespace Go.Proofs.YtcakmchefbohoaaGreatDoor

/-- Bytes as a text. -/
def ba (l : List UInt8) : ByteArray := ⟨l.toArray⟩
theorem ba_data (l : List UInt8) : (ba l).data.toList = l := rfl
theorem ba_of (s : ByteArray) : ba s.data.toList = s := by rcases s with ⟨⟨l⟩⟩; rfl
theorem ba_size (l : List UInt8) : (ba l).size = l.length := rfl
theorem ba_inj {x y : List UInt8} (h : ba x = ba y) : x = y := by
  have := congrArg (fun z : ByteArray => z.data.toList) h
  exact this

/-- A byte laid ahead of the first piece. -/
def consHead (b : UInt8) : List (List UInt8) → List (List UInt8)
  | [] => [[b]]
  | h :: t => (b :: h) :: t
/-- The pieces of a text between the bytes c. -/
def splitD (c : UInt8) : List UInt8 → List (List UInt8)
  | [] => [[]]
  | b :: r => if b = c then [] :: splitD c r else consHead b (splitD c r)
theorem splitD_nil (c : UInt8) : splitD c [] = [[]] := rfl
theorem splitD_hit (c : UInt8) (r : List UInt8) : splitD c (c :: r) = [] :: splitD c r := by rw [splitD, if_pos rfl]
theorem splitD_miss {c b : UInt8} (r : List UInt8) (h : b ≠ c) : splitD c (b :: r) = consHead b (splitD c r) := by rw [splitD, if_neg h]
theorem splitD_none {c : UInt8} : ∀ {l : List UInt8}, c ∉ l → splitD c l = [l]
  | [], _ => rfl
  | b :: r, h => by
    have hb : b ≠ c := fun e => h (by simp [e])
    have hr : c ∉ r := fun e => h (by simp [e])
    rw [splitD_miss r hb, splitD_none hr]; rfl
theorem splitD_at {c : UInt8} (r : List UInt8) : ∀ {x : List UInt8}, c ∉ x → splitD c (x ++ c :: r) = x :: splitD c r
  | [], _ => splitD_hit c r
  | b :: x, h => by
    have hb : b ≠ c := fun e => h (by simp [e])
    have hr : c ∉ x := fun e => h (by simp [e])
    rw [List.cons_append, splitD_miss _ hb, splitD_at r hr]; rfl
theorem splitD_ne (c : UInt8) (l : List UInt8) : splitD c l ≠ [] := by
  cases l with
  | nil => simp [splitD_nil]
  | cons b r =>
    by_cases h : b = c
    · subst h; rw [splitD_hit]; simp
    · rw [splitD_miss r h]
      cases splitD c r <;> simp [consHead]
theorem splitD_pos (c : UInt8) (l : List UInt8) : 1 ≤ (splitD c l).length := by
  have := splitD_ne c l
  cases h : splitD c l with
  | nil => exact absurd h this
  | cons a r => simp
theorem consHead_join (b c : UInt8) (h : List UInt8) (t : List (List UInt8)) : Lib.join (consHead b (h :: t)) [c] = b :: Lib.join (h :: t) [c] := by
  rw [consHead, Lib.join_cons, Lib.join_cons]; rfl
theorem splitD_join (c : UInt8) : ∀ l : List UInt8, Lib.join (splitD c l) [c] = l
  | [] => by rw [splitD_nil, Lib.join_one]
  | b :: r => by
    have ih := splitD_join c r
    by_cases h : b = c
    · subst h
      rw [splitD_hit, Lib.join_cons]
      cases hs : splitD b r with
      | nil => exact absurd hs (splitD_ne b r)
      | cons x t =>
        rw [hs, Lib.join_cons] at ih
        simp only [Lib.joinTail, List.map_cons, List.flatten_cons, List.nil_append, List.singleton_append, List.cons_append]
        rw [← ih]; rfl
    · rw [splitD_miss r h]
      cases hs : splitD c r with
      | nil => exact absurd hs (splitD_ne c r)
      | cons x t => rw [consHead_join, ← hs, ih]
theorem splitD_length (c : UInt8) : ∀ l : List UInt8, (splitD c l).length ≤ l.length + 1
  | [] => by simp [splitD_nil]
  | b :: r => by
    have ih := splitD_length c r
    by_cases h : b = c
    · subst h; rw [splitD_hit]; simp; omega
    · rw [splitD_miss r h]
      cases hs : splitD c r with
      | nil => simp [consHead]
      | cons x t => rw [hs] at ih; simp [consHead] at ih ⊢; omega
theorem splitD_piece (c : UInt8) : ∀ l : List UInt8, ∀ x ∈ splitD c l, x.length ≤ l.length
  | [], x, hx => by simp [splitD_nil] at hx; simp [hx]
  | b :: r, x, hx => by
    have ih := splitD_piece c r
    by_cases h : b = c
    · subst h
      rw [splitD_hit] at hx
      rcases List.mem_cons.1 hx with e | e
      · simp [e]
      · have := ih x e; simp; omega
    · rw [splitD_miss r h] at hx
      cases hs : splitD c r with
      | nil => exact absurd hs (splitD_ne c r)
      | cons y t =>
        rw [hs] at hx ih
        rcases List.mem_cons.1 hx with e | e
        · have := ih y (List.mem_cons_self ..)
          rw [e]; simp; omega
        · have := ih x (List.mem_cons_of_mem _ e)
          simp; omega

/-- Where a byte is first met in a text; its length if it is not. -/
def idxC (c : UInt8) : List UInt8 → Nat
  | [] => 0
  | b :: r => if b = c then 0 else idxC c r + 1
theorem idxC_le (c : UInt8) : ∀ l : List UInt8, idxC c l ≤ l.length
  | [] => Nat.le_refl _
  | b :: r => by
    rw [idxC]
    split
    · exact Nat.zero_le _
    · have := idxC_le c r; simp; omega
theorem idxC_not (c : UInt8) : ∀ (l : List UInt8) (i : Nat) (h : i < l.length), i < idxC c l → l[i] ≠ c
  | [], i, h, _ => absurd h (by simp)
  | b :: r, i, h, hi => by
    rw [idxC] at hi
    split at hi
    · omega
    · rename_i hb
      cases i with
      | zero => simpa using hb
      | succ j => simpa using idxC_not c r j (by simpa using h) (by omega)
theorem idxC_hit (c : UInt8) : ∀ (l : List UInt8) (h : idxC c l < l.length), l[idxC c l] = c
  | [], h => absurd h (by simp)
  | b :: r, h => by
    have e : idxC c (b :: r) = if b = c then 0 else idxC c r + 1 := rfl
    by_cases hb : b = c
    · have e0 : idxC c (b :: r) = 0 := by rw [e, if_pos hb]
      simp only [e0]
      simpa using hb
    · have e1 : idxC c (b :: r) = idxC c r + 1 := by rw [e, if_neg hb]
      simp only [e1]
      rw [e1] at h
      simpa using idxC_hit c r (by simpa using h)
theorem idxC_of {c : UInt8} {l : List UInt8} {k : Nat} (h : k ≤ l.length) (h1 : ∀ (i : Nat) (hi : i < l.length), i < k → l[i] ≠ c) (h2 : ∀ hk : k < l.length, l[k] = c) : idxC c l = k := by
  rcases Nat.lt_trichotomy (idxC c l) k with h3 | h3 | h3
  · exact absurd (idxC_hit c l (by omega)) (h1 _ (by omega) h3)
  · exact h3
  · have := idxC_le c l
    exact absurd (h2 (by omega)) (idxC_not c l k (by omega) h3)
theorem index_one (c : UInt8) : ∀ l : List UInt8, Lib.index l [c] = if idxC c l < l.length then (idxC c l : Int) else -1
  | [] => by simp [Lib.index, idxC]
  | b :: r => by
    have ih := index_one c r
    by_cases h : b = c
    · subst h
      simp [Lib.index, List.isPrefixOf, idxC]
    · have hp : ([c] : List UInt8).isPrefixOf (b :: r) = false := by simp [List.isPrefixOf, Ne.symm h]
      have hix : Lib.index (b :: r) [c] = if Lib.index r [c] == -1 then -1 else Lib.index r [c] + 1 := by rw [Lib.index, hp]; simp
      have e1 : idxC c (b :: r) = idxC c r + 1 := by rw [idxC, if_neg h]
      rw [hix, e1, ih]
      by_cases hl : idxC c r < r.length
      · have hl2 : idxC c r + 1 < (b :: r).length := by simpa using hl
        have hm : (((idxC c r : Nat) : Int) == -1) = false := by rw [beq_eq_false_iff_ne]; omega
        rw [if_pos hl, if_pos hl2, hm]
        simp
      · have hl2 : ¬ idxC c r + 1 < (b :: r).length := by simpa using hl
        rw [if_neg hl, if_neg hl2]; rfl
theorem cut_one (c : UInt8) (l : List UInt8) : Lib.cut l [c] = if idxC c l < l.length then (l.take (idxC c l), l.drop (idxC c l + 1), true) else (l, [], false) := by
  unfold Lib.cut
  rw [index_one]
  by_cases h : idxC c l < l.length
  · rw [if_pos h, if_pos h, if_pos (by omega)]
    simp
  · rw [if_neg h, if_neg h, if_neg (by omega)]
theorem splitK_one (c : UInt8) : ∀ l : List UInt8, Lib.splitK [c] 0 (Lib.count l [c]) l = splitD c l
  | [] => by rw [Lib.count_miss (by simp [Lib.index])]; rfl
  | b :: r => by
    have ih := splitK_one c r
    by_cases h : b = c
    · subst h
      have hix : Lib.index (b :: r) [b] = 0 := by simp [Lib.index, List.isPrefixOf]
      rw [Lib.count_cons_eq, Nat.add_comm, Lib.splitK, hix, splitD_hit, if_neg (by decide)]
      simp only [Int.toNat_zero, Nat.zero_add, List.length_singleton, List.drop_succ_cons, List.drop_zero, Nat.add_zero, List.take_zero]
      rw [ih]
    · rw [Lib.count_cons_ne b c r h, splitD_miss r h, ← ih]
      have hi1 := index_one c r
      have hi2 := index_one c (b :: r)
      have e1 : idxC c (b :: r) = idxC c r + 1 := by rw [idxC, if_neg h]
      rw [e1] at hi2
      cases hk : Lib.count r [c] with
      | zero => rw [Lib.splitK, Lib.splitK]; rfl
      | succ k =>
        by_cases hl : idxC c r < r.length
        · have hl2 : idxC c r + 1 < (b :: r).length := by simpa using hl
          rw [if_pos hl] at hi1
          rw [if_pos hl2] at hi2
          have n1 : ¬ ((Lib.index (b :: r) [c] == -1) = true) := by rw [hi2]; (intro e; simp at e; omega)
          have n2 : ¬ ((Lib.index r [c] == -1) = true) := by rw [hi1]; (intro e; simp at e)
          rw [Lib.splitK, Lib.splitK, if_neg n1, if_neg n2, hi1, hi2]
          simp only [Int.toNat_natCast, List.length_singleton, Nat.add_zero, List.take_succ_cons, List.drop_succ_cons, consHead]
        · rw [if_neg hl] at hi1
          rw [Lib.count_miss hi1] at hk
          cases hk
/-- The pieces as texts. -/
def wordsB (c : UInt8) (s : ByteArray) : List ByteArray := (splitD c s.data.toList).map ba
theorem map_ba : ∀ xs : List ByteArray, (xs.map (·.data.toList)).map ba = xs
  | [] => rfl
  | x :: r => by rw [List.map_cons, List.map_cons, map_ba r, ba_of]
theorem splitB_one (c : UInt8) (s : ByteArray) : Lib.splitB ⟨#[c]⟩ 0 (Lib.countB s ⟨#[c]⟩) s = wordsB c s := by
  have h := Lib.splitB_data ⟨#[c]⟩ 0 (Lib.countB s ⟨#[c]⟩) s
  have h2 := splitK_one c s.data.toList
  have e : Lib.countB s ⟨#[c]⟩ = Lib.count s.data.toList [c] := rfl
  rw [e] at h ⊢
  have h3 : (({ data := #[c] } : ByteArray).data.toList) = [c] := rfl
  rw [h3, h2] at h
  rw [← map_ba (Lib.splitB _ _ _ _), h]
  rfl
theorem countB_one (c : UInt8) (s : ByteArray) : Lib.countB s ⟨#[c]⟩ + 1 = (wordsB c s).length := by
  rw [← splitB_one]; exact (Lib.splitB_all ⟨#[c]⟩ (show 1 ≤ (⟨#[c]⟩ : ByteArray).size from Nat.le_refl 1) 0 _ s rfl).symm
theorem wordsB_length (c : UInt8) (s : ByteArray) : (wordsB c s).length ≤ s.size + 1 := by
  have := splitD_length c s.data.toList
  rw [wordsB, List.length_map]
  exact this
theorem wordsB_pos (c : UInt8) (s : ByteArray) : 1 ≤ (wordsB c s).length := by
  rw [wordsB, List.length_map]
  exact splitD_pos c _
theorem wordsB_piece (c : UInt8) (s x : ByteArray) (h : x ∈ wordsB c s) : x.size ≤ s.size := by
  obtain ⟨l, hl, rfl⟩ := List.mem_map.1 h
  have := splitD_piece c s.data.toList l hl
  exact this
/-- Many words as numbers. -/
def canons (ws : List ByteArray) : Bool := ws.all fun x => canon x.data.toList
def numsV (ws : List ByteArray) : List Int := ws.map fun x => numV x.data.toList
theorem numsV_length (ws : List ByteArray) : (numsV ws).length = ws.length := by simp [numsV]
/-- Numbers as one text, with something between them. -/
def joinN (xs : List Int) (c : UInt8) : List UInt8 := Lib.join (xs.map Lib.itoa) [c]
theorem joinN_words {c : UInt8} {s : ByteArray} (h : canons (wordsB c s) = true) : joinN (numsV (wordsB c s)) c = s.data.toList := by
  unfold joinN numsV
  rw [List.map_map]
  have e : (wordsB c s).map (Lib.itoa ∘ fun x => numV x.data.toList) = splitD c s.data.toList := by
    rw [wordsB, List.map_map]
    conv => rhs; rw [← List.map_id (splitD c s.data.toList)]
    refine List.map_congr_left fun l hl => ?_
    have h1 := List.all_eq_true.1 h (ba l) (List.mem_map.2 ⟨l, hl, rfl⟩)
    rw [ba_data] at h1
    show Lib.itoa (numV (ba l).data.toList) = l
    rw [ba_data]
    exact (canon_good h1).1
  rw [e, splitD_join]
end Go.Proofs.YtcakmchefbohoaaGreatDoor
