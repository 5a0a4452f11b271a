/- Tokens: the plain law of where a token ends. -/
import Derived.Test.YtcakmchefbohoaaDoorProg
import Derived.Test.YtcakmchefbohoaaDoorMem
import Derived.Test.YtcakmchefbohoaaDoorMath
import Derived.Test.YtcakmchefbohoaaDoorBasics
import Derived.Test.YtcakmchefbohoaaDoorOper
import Derived.Test.YtcakmchefbohoaaDoorNum
import Derived.Test.YtcakmchefbohoaaDoorText
import Derived.Test.YtcakmchefbohoaaDoorLab
import Derived.Test.YtcakmchefbohoaaDoorRead
set_option linter.unusedVariables false
set_option linter.unusedSimpArgs false
namespace Go.Proofs.YtcakmchefbohoaaDoor
open Go.RowKit

/-- The end of a run of bytes. -/
def runF (q : Int → Bool) (s : ByteArray) : Nat → Nat → Nat
  | 0, p => p
  | n + 1, p => if q (bt s p) = true then runF q s n (p + 1) else p
def runE (q : Int → Bool) (s : ByteArray) (p : Nat) : Nat := runF q s (s.size - p) p
theorem runE_step {q : Int → Bool} {s : ByteArray} {p : Nat} (h : p < s.size) (hq : q (bt s p) = true) : runE q s p = runE q s (p + 1) := by
  unfold runE
  rw [show s.size - p = (s.size - (p + 1)) + 1 by omega, runF, if_pos hq]
theorem runE_end {q : Int → Bool} {s : ByteArray} {p : Nat} (h : ¬ p < s.size) : runE q s p = p := by
  unfold runE
  rw [show s.size - p = 0 by omega]; rfl
theorem runE_stop {q : Int → Bool} {s : ByteArray} {p : Nat} (hq : q (bt s p) = false) : runE q s p = p := by
  by_cases h : p < s.size
  · unfold runE
    rw [show s.size - p = (s.size - (p + 1)) + 1 by omega, runF, hq]; rfl
  · exact runE_end h
theorem runE_ge (q : Int → Bool) (s : ByteArray) : ∀ n p, s.size - p ≤ n → p ≤ runE q s p ∧ (p ≤ s.size → runE q s p ≤ s.size) := by
  intro n
  induction n with
  | zero => intro p h; rw [runE_end (by omega)]; exact ⟨Nat.le_refl _, fun h => h⟩
  | succ n ih =>
    intro p h
    by_cases hp : p < s.size
    · cases hq : q (bt s p) with
      | true =>
        rw [runE_step hp hq]
        have := ih (p + 1) (by omega)
        exact ⟨by omega, fun _ => this.2 (by omega)⟩
      | false => rw [runE_stop hq]; exact ⟨Nat.le_refl _, fun h => h⟩
    · rw [runE_end hp]; exact ⟨Nat.le_refl _, fun h => h⟩
theorem runE_bd (q : Int → Bool) (s : ByteArray) (p : Nat) : p ≤ runE q s p ∧ (p ≤ s.size → runE q s p ≤ s.size) := runE_ge q s _ p (Nat.le_refl _)
theorem ext_cons {s : ByteArray} {p e : Nat} (h : p < e) (he : e ≤ s.size) : ∃ b : UInt8, (b.toNat : Int) = bt s p ∧ (s.extract p e).data.toList = b :: (s.extract (p + 1) e).data.toList := by
  have hl : s.data.toList.length = s.size := by rw [Array.length_toList]; rfl
  have hp : p < s.data.toList.length := by omega
  refine ⟨s.data.toList[p], ?_, ?_⟩
  · rw [← bt_eq s p (by omega), Array.getElem_toList]; rfl
  · rw [Lib.extract_data, Lib.extract_data, List.drop_eq_getElem_cons hp, show e - p = (e - (p + 1)) + 1 by omega, List.take_succ_cons]
theorem ext_nil {s : ByteArray} {p e : Nat} (h : e ≤ p) : (s.extract p e).data.toList = [] := by
  rw [Lib.extract_data, show e - p = 0 by omega, List.take_zero]
/-- A number below a limit; a token. -/
def smallB (t : ByteArray) (L : Int) : Bool := canon t.data.toList && inR (rdN t) 0 (L - 1)
def restV (t : ByteArray) : ByteArray := ba (Lib.trimPrefix t.data.toList [118])
def isTokB (t : ByteArray) : Bool := readOk t || decide (t = ⟨#[33]⟩) || decide (t = ⟨#[40]⟩) || decide (t = ⟨#[41]⟩) || smallB t 64 || (Lib.hasPrefix t.data.toList [118] && smallB (restV t) 29)
def lt2 (s : ByteArray) (p : Nat) : Bool := decide (bt s p = 60) && decide (p + 1 < s.size) && decide (bt s (p + 1) = 61)
def numOrV (c : Int) : Bool := digit c || decide (c = 118)
def endI (s : ByteArray) (p : Nat) : Nat := if numOrV (bt s p) = true then runE digit s (p + 1) else if lt2 s p = true then p + 2 else p + 1
def tk (s : ByteArray) (p : Nat) : Option Nat := if isTokB (s.extract p (endI s p)) = true then some (endI s p) else none
def oneB (s : ByteArray) (p : Nat) : Bool := decide (bt s p = 33) || decide (bt s p = 40) || decide (bt s p = 41) || readOk (s.extract p (p + 1))
def tokE (s : ByteArray) (p : Nat) : Nat :=
  if digit (bt s p) = true then (if smallB (s.extract p (runE digit s p)) 64 = true then runE digit s p else p)
  else if bt s p = 118 then (if smallB (s.extract (p + 1) (runE digit s (p + 1))) 29 = true then runE digit s (p + 1) else p)
  else if lt2 s p = true then p + 2
  else if oneB s p = true then p + 1 else p
theorem endI_bd {s : ByteArray} {p : Nat} (h : p < s.size) : p < endI s p ∧ endI s p ≤ s.size := by
  unfold endI
  have hr := runE_bd digit s (p + 1)
  split
  · have := hr.2 (by omega)
    omega
  · split
    · rename_i h2
      simp only [lt2, Bool.and_eq_true, decide_eq_true_eq] at h2
      omega
    · omega
theorem readOk_mem {t : ByteArray} (h : readOk t = true) : t.data.toList ∈ opB := by
  unfold readOk idxS at h
  split at h
  · rename_i i hf
    have h1 := List.find?_some hf
    have h2 : i < opL.length := by have := List.mem_of_find?_eq_some hf; simpa using this
    have h3 : t = snth opL i := (toList_inj (by simpa using h1)).symm
    have h4 : t ∈ opL := by rw [h3, snth_eq _ _ h2]; exact List.getElem_mem h2
    obtain ⟨l, hl, rfl⟩ := List.mem_map.1 h4
    exact hl
  · simp at h
theorem op_heads : ∀ l ∈ opB, ∀ b r, l = b :: r → ¬ (48 ≤ b.toNat ∧ b.toNat ≤ 57) ∧ b.toNat ≠ 118 := by
  intro l hl b r e
  subst e
  simp only [opB, List.mem_cons, List.cons.injEq, List.not_mem_nil, or_false] at hl
  rcases hl with ⟨rfl, _⟩ | ⟨rfl, _⟩ | ⟨rfl, _⟩ | ⟨rfl, _⟩ | ⟨rfl, _⟩ | ⟨rfl, _⟩ | ⟨rfl, _⟩ | ⟨rfl, _⟩ | ⟨rfl, _⟩ <;> decide
theorem readOk_head {t : ByteArray} {b : UInt8} {r : List UInt8} (ht : t.data.toList = b :: r) (hb : (48 ≤ b.toNat ∧ b.toNat ≤ 57) ∨ b.toNat = 118) : readOk t = false := by
  cases h : readOk t with
  | false => rfl
  | true =>
    have := op_heads _ (readOk_mem h) b r ht
    omega
theorem ne_one {t : ByteArray} {b c : UInt8} {r : List UInt8} (ht : t.data.toList = b :: r) (hb : b ≠ c) : decide (t = ⟨#[c]⟩) = false :=
  decide_eq_false fun e => hb (by rw [e] at ht; exact (List.cons.inj ht).1.symm)
theorem pre_one (b c : UInt8) (r : List UInt8) : Lib.hasPrefix (b :: r) [c] = decide (b = c) := by
  by_cases h : b = c
  · subst h; simp [Lib.hasPrefix]
  · have h2 : ¬ c = b := fun e => h e.symm
    simp [Lib.hasPrefix, List.isPrefixOf, h, h2]
theorem pre_two (b c x y : UInt8) (r : List UInt8) : Lib.hasPrefix (b :: c :: r) [x, y] = (decide (b = x) && decide (c = y)) := by
  by_cases h : b = x
  · subst h
    by_cases k : c = y
    · subst k; simp [Lib.hasPrefix]
    · have k2 : ¬ y = c := fun e => k e.symm
      simp [Lib.hasPrefix, List.isPrefixOf, k, k2]
  · have h2 : ¬ x = b := fun e => h e.symm
    simp [Lib.hasPrefix, List.isPrefixOf, h, h2]
theorem pre_short (b x y : UInt8) : Lib.hasPrefix [b] [x, y] = false := by simp [Lib.hasPrefix, List.isPrefixOf]
theorem trim_v (c : UInt8) (r : List UInt8) : Lib.trimPrefix (c :: r) [c] = r := by simp [Lib.trimPrefix, Lib.hasPrefix]
theorem canon_head {b : UInt8} {r : List UInt8} (h : isDig b = false) (h2 : r = [] ∨ b ≠ 45) : canon (b :: r) = false := by
  by_cases hb : b = 45
  · subst hb
    rcases h2 with rfl | h2
    · decide
    · exact absurd rfl h2
  · unfold canon nbody
    have : ¬ (b :: r).head? = some 45 := by simp [hb]
    rw [if_neg this]
    simp [h]
theorem lt2_pre {s : ByteArray} {p : Nat} (h : p < s.size) : Lib.hasPrefix (s.extract p s.size).data.toList [60, 61] = lt2 s p := by
  obtain ⟨b, hb, e⟩ := ext_cons h (Nat.le_refl s.size)
  rw [e]
  have h60 : decide (bt s p = 60) = decide (b = 60) := by
    rw [← hb]
    by_cases hx : b = 60
    · subst hx; rfl
    · rw [decide_eq_false hx, decide_eq_false]
      intro e2
      exact hx (UInt8.toNat_inj.1 (by have : (60 : UInt8).toNat = 60 := rfl; omega))
  unfold lt2
  rw [h60]
  by_cases h1 : p + 1 < s.size
  · obtain ⟨c, hc, e1⟩ := ext_cons h1 (Nat.le_refl s.size)
    have h61 : decide (bt s (p + 1) = 61) = decide (c = 61) := by
      rw [← hc]
      by_cases hx : c = 61
      · subst hx; rfl
      · rw [decide_eq_false hx, decide_eq_false]
        intro e2
        exact hx (UInt8.toNat_inj.1 (by have : (61 : UInt8).toNat = 61 := rfl; omega))
    rw [e1, h61, decide_eq_true h1]
    rw [pre_two, Bool.and_true]
  · have e3 : (s.extract (p + 1) s.size).data.toList = [] := ext_nil (by omega)
    rw [e3, decide_eq_false h1, pre_short]
    simp
theorem tok_same {s : ByteArray} {p : Nat} (h : p < s.size) : tokE s p = (tk s p).getD p := by
  have hbd := endI_bd h
  obtain ⟨b, hb, e⟩ := ext_cons hbd.1 hbd.2
  have hnum : ∀ n : UInt8, (bt s p = (n.toNat : Int)) ↔ b = n := fun n => by
    rw [← hb]
    exact ⟨fun e => UInt8.toNat_inj.1 (by omega), fun e => by rw [e]⟩
  unfold tk
  cases hd : digit (bt s p) with
  | true =>
    have hE : endI s p = runE digit s p := by
      unfold endI numOrV
      rw [hd, Bool.true_or, if_pos rfl, runE_step h hd]
    have hdig : 48 ≤ b.toNat ∧ b.toNat ≤ 57 := by
      simp only [digit, Bool.and_eq_true, decide_eq_true_eq] at hd
      rw [← hb] at hd; omega
    have hT : isTokB (s.extract p (endI s p)) = smallB (s.extract p (endI s p)) 64 := by
      unfold isTokB
      rw [readOk_head e (Or.inl hdig), ne_one e (c := 33) (by intro x; subst x; revert hdig; decide), ne_one e (c := 40) (by intro x; subst x; revert hdig; decide), ne_one e (c := 41) (by intro x; subst x; revert hdig; decide)]
      rw [e, pre_one, decide_eq_false (by intro x; subst x; revert hdig; decide)]
      simp
    rw [hT]
    unfold tokE
    rw [hd, if_pos rfl, hE]
    split <;> rfl
  | false =>
    have hnd : isDig b = false := by
      unfold isDig
      simp only [digit, Bool.and_eq_false_iff, decide_eq_false_iff_not] at hd
      rw [← hb] at hd
      simp only [Bool.and_eq_false_iff, decide_eq_false_iff_not]
      omega
    by_cases hv : bt s p = 118
    · have hb118 : b = 118 := (hnum 118).1 hv
      have hE : endI s p = runE digit s (p + 1) := by
        unfold endI numOrV
        rw [decide_eq_true hv, Bool.or_true, if_pos rfl]
      have hT : isTokB (s.extract p (endI s p)) = smallB (s.extract (p + 1) (endI s p)) 29 := by
        unfold isTokB
        have hcn : smallB (s.extract p (endI s p)) 64 = false := by unfold smallB; rw [e, canon_head hnd (Or.inr (by rw [hb118]; decide))]; rfl
        have hr : restV (s.extract p (endI s p)) = s.extract (p + 1) (endI s p) := by
          unfold restV
          rw [e, hb118, trim_v, ba_of]
        rw [readOk_head e (Or.inr (by rw [hb118]; rfl)), ne_one e (c := 33) (by rw [hb118]; decide), ne_one e (c := 40) (by rw [hb118]; decide), ne_one e (c := 41) (by rw [hb118]; decide), hcn, hr]
        rw [e, pre_one, decide_eq_true hb118]
        simp
      rw [hT]
      unfold tokE
      rw [hd, if_neg (by decide), if_pos hv, hE]
      split <;> rfl
    · have hN : numOrV (bt s p) = false := by unfold numOrV; rw [hd, decide_eq_false hv]; rfl
      unfold tokE
      rw [hd, if_neg (by decide), if_neg hv]
      cases hl : lt2 s p with
      | true =>
        have hE : endI s p = p + 2 := by unfold endI; rw [hN, if_neg (by decide), hl, if_pos rfl]
        rw [if_pos rfl, hE]
        have h2 : p + 2 ≤ s.size := by rw [← hE]; exact hbd.2
        have hT : isTokB (s.extract p (p + 2)) = true := by
          have hex : s.extract p (p + 2) = ⟨#[60, 61]⟩ := by
            obtain ⟨b1, hb1, e1⟩ := ext_cons (s := s) (p := p) (e := p + 2) (by omega) h2
            obtain ⟨c1, hc1, e2⟩ := ext_cons (s := s) (p := p + 1) (e := p + 2) (by omega) h2
            have e3 : (s.extract (p + 1 + 1) (p + 2)).data.toList = [] := ext_nil (by omega)
            rw [e3] at e2
            simp only [lt2, Bool.and_eq_true, decide_eq_true_eq] at hl
            have y1 := hl.1.1
            have y2 := hl.2
            have x1 : b1 = 60 := UInt8.toNat_inj.1 (show b1.toNat = 60 by omega)
            have x2 : c1 = 61 := UInt8.toNat_inj.1 (show c1.toNat = 61 by omega)
            rw [← ba_of (s.extract p (p + 2)), e1, e2, x1, x2]
            rfl
          rw [hex]
          decide +kernel
        rw [hT, if_pos rfl]; rfl
      | false =>
        have hE : endI s p = p + 1 := by unfold endI; rw [hN, if_neg (by decide), hl, if_neg (by decide)]
        rw [if_neg (by decide), hE]
        rw [hE] at e
        rw [ext_nil (Nat.le_refl _)] at e
        have hone : ∀ c : UInt8, decide (s.extract p (p + 1) = ⟨#[c]⟩) = decide (bt s p = (c.toNat : Int)) := fun c => by
          by_cases hx : b = c
          · rw [decide_eq_true ((hnum c).2 hx), decide_eq_true]
            rw [← ba_of (s.extract p (p + 1)), e, hx]; rfl
          · rw [decide_eq_false fun y => hx ((hnum c).1 y), ne_one e hx]
        have hT : isTokB (s.extract p (p + 1)) = oneB s p := by
          unfold isTokB oneB
          have hcn : smallB (s.extract p (p + 1)) 64 = false := by unfold smallB; rw [e, canon_head hnd (Or.inl rfl)]; rfl
          rw [hone 33, hone 40, hone 41, hcn, e, pre_one, decide_eq_false fun x => hv ((hnum 118).2 x)]
          have a1 : ((33 : UInt8).toNat : Int) = 33 := rfl
          have a2 : ((40 : UInt8).toNat : Int) = 40 := rfl
          have a3 : ((41 : UInt8).toNat : Int) = 41 := rfl
          rw [a1, a2, a3]
          cases readOk (s.extract p (p + 1)) <;> cases decide (bt s p = 33) <;> cases decide (bt s p = 40) <;> cases decide (bt s p = 41) <;> rfl
        rw [hT]
        split <;> rfl
theorem tk_bd {s : ByteArray} {p e : Nat} (h : p < s.size) (ht : tk s p = some e) : p < e ∧ e ≤ s.size := by
  unfold tk at ht
  split at ht
  · cases ht; exact endI_bd h
  · cases ht
/-- All tokens from a place on, each by its two ends. -/
def scanE (s : ByteArray) (p : Nat) : Option (List (Nat × Nat)) :=
  if h : p < s.size then
    if bt s p = 32 then scanE s (p + 1)
    else if ht : isTokB (s.extract p (endI s p)) = true then (scanE s (endI s p)).map ((p, endI s p) :: ·) else none
  else some []
termination_by s.size - p
decreasing_by
  · omega
  · have := endI_bd h
    omega
theorem scan_end {s : ByteArray} {p : Nat} (h : ¬ p < s.size) : scanE s p = some [] := by rw [scanE, dif_neg h]
theorem scan_blank {s : ByteArray} {p : Nat} (h : p < s.size) (hb : bt s p = 32) : scanE s p = scanE s (p + 1) := by rw [scanE, dif_pos h, if_pos hb]
theorem scan_tok {s : ByteArray} {p : Nat} (h : p < s.size) (hb : bt s p ≠ 32) (ht : isTokB (s.extract p (endI s p)) = true) : scanE s p = (scanE s (endI s p)).map ((p, endI s p) :: ·) := by
  rw [scanE, dif_pos h, if_neg hb, dif_pos ht]
theorem scan_none {s : ByteArray} {p : Nat} (h : p < s.size) (hb : bt s p ≠ 32) (ht : isTokB (s.extract p (endI s p)) = false) : scanE s p = none := by
  rw [scanE, dif_pos h, if_neg hb, dif_neg (by rw [ht]; decide)]
def isBl (c : Int) : Bool := decide (c = 32)
theorem scan_skip (s : ByteArray) : ∀ n p, s.size - p ≤ n → scanE s p = scanE s (runE isBl s p) := by
  intro n
  induction n with
  | zero => intro p h; rw [runE_end (by omega)]
  | succ n ih =>
    intro p h
    by_cases hp : p < s.size
    · by_cases hb : bt s p = 32
      · rw [scan_blank hp hb, runE_step hp (decide_eq_true hb)]
        exact ih (p + 1) (by omega)
      · rw [runE_stop (decide_eq_false hb)]
    · rw [runE_end hp]
theorem scan_skp (s : ByteArray) (p : Nat) : scanE s p = scanE s (runE isBl s p) := scan_skip s _ p (Nat.le_refl _)
theorem runE_not {q : Int → Bool} (s : ByteArray) : ∀ n p, s.size - p ≤ n → runE q s p < s.size → q (bt s (runE q s p)) = false := by
  intro n
  induction n with
  | zero => intro p h; rw [runE_end (by omega)]; intro h2; omega
  | succ n ih =>
    intro p h
    by_cases hp : p < s.size
    · cases hq : q (bt s p) with
      | true => rw [runE_step hp hq]; exact ih (p + 1) (by omega)
      | false => rw [runE_stop hq]; intro _; exact hq
    · rw [runE_end hp]; intro h2; omega
theorem skp_not {s : ByteArray} {p : Nat} (h : runE isBl s p < s.size) : bt s (runE isBl s p) ≠ 32 := of_decide_eq_false (runE_not (q := isBl) s _ p (Nat.le_refl _) h)
/-- The texts, the places and the code of all tokens. -/
def tokOk (s : ByteArray) : Bool := decide (s.size ≤ 400) && (scanE s 0).isSome
def tokP (s : ByteArray) : List (Nat × Nat) := if s.size ≤ 400 then (scanE s 0).getD [] else []
def txtOf (s : ByteArray) (l : List (Nat × Nat)) : List ByteArray := l.map fun x => s.extract x.1 x.2
def offOf (l : List (Nat × Nat)) : List Int := l.map fun x => (x.1 : Int)
def tokT (s : ByteArray) : List ByteArray := txtOf s (tokP s)
def tokO (s : ByteArray) : List Int := offOf (tokP s)
def tokC (s : ByteArray) : Int := if s.size ≤ 400 then (if (scanE s 0).isSome = true then 0 else 8) else 2
theorem scan_len (s : ByteArray) : ∀ n p l, s.size - p ≤ n → scanE s p = some l → l.length ≤ s.size - p := by
  intro n
  induction n with
  | zero => intro p l h hs; rw [scan_end (by omega)] at hs; cases hs; exact Nat.zero_le _
  | succ n ih =>
    intro p l h hs
    by_cases hp : p < s.size
    · by_cases hb : bt s p = 32
      · rw [scan_blank hp hb] at hs
        have := ih (p + 1) l (by omega) hs
        omega
      · cases ht : isTokB (s.extract p (endI s p)) with
        | false => rw [scan_none hp hb ht] at hs; cases hs
        | true =>
          rw [scan_tok hp hb ht] at hs
          have hbd := endI_bd hp
          cases hq : scanE s (endI s p) with
          | none => rw [hq] at hs; cases hs
          | some r =>
            rw [hq] at hs
            cases hs
            have := ih (endI s p) r (by omega) hq
            simp only [List.length_cons]
            omega
    · rw [scan_end hp] at hs; cases hs; exact Nat.zero_le _
theorem tokP_len (s : ByteArray) : (tokP s).length ≤ 400 := by
  unfold tokP
  split
  · cases hq : scanE s 0 with
    | none => exact Nat.zero_le _
    | some l =>
      have := scan_len s _ 0 l (Nat.le_refl _) hq
      simp only [Option.getD_some]
      omega
  · exact Nat.zero_le _
theorem tokT_len (s : ByteArray) : (tokT s).length ≤ 400 := by unfold tokT txtOf; rw [List.length_map]; exact tokP_len s
theorem tokO_len (s : ByteArray) : (tokO s).length = (tokT s).length := by unfold tokT txtOf tokO offOf; rw [List.length_map, List.length_map]
end Go.Proofs.YtcakmchefbohoaaDoor
