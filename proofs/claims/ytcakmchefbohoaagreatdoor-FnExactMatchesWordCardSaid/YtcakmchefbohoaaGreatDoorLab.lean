/- The plain law of labels: which texts are one, their names and values. No program in sight. -/
import Derived.Lib.IndexMore
import Derived.Lib.Strings
import Derived.Test.YtcakmchefbohoaaGreatDoorMath
import Derived.Test.YtcakmchefbohoaaGreatDoorNum
import Derived.Test.YtcakmchefbohoaaGreatDoorText
set_option linter.unusedVariables false
set_option linter.unusedSimpArgs false
namespace Go.Proofs.YtcakmchefbohoaaGreatDoor

def isVal (n : Int) : Bool := inR n 0 63
def vals2 (xs : List Int) : Bool := xs.all isVal
/-- Whether a text has a parenthesis, what stands ahead of it and behind it. -/
def hasPar (s : ByteArray) : Bool := decide (idxC 40 s.data.toList < s.size)
def nameOf (s : ByteArray) : ByteArray := ba (s.data.toList.take (idxC 40 s.data.toList))
def restOf (s : ByteArray) : List UInt8 := s.data.toList.drop (idxC 40 s.data.toList + 1)
def shutEnd (s : ByteArray) : Bool := Lib.hasSuffix (restOf s) [41]
/-- What stands between the parentheses. -/
def innerOf (s : ByteArray) : ByteArray := ba (Lib.trimSuffix (restOf s) [41])
def wordsOf (s : ByteArray) : List ByteArray := wordsB 44 (innerOf s)
/-- A label: a name, or an action and one or two values. -/
def labOk (s : ByteArray) : Bool :=
  if hasPar s then isAction (nameOf s) && shutEnd s && canons (wordsOf s) && vals2 (numsV (wordsOf s)) && decide ((wordsOf s).length ≤ 2) else isName s
def labVals (s : ByteArray) : List Int := if hasPar s then numsV (wordsOf s) else []
/-- The label with a name and values, if there is one. -/
def mkOk (s : ByteArray) (xs : List Int) : Bool := if s = tauB then decide (xs.length = 0) else isAction s && vals2 xs && decide (xs.length ≤ 2)
def mkText (s : ByteArray) (xs : List Int) : ByteArray := if xs.length = 0 then s else ba (s.data.toList ++ 40 :: joinN xs 44 ++ [41])

theorem toList_inj {x y : ByteArray} (h : x.toList = y.toList) : x = y := by
  have e : ∀ z : ByteArray, z.toList = z.data.toList := fun z => by rw [ByteArray.toList_eq]
  rw [e, e] at h
  exact ByteArray.ext (Array.toList_inj.1 h)
theorem beq_text (x y : ByteArray) : (x.toList == y.toList) = decide (x = y) := by
  by_cases h : x = y
  · subst h; simp
  · rw [decide_eq_false h]
    cases hq : x.toList == y.toList with
    | false => rfl
    | true => exact absurd (toList_inj (by simpa using hq)) h
/-- What the walks compare texts by. -/
theorem beq_lit (s : ByteArray) (l : List UInt8) (h : s ≠ ba l) : (s.toList == l) = false := by
  cases hq : s.toList == l with
  | false => rfl
  | true =>
    exfalso
    apply h
    have e : s.toList = l := by simpa using hq
    apply ByteArray.ext
    apply Array.toList_inj.1
    rw [← ByteArray.toList_eq, e]
    rfl
theorem tau_name : isName tauB = true := by decide
theorem isAction_tau : isAction tauB = false := by unfold isAction; simp
theorem isAction_eq (s : ByteArray) : isAction s = (isName s && !decide (s = tauB)) := by unfold isAction; rw [beq_text]
theorem isAction_le {s : ByteArray} (h : isAction s = true) : 1 ≤ s.size ∧ s.size ≤ 10 := by
  rw [isAction_eq, Bool.and_eq_true] at h
  exact isName_le h.1
theorem hasSuffix_one (l : List UInt8) (c : UInt8) : Lib.hasSuffix l [c] = decide (l.getLast? = some c) := by
  unfold Lib.hasSuffix
  rw [Bool.eq_iff_iff]
  simp only [List.isSuffixOf_iff_suffix, decide_eq_true_eq]
  constructor
  · rintro ⟨t, rfl⟩
    simp
  · intro h
    obtain ⟨t, ht⟩ := List.getLast?_eq_some_iff.1 h
    exact ⟨t, ht.symm⟩
theorem trim_one {l : List UInt8} {c : UInt8} (h : Lib.hasSuffix l [c] = true) : Lib.trimSuffix l [c] ++ [c] = l := by
  unfold Lib.trimSuffix
  rw [if_pos h]
  rw [hasSuffix_one, decide_eq_true_eq] at h
  obtain ⟨t, ht⟩ := List.getLast?_eq_some_iff.1 h
  rw [ht]
  simp
theorem trim_no {l : List UInt8} {c : UInt8} (h : Lib.hasSuffix l [c] = false) : Lib.trimSuffix l [c] = l := by
  unfold Lib.trimSuffix
  rw [if_neg (by rw [h]; decide)]
theorem par_parts {s : ByteArray} (h : hasPar s = true) : (nameOf s).data.toList ++ 40 :: restOf s = s.data.toList := by
  have hlt : idxC 40 s.data.toList < s.data.toList.length := by
    have := of_decide_eq_true h
    rw [Array.length_toList]; exact this
  unfold nameOf restOf
  rw [ba_data]
  have h1 := idxC_hit 40 s.data.toList hlt
  conv => rhs; rw [← List.take_append_drop (idxC 40 s.data.toList) s.data.toList, List.drop_eq_getElem_cons hlt, h1]
theorem cut_par {s : ByteArray} (h : hasPar s = true) : Lib.cut s.data.toList [40] = ((nameOf s).data.toList, restOf s, true) := by
  have hlt : idxC 40 s.data.toList < s.data.toList.length := by
    have := of_decide_eq_true h
    rw [Array.length_toList]; exact this
  rw [cut_one, if_pos hlt]
  rfl
theorem cut_no {s : ByteArray} (h : hasPar s = false) : Lib.cut s.data.toList [40] = (s.data.toList, [], false) := by
  have hlt : ¬ idxC 40 s.data.toList < s.data.toList.length := by
    have := of_decide_eq_false h
    rw [Array.length_toList]; exact this
  rw [cut_one, if_neg hlt]
/-- The text that is made again of what was read is the text that was read, if it ends with the parenthesis. -/
theorem mk_again {s : ByteArray} (h : hasPar s = true) (hc : canons (wordsOf s) = true) : decide (mkText (nameOf s) (numsV (wordsOf s)) = s) = shutEnd s := by
  have hp := par_parts h
  have hn : (numsV (wordsOf s)).length ≠ 0 := by
    rw [numsV_length]
    have := wordsB_pos 44 (innerOf s)
    unfold wordsOf; omega
  unfold mkText
  rw [if_neg hn]
  have hj : joinN (numsV (wordsOf s)) 44 = Lib.trimSuffix (restOf s) [41] := by
    unfold wordsOf at hc ⊢
    rw [joinN_words hc]; rfl
  rw [hj]
  cases he : shutEnd s with
  | true =>
    apply decide_eq_true
    have := trim_one he
    rw [show (nameOf s).data.toList ++ 40 :: Lib.trimSuffix (restOf s) [41] ++ [41] = (nameOf s).data.toList ++ 40 :: (Lib.trimSuffix (restOf s) [41] ++ [41]) by simp, this, hp]
    exact ba_of s
  | false =>
    apply decide_eq_false
    intro e
    rw [trim_no he] at e
    have e2 := congrArg (fun z : ByteArray => z.data.toList) e
    simp only [ba_data] at e2
    rw [← hp] at e2
    have := congrArg List.length e2
    simp at this
theorem lab_par {s : ByteArray} (h : hasPar s = true) : labOk s = (shutEnd s && canons (wordsOf s) && mkOk (nameOf s) (numsV (wordsOf s))) := by
  unfold labOk mkOk
  rw [if_pos h, numsV_length]
  by_cases ht : nameOf s = tauB
  · rw [if_pos ht, ht, isAction_tau]
    have := wordsB_pos 44 (innerOf s)
    have : ¬ (wordsOf s).length = 0 := by unfold wordsOf; omega
    rw [decide_eq_false this]
    simp
  · rw [if_neg ht]
    cases isAction (nameOf s) <;> cases shutEnd s <;> cases canons (wordsOf s) <;> cases vals2 (numsV (wordsOf s)) <;> simp
theorem lab_no {s : ByteArray} (h : hasPar s = false) : labOk s = mkOk s [] := by
  unfold labOk mkOk
  rw [if_neg (by rw [h]; decide)]
  by_cases ht : s = tauB
  · rw [if_pos ht, ht, tau_name]; rfl
  · rw [if_neg ht, isAction_eq, decide_eq_false ht]
    simp [vals2]
end Go.Proofs.YtcakmchefbohoaaGreatDoor
