/- Contracts: decimal numerals read, of the program and of the reference. -/
import Derived.Test.YtcakmchefbohoaaGreatDoorProg
import Derived.Test.YtcakmchefbohoaaGreatDoorMem
import Derived.Test.YtcakmchefbohoaaGreatDoorMath
import Derived.Test.YtcakmchefbohoaaGreatDoorBasics
import Derived.Test.YtcakmchefbohoaaGreatDoorShelf
import Derived.Test.YtcakmchefbohoaaGreatDoorDec
import Derived.Test.YtcakmchefbohoaaGreatDoorNum
import Derived.WalkKit
import Derived.BigQuiet
import Derived.Lib.Hide
import Derived.Lib.AtoiErrMem
import Derived.Outline
set_option linter.unusedVariables false
set_option linter.unusedSimpArgs false
namespace Go.Proofs.YtcakmchefbohoaaGreatDoor
open Go.RowKit

def rdN (s : ByteArray) : Int := if canon s.data.toList = true then numV s.data.toList else 0
theorem ba_toList {x y : ByteArray} (h : x.toList = y.toList) : x = y := by
  have e : ∀ z : ByteArray, z.toList = z.data.toList := fun z => by rw [ByteArray.toList_eq]
  rw [e, e] at h
  exact ByteArray.ext (Array.toList_inj.1 h)
theorem parse_bd {l : List UInt8} {v : Int} (h : Lib.parseIntB 64 l = .ok v) : -9223372036854775808 ≤ v ∧ v ≤ 9223372036854775807 := by
  unfold Lib.parseIntB at h
  split at h
  · cases h
  · simp only at h
    split at h
    · cases h
    · cases h
    · split at h
      · cases h
      · split at h
        · cases h
        · injection h with h
          split at h <;> omega
set_option maxHeartbeats 1600000 in
theorem ReadDecimal_any (s : ByteArray) (w : World) (hs : s.size ≤ 281474976710656) (hT : PowTab w)
    (hE1 : ∃ tp p, w.var? Tryz.prog "strconv.ErrSyntax" = some #[.iface tp p]) (hE2 : ∃ tp p, w.var? Tryz.prog "strconv.ErrRange" = some #[.iface tp p]) :
    Calls Tryz.prog 98 #[.string s] w fun e w' => e = .returned (.tuple #[.int .i64 (rdN s), .bool (canon s.data.toList)]) ∧ Below w.heap.size w w' := by
  have HT := Lib.hid hT
  have HE1 := Lib.hid hE1
  have HE2 := Lib.hid hE2
  clear hT hE1 hE2
  by_cases h18 : (nbody s.data.toList).length ≤ 18
  · cases hp : Lib.parseIntB 64 s.data.toList with
    | range =>
      have hc : Hid (canon s.data.toList = false) := Lib.hid (by
        cases h : canon s.data.toList with
        | false => rfl
        | true => rw [(canon_good h).2.1] at hp; cases hp)
      have hr : Hid (rdN s = 0) := Lib.hid (by unfold rdN; rw [if_neg (by rw [hc.out]; decide)])
      have HP := Lib.hid hp
      rw [hr.out, hc.out]
      clear hp
      go_enter Tryz.func98, Tryz.ntmps98
      go_wp2_with fail
      refine (Tryz_strings_TrimPrefix _ _ _).mono ?_
      rw [show ({ data := #[45] } : ByteArray).data.toList = [45] from rfl, trim_body]
      obtain ⟨t, ht⟩ : ∃ t : ByteArray, t = ⟨(nbody s.data.toList).toArray⟩ := ⟨_, rfl⟩
      have hts : t.size = (nbody s.data.toList).length := by rw [ht]; rfl
      rw [← ht]
      clear ht
      rintro e w' ⟨rfl, rfl⟩
      have h18t : ¬ (18 : Int) < t.size := by omega
      have h18n : ¬ 18 < t.size := by omega
      clear hts h18
      obtain ⟨tp, p, hv⟩ := HE2.out
      go_wp2_with fail
      refine (Tryz_strconv_ParseInt_10_at64_range_var s hs HP.out tp p _ hv).mono ?_
      rintro e w1 ⟨N, rfl, hN, hcell, hb⟩
      clear hcell hv
      go_wp2_with fail
      go_ret2
      exact ⟨rfl, hb⟩
    | ok v =>
      have hv64 := Lib.hid (parse_bd hp)
      have HP := Lib.hid hp
      obtain ⟨x, hx⟩ : ∃ x : ByteArray, x = ⟨(Lib.itoa v).toArray⟩ := ⟨_, rfl⟩
      have hs0 : s = ⟨s.data.toList.toArray⟩ := by rcases s with ⟨⟨l⟩⟩; rfl
      cases hcan : canon s.data.toList with
      | true =>
        have hvn : v = numV s.data.toList := by
          rw [(canon_good hcan).2.1] at hp
          injection hp with hp
          exact hp.symm
        have hr : Hid (rdN s = v) := Lib.hid (by unfold rdN; rw [if_pos hcan, hvn])
        have hxs : Hid ((⟨(Lib.itoa v).toArray⟩ : ByteArray) = s) := Lib.hid (by rw [hvn, (canon_good hcan).1])
        rw [hr.out]
        clear hp hx hvn hcan hs0
        go_enter Tryz.func98, Tryz.ntmps98
        go_wp2_with fail
        refine (Tryz_strings_TrimPrefix _ _ _).mono ?_
        rw [show ({ data := #[45] } : ByteArray).data.toList = [45] from rfl, trim_body]
        obtain ⟨t, ht⟩ : ∃ t : ByteArray, t = ⟨(nbody s.data.toList).toArray⟩ := ⟨_, rfl⟩
        have hts : t.size = (nbody s.data.toList).length := by rw [ht]; rfl
        rw [← ht]
        clear ht
        rintro e w' ⟨rfl, rfl⟩
        have h18t : ¬ (18 : Int) < t.size := by omega
        have h18n : ¬ 18 < t.size := by omega
        clear hts h18
        go_wp2_with fail
        refine (Tryz_strconv_ParseInt_10_at64_ok s (by omega) v HP.out _).mono ?_
        rintro e w1 ⟨rfl, hw1⟩
        have hb1 : Below w'.heap.size w' w1 := by
          rcases hw1 with rfl | ⟨y, rfl⟩
          · exact Below.refl _ _
          · exact Lib.bytesWorld_below _ _ _
        clear hw1
        go_wp2_with fail
        refine (Decimal_any v _ hv64.out.1 hv64.out.2 (HT.out.below hb1)).mono ?_
        rw [hxs.out]
        rintro e w2 ⟨rfl, hb2⟩
        go_wp2_with fail
        go_ret2
        exact ⟨rfl, below_trans' hb1 hb2⟩
      | false =>
        have hr : Hid (rdN s = 0) := Lib.hid (by unfold rdN; rw [if_neg (by rw [hcan]; decide)])
        have hne : x ≠ s := by
          intro e
          refine canon_bad hcan h18 v ?_
          rw [← e, hx]
        have hneb : (x.toList == s.toList) = false := by
          cases hq : x.toList == s.toList with
          | false => rfl
          | true => exact absurd (ba_toList (by simpa using hq)) hne
        rw [hr.out]
        have Hx := Lib.hid hx
        clear hp hx hcan hs0 hne
        go_enter Tryz.func98, Tryz.ntmps98
        go_wp2_with fail
        refine (Tryz_strings_TrimPrefix _ _ _).mono ?_
        rw [show ({ data := #[45] } : ByteArray).data.toList = [45] from rfl, trim_body]
        obtain ⟨t, ht⟩ : ∃ t : ByteArray, t = ⟨(nbody s.data.toList).toArray⟩ := ⟨_, rfl⟩
        have hts : t.size = (nbody s.data.toList).length := by rw [ht]; rfl
        rw [← ht]
        clear ht
        rintro e w' ⟨rfl, rfl⟩
        have h18t : ¬ (18 : Int) < t.size := by omega
        have h18n : ¬ 18 < t.size := by omega
        clear hts h18
        go_wp2_with fail
        refine (Tryz_strconv_ParseInt_10_at64_ok s (by omega) v HP.out _).mono ?_
        rintro e w1 ⟨rfl, hw1⟩
        have hb1 : Below w'.heap.size w' w1 := by
          rcases hw1 with rfl | ⟨y, rfl⟩
          · exact Below.refl _ _
          · exact Lib.bytesWorld_below _ _ _
        clear hw1
        go_wp2_with fail
        refine (Decimal_any v _ hv64.out.1 hv64.out.2 (HT.out.below hb1)).mono ?_
        rw [← Hx.out]
        rintro e w2 ⟨rfl, hb2⟩
        go_wp2_with fail
        go_ret2
        exact ⟨rfl, below_trans' hb1 hb2⟩
    | _ =>
      have hc : Hid (canon s.data.toList = false) := Lib.hid (by
        cases h : canon s.data.toList with
        | false => rfl
        | true => rw [(canon_good h).2.1] at hp; cases hp)
      have hr : Hid (rdN s = 0) := Lib.hid (by unfold rdN; rw [if_neg (by rw [hc.out]; decide)])
      have HP := Lib.hid hp
      rw [hr.out, hc.out]
      clear hp
      go_enter Tryz.func98, Tryz.ntmps98
      go_wp2_with fail
      refine (Tryz_strings_TrimPrefix _ _ _).mono ?_
      rw [show ({ data := #[45] } : ByteArray).data.toList = [45] from rfl, trim_body]
      obtain ⟨t, ht⟩ : ∃ t : ByteArray, t = ⟨(nbody s.data.toList).toArray⟩ := ⟨_, rfl⟩
      have hts : t.size = (nbody s.data.toList).length := by rw [ht]; rfl
      rw [← ht]
      clear ht
      rintro e w' ⟨rfl, rfl⟩
      have h18t : ¬ (18 : Int) < t.size := by omega
      have h18n : ¬ 18 < t.size := by omega
      clear hts h18
      obtain ⟨tp, p, hv⟩ := HE1.out
      go_wp2_with fail
      refine (Tryz_strconv_ParseInt_10_at64_syntax_var s hs HP.out tp p _ hv).mono ?_
      rintro e w1 ⟨N, rfl, hN, hcell, hb⟩
      clear hcell hv
      go_wp2_with fail
      go_ret2
      exact ⟨rfl, hb⟩
  · have hc : Hid (canon s.data.toList = false) := Lib.hid (by
      cases h : canon s.data.toList with
      | false => rfl
      | true => exact absurd (canon_parts h).2.1 h18)
    have hr : Hid (rdN s = 0) := Lib.hid (by unfold rdN; rw [if_neg (by rw [hc.out]; decide)])
    rw [hr.out, hc.out]
    go_enter Tryz.func98, Tryz.ntmps98
    go_wp2_with fail
    refine (Tryz_strings_TrimPrefix _ _ _).mono ?_
    rw [show ({ data := #[45] } : ByteArray).data.toList = [45] from rfl, trim_body]
    obtain ⟨t, ht⟩ : ∃ t : ByteArray, t = ⟨(nbody s.data.toList).toArray⟩ := ⟨_, rfl⟩
    have hts : t.size = (nbody s.data.toList).length := by rw [ht]; rfl
    rw [← ht]
    clear ht
    rintro e w' ⟨rfl, rfl⟩
    have h18t : (18 : Int) < t.size := by omega
    have h18n : 18 < t.size := by omega
    clear hts h18
    go_wp2_with fail
    go_ret2
    exact ⟨rfl, Below.refl _ _⟩
theorem byte_get (s : ByteArray) (i : Nat) (h : i < s.size) : i < s.data.toList.length ∧ ∀ h2 : i < s.data.toList.length, (s[i].toNat : Int) = (s.data.toList[i].toNat : Int) := by
  have hl : s.data.toList.length = s.size := by rw [Array.length_toList]; rfl
  refine ⟨by omega, fun h2 => ?_⟩
  rw [Array.getElem_toList]
  rfl
theorem canon_no {l : List UInt8} (h : nbody l = [] ∨ 18 < (nbody l).length ∨ ((nbody l).head? = some 48 ∧ 1 < l.length) ∨ (nbody l).all isDig = false) : canon l = false := by
  cases hc : canon l with
  | false => rfl
  | true =>
    obtain ⟨h1, h2, h3, h4⟩ := canon_parts hc
    rcases h with h | h | ⟨h, h'⟩ | h
    · exact absurd h h1
    · omega
    · rcases h3 with h3 | h3
      · exact absurd h h3
      · omega
    · rw [h4] at h; cases h
--MARK l01Number
theorem nat0_le (l : List UInt8) : nat0 l ≤ 1 := by unfold nat0; split <;> omega
theorem head_get {l : List UInt8} {c : UInt8} (h : 0 < l.length) : l.head? = some c ↔ l[0] = c := by
  cases l with
  | nil => exact absurd h (by simp)
  | cons a r => simp
theorem nat0_bt {s : ByteArray} (hp : 0 < s.size) : nat0 s.data.toList = if bt s 0 = 45 then 1 else 0 := by
  obtain ⟨h1, h2⟩ := byte_get s 0 hp
  have h3 := bt_eq s 0 hp
  have h4 := h2 h1
  have h45 : (45 : UInt8).toNat = 45 := rfl
  unfold nat0
  by_cases hh : s.data.toList.head? = some 45
  · have e := (head_get h1).1 hh
    rw [e] at h4
    rw [if_pos hh, if_pos (by rw [← h3, h4]; rfl)]
  · rw [if_neg hh, if_neg]
    intro e
    apply hh
    rw [head_get h1]
    apply UInt8.toNat_inj.1
    omega
theorem nat0_none {s : ByteArray} (hp : s.size = 0) : s.data.toList = [] := by
  rcases s with ⟨⟨l⟩⟩
  exact List.length_eq_zero_iff.1 hp
theorem ba_len (s : ByteArray) : s.data.toList.length = s.size := by rw [Array.length_toList]; rfl
theorem nb_get {s : ByteArray} {k : Nat} (hk : nat0 s.data.toList ≤ k) (hlt : k < s.size) :
    ∃ h : k - nat0 s.data.toList < (nbody s.data.toList).length, ((nbody s.data.toList)[k - nat0 s.data.toList].toNat : Int) = bt s k := by
  have hl := ba_len s
  have h0 := nbody_length s.data.toList
  have hj : k - nat0 s.data.toList < (nbody s.data.toList).length := by omega
  refine ⟨hj, ?_⟩
  obtain ⟨h1, h2⟩ := byte_get s k hlt
  have h3 := bt_eq s k hlt
  rw [← h3, h2 h1]
  have h4 : (nbody s.data.toList)[k - nat0 s.data.toList]? = s.data.toList[k]? := by
    rw [nbody_drop, List.getElem?_drop]
    congr 1
    omega
  rw [List.getElem?_eq_getElem hj, List.getElem?_eq_getElem h1] at h4
  injection h4 with h4
  rw [h4]
theorem isDig_bt {c : UInt8} {n : Int} (h : (c.toNat : Int) = n) : isDig c = digit n := by
  unfold isDig digit
  rw [← h]
  congr 1 <;> (apply decide_eq_decide.2; omega)
theorem num_step {s : ByteArray} {k : Nat} (hk : nat0 s.data.toList ≤ k) (hlt : k < s.size) (h18 : (nbody s.data.toList).length ≤ 18)
    (hall : ((nbody s.data.toList).take (k - nat0 s.data.toList)).all isDig = true) (hd : digit (bt s k) = true) :
    48 ≤ bt s k ∧ bt s k ≤ 57 ∧ ((valD 0 ((nbody s.data.toList).take (k + 1 - nat0 s.data.toList)) : Nat) : Int) = 10 * ((valD 0 ((nbody s.data.toList).take (k - nat0 s.data.toList)) : Nat) : Int) + (bt s k - 48)
      ∧ ((nbody s.data.toList).take (k + 1 - nat0 s.data.toList)).all isDig = true ∧ valD 0 ((nbody s.data.toList).take (k + 1 - nat0 s.data.toList)) < 1000000000000000000 := by
  obtain ⟨h1, h2⟩ := nb_get hk hlt
  have h3 : 48 ≤ bt s k ∧ bt s k ≤ 57 := by simpa [digit] using hd
  have hi : isDig (nbody s.data.toList)[k - nat0 s.data.toList] = true := by rw [isDig_bt h2]; exact hd
  have e : k + 1 - nat0 s.data.toList = (k - nat0 s.data.toList) + 1 := by omega
  have ha := all_take_succ _ _ h1 hall hi
  rw [e]
  refine ⟨h3.1, h3.2, ?_, ha, ?_⟩
  · rw [valD_take _ _ h1]
    omega
  · exact valD_lt 0 18 _ ha (by rw [List.length_take]; omega) (by decide) (Nat.le_refl _)
theorem num_bad {s : ByteArray} {k : Nat} (hk : nat0 s.data.toList ≤ k) (hlt : k < s.size) (hd : digit (bt s k) = false) : canon s.data.toList = false := by
  obtain ⟨h1, h2⟩ := nb_get hk hlt
  exact canon_no (Or.inr (Or.inr (Or.inr (all_take_bad _ _ h1 (by rw [isDig_bt h2]; exact hd)))))
theorem num_zero {s : ByteArray} (hlt : nat0 s.data.toList < s.size) (hd : bt s (nat0 s.data.toList) = 48) (h1 : 1 < s.size) : canon s.data.toList = false := by
  obtain ⟨h1', h2⟩ := nb_get (Nat.le_refl _) hlt
  refine canon_no (Or.inr (Or.inr (Or.inl ⟨?_, by rw [ba_len]; exact h1⟩)))
  rw [head_get (by omega)]
  apply UInt8.toNat_inj.1
  have h48 : (48 : UInt8).toNat = 48 := rfl
  simp only [Nat.sub_self] at h2
  omega
theorem num_end {s : ByteArray} (hlt : nat0 s.data.toList < s.size) (h18 : (nbody s.data.toList).length ≤ 18) (hz : bt s (nat0 s.data.toList) ≠ 48 ∨ s.size ≤ 1)
    (hall : ((nbody s.data.toList).take (s.size - nat0 s.data.toList)).all isDig = true) :
    canon s.data.toList = true ∧ rdN s = (if nat0 s.data.toList = 1 then -((valD 0 ((nbody s.data.toList).take (s.size - nat0 s.data.toList)) : Nat) : Int) else ((valD 0 ((nbody s.data.toList).take (s.size - nat0 s.data.toList)) : Nat) : Int)) := by
  obtain ⟨h1', h2⟩ := nb_get (Nat.le_refl _) hlt
  have hl := ba_len s
  have h0 := nbody_length s.data.toList
  rw [List.take_of_length_le (by omega)] at hall ⊢
  have hc : canon s.data.toList = true := by
    refine canon_mk (by intro e; rw [e] at h1'; simp at h1') h18 ?_ hall
    rcases hz with hz | hz
    · left
      intro e
      rw [head_get (by omega)] at e
      apply hz
      simp only [Nat.sub_self] at h2
      rw [← h2, e]; rfl
    · right; omega
  refine ⟨hc, ?_⟩
  unfold rdN numV nat0
  rw [if_pos hc]
  by_cases h : s.data.toList.head? = some 45
  · rw [if_pos h, if_pos h, if_pos rfl]
  · rw [if_neg h, if_neg h, if_neg (by decide)]
theorem rd_no {s : ByteArray} (h : canon s.data.toList = false) : rdN s = 0 := by unfold rdN; rw [if_neg (by rw [h]; decide)]
set_option maxHeartbeats 1600000 in
theorem l01Number_1 (s : ByteArray) (w : World) (hs : s.size ≤ 281474976710656) (hp : 0 < s.size) (h45 : bt s 0 = 45) :
    Calls Tryz.prog 57 #[.string s] w fun e w' => e = .returned (.tuple #[.int .i64 (rdN s), .bool (canon s.data.toList)]) ∧ w = w' := by
  have hA : nat0 s.data.toList = 1 := by rw [nat0_bt hp]; rw [if_pos h45]
  have hnl : (nbody s.data.toList).length = s.size - 1 := by rw [nbody_length, ba_len, hA]
  have hc0 : (s[0].toNat : Int) = bt s 0 := bt_eq s 0 hp
  by_cases h1 : s.size = 1
  · have hcf : Hid (canon s.data.toList = false) := Lib.hid (canon_no (Or.inl (List.length_eq_zero_iff.1 (by omega))))
    have hrf := Lib.hid (rd_no hcf.out)
    have h1i : (s.size : Int) = 1 := by omega
    clear hnl hA
    go_enter Tryz.func57, Tryz.ntmps57
    go_wp2_with fail
    go_ret2
    exact ⟨by rw [hrf.out, hcf.out]; rfl, rfl⟩
  have h1i : ¬ (s.size : Int) = 1 := by omega
  have h1p : 1 < s.size := by omega
  have hc1 : (s[1].toNat : Int) = bt s 1 := bt_eq s 1 h1p
  by_cases h18 : 18 < s.size - 1
  · have hcf : Hid (canon s.data.toList = false) := Lib.hid (canon_no (Or.inr (Or.inl (by omega))))
    have hrf := Lib.hid (rd_no hcf.out)
    have h18i : (18 : Int) < (s.size : Int) - 1 := by omega
    clear hnl hA
    go_enter Tryz.func57, Tryz.ntmps57
    go_wp2_with fail
    go_ret2
    exact ⟨by rw [hrf.out, hcf.out]; rfl, rfl⟩
  have h18i : ¬ (18 : Int) < (s.size : Int) - 1 := by omega
  have h19 : (s.size : Int) ≤ 19 := by omega
  by_cases hz : bt s 1 = 48 ∧ 1 < s.size
  · obtain ⟨hz1, hz2⟩ := hz
    have hcf : Hid (canon s.data.toList = false) := Lib.hid (num_zero (by rw [hA]; omega) (by rw [hA]; exact hz1) hz2)
    have hrf := Lib.hid (rd_no hcf.out)
    have hz3 : (1 : Int) < (s.size : Int) := by omega
    clear hnl hA
    go_enter Tryz.func57, Tryz.ntmps57
    go_wp2_with fail
    go_ret2
    exact ⟨by rw [hrf.out, hcf.out]; rfl, rfl⟩
  have HZ : Hid (bt s (nat0 s.data.toList) ≠ 48 ∨ s.size ≤ 1) := Lib.hid (by
    rw [hA]
    by_cases h : bt s 1 = 48
    · right
      exact Nat.le_of_not_lt fun h2 => hz ⟨h, h2⟩
    · exact Or.inl h)
  have HA := Lib.hid hA
  have HN := Lib.hid (show (nbody s.data.toList).length ≤ 18 by omega)
  have HW : Hid (∀ P : Prop, (bt s 1 = 48 → ¬ 1 < s.size → P) → (¬ bt s 1 = 48 → P) → P) := Lib.hid (by
    intro P h1 h2
    by_cases h : bt s 1 = 48
    · exact h1 h fun h3 => hz ⟨h, h3⟩
    · exact h2 h)
  clear hz hnl hA h18
  refine HW.out _ ?_ ?_
  · intro hz1 hz2
    have hz3 : ¬ (1 : Int) < (s.size : Int) := by omega
    exact absurd h1p hz2
  · intro hz1
    skip
    clear HW
    go_enter Tryz.func57, Tryz.ntmps57
    go_wp2_with fail
    have Hc0 := Lib.hid hc0
    have Hz1 := Lib.hid hz1
    have H45 := Lib.hid h45
    clear hc0 hz1 h45
    have Hc1 := Lib.hid hc1
    clear hc1
    go_loop [5, 6] (fun sn si => ∃ k : Nat, 1 ≤ k ∧ k ≤ s.size ∧ si = .int .i64 k ∧ sn = .int .i64 ((valD 0 ((nbody s.data.toList).take (k - nat0 s.data.toList)) : Nat) : Int) ∧ Hid (((nbody s.data.toList).take (k - nat0 s.data.toList)).all isDig = true)) (fun _ si => s.size - (intOf si).toNat)
    case atStart => exact ⟨1, Nat.le_refl _, by omega, rfl, by rw [HA.out, Nat.sub_self, List.take_zero, valD_nil]; rfl, Lib.hid (by rw [HA.out, Nat.sub_self, List.take_zero]; rfl)⟩
    case round =>
      obtain ⟨k, hk0, hk, rfl, rfl, HL⟩ := hrel
      by_cases hlt : k < s.size
      · have hck : (s[k].toNat : Int) = bt s k := bt_eq s k hlt
        cases hd : digit (bt s k) with
        | true =>
          obtain ⟨hd1, hd2, hv, ha, hb⟩ := num_step (by rw [HA.out]; exact hk0) hlt HN.out HL.out hd
          obtain ⟨V, hV⟩ : ∃ V, V = valD 0 ((nbody s.data.toList).take (k - nat0 s.data.toList)) := ⟨_, rfl⟩
          obtain ⟨V1, hV1⟩ : ∃ V1, V1 = valD 0 ((nbody s.data.toList).take (k + 1 - nat0 s.data.toList)) := ⟨_, rfl⟩
          rw [← hV] at hv ⊢
          rw [← hV1] at hv hb
          have HV1 := Lib.hid hV1
          have Hv := Lib.hid hv
          have Ha := Lib.hid ha
          have hb1 : 10 * (V : Int) + (bt s k - 48) < 1000000000000000000 := by omega
          clear hV hV1 hv ha hb HL
          go_wp2_with (go_at_call 93; refine (l01Digit_any _ _).mono ?_; rintro e w' ⟨rfl, rfl⟩)
          go_round
          case rel => exact ⟨k + 1, by omega, by omega, by go_num, by rw [← HV1.out, Hv.out], Ha⟩
          case measure => simp [intOf]; omega
        | false =>
          have hcf : Hid (canon s.data.toList = false) := Lib.hid (num_bad (by rw [HA.out]; exact hk0) hlt hd)
          have hrf := Lib.hid (rd_no hcf.out)
          go_wp2_with (go_at_call 93; refine (l01Digit_any _ _).mono ?_; rintro e w' ⟨rfl, rfl⟩)
          go_ret2
          exact ⟨by rw [hrf.out, hcf.out]; rfl, rfl⟩
      · obtain rfl : k = s.size := by omega
        have hE := num_end (s := s) (by rw [HA.out]; omega) HN.out HZ.out HL.out
        have hcf := Lib.hid hE.1
        have hrf := Lib.hid hE.2
        have hvb : valD 0 ((nbody s.data.toList).take (s.size - nat0 s.data.toList)) < 1000000000000000000 := valD_lt 0 18 _ HL.out (by rw [List.length_take]; have := HN.out; omega) (by decide) (Nat.le_refl _)
        obtain ⟨V, hV⟩ : ∃ V, V = valD 0 ((nbody s.data.toList).take (s.size - nat0 s.data.toList)) := ⟨_, rfl⟩
        rw [← hV] at hrf hvb ⊢
        clear hV hE HL
        go_wp2_with fail
        go_ret2
        exact ⟨by rw [hrf.out, hcf.out, HA.out]; rfl, rfl⟩
set_option maxHeartbeats 1600000 in
theorem l01Number_0 (s : ByteArray) (w : World) (hs : s.size ≤ 281474976710656) (hp : 0 < s.size) (h45 : ¬ bt s 0 = 45) :
    Calls Tryz.prog 57 #[.string s] w fun e w' => e = .returned (.tuple #[.int .i64 (rdN s), .bool (canon s.data.toList)]) ∧ w = w' := by
  have hA : nat0 s.data.toList = 0 := by rw [nat0_bt hp]; rw [if_neg h45]
  have hnl : (nbody s.data.toList).length = s.size - 0 := by rw [nbody_length, ba_len, hA]
  have hc0 : (s[0].toNat : Int) = bt s 0 := bt_eq s 0 hp
  have h1i : ¬ (s.size : Int) = 0 := by omega
  have h1n : ¬ s = ByteArray.empty := by intro e; rw [e] at hp; exact absurd hp (by decide)
  by_cases h18 : 18 < s.size - 0
  · have hcf : Hid (canon s.data.toList = false) := Lib.hid (canon_no (Or.inr (Or.inl (by omega))))
    have hrf := Lib.hid (rd_no hcf.out)
    have h18i : (18 : Int) < (s.size : Int) := by omega
    clear hnl hA
    go_enter Tryz.func57, Tryz.ntmps57
    go_wp2_with fail
    go_ret2
    exact ⟨by rw [hrf.out, hcf.out]; rfl, rfl⟩
  have h18i : ¬ (18 : Int) < (s.size : Int) := by omega
  have h19 : (s.size : Int) ≤ 19 := by omega
  by_cases hz : bt s 0 = 48 ∧ 1 < s.size
  · obtain ⟨hz1, hz2⟩ := hz
    have hcf : Hid (canon s.data.toList = false) := Lib.hid (num_zero (by rw [hA]; omega) (by rw [hA]; exact hz1) hz2)
    have hrf := Lib.hid (rd_no hcf.out)
    have hz3 : (1 : Int) < (s.size : Int) := by omega
    clear hnl hA
    go_enter Tryz.func57, Tryz.ntmps57
    go_wp2_with fail
    go_ret2
    exact ⟨by rw [hrf.out, hcf.out]; rfl, rfl⟩
  have HZ : Hid (bt s (nat0 s.data.toList) ≠ 48 ∨ s.size ≤ 1) := Lib.hid (by
    rw [hA]
    by_cases h : bt s 0 = 48
    · right
      exact Nat.le_of_not_lt fun h2 => hz ⟨h, h2⟩
    · exact Or.inl h)
  have HA := Lib.hid hA
  have HN := Lib.hid (show (nbody s.data.toList).length ≤ 18 by omega)
  have HW : Hid (∀ P : Prop, (bt s 0 = 48 → ¬ 1 < s.size → P) → (¬ bt s 0 = 48 → P) → P) := Lib.hid (by
    intro P h1 h2
    by_cases h : bt s 0 = 48
    · exact h1 h fun h3 => hz ⟨h, h3⟩
    · exact h2 h)
  clear hz hnl hA h18
  refine HW.out _ ?_ ?_
  · intro hz1 hz2
    have hz3 : ¬ (1 : Int) < (s.size : Int) := by omega
    clear HW
    go_enter Tryz.func57, Tryz.ntmps57
    go_wp2_with fail
    have Hc0 := Lib.hid hc0
    have Hz1 := Lib.hid hz1
    have H45 := Lib.hid h45
    clear hc0 hz1 h45


    go_loop [5, 6] (fun sn si => ∃ k : Nat, 0 ≤ k ∧ k ≤ s.size ∧ si = .int .i64 k ∧ sn = .int .i64 ((valD 0 ((nbody s.data.toList).take (k - nat0 s.data.toList)) : Nat) : Int) ∧ Hid (((nbody s.data.toList).take (k - nat0 s.data.toList)).all isDig = true)) (fun _ si => s.size - (intOf si).toNat)
    case atStart => exact ⟨0, Nat.le_refl _, by omega, rfl, by rw [HA.out, Nat.sub_self, List.take_zero, valD_nil]; rfl, Lib.hid (by rw [HA.out, Nat.sub_self, List.take_zero]; rfl)⟩
    case round =>
      obtain ⟨k, hk0, hk, rfl, rfl, HL⟩ := hrel
      by_cases hlt : k < s.size
      · have hck : (s[k].toNat : Int) = bt s k := bt_eq s k hlt
        cases hd : digit (bt s k) with
        | true =>
          obtain ⟨hd1, hd2, hv, ha, hb⟩ := num_step (by rw [HA.out]; exact hk0) hlt HN.out HL.out hd
          obtain ⟨V, hV⟩ : ∃ V, V = valD 0 ((nbody s.data.toList).take (k - nat0 s.data.toList)) := ⟨_, rfl⟩
          obtain ⟨V1, hV1⟩ : ∃ V1, V1 = valD 0 ((nbody s.data.toList).take (k + 1 - nat0 s.data.toList)) := ⟨_, rfl⟩
          rw [← hV] at hv ⊢
          rw [← hV1] at hv hb
          have HV1 := Lib.hid hV1
          have Hv := Lib.hid hv
          have Ha := Lib.hid ha
          have hb1 : 10 * (V : Int) + (bt s k - 48) < 1000000000000000000 := by omega
          clear hV hV1 hv ha hb HL
          go_wp2_with (go_at_call 93; refine (l01Digit_any _ _).mono ?_; rintro e w' ⟨rfl, rfl⟩)
          go_round
          case rel => exact ⟨k + 1, by omega, by omega, by go_num, by rw [← HV1.out, Hv.out], Ha⟩
          case measure => simp [intOf]; omega
        | false =>
          have hcf : Hid (canon s.data.toList = false) := Lib.hid (num_bad (by rw [HA.out]; exact hk0) hlt hd)
          have hrf := Lib.hid (rd_no hcf.out)
          go_wp2_with (go_at_call 93; refine (l01Digit_any _ _).mono ?_; rintro e w' ⟨rfl, rfl⟩)
          go_ret2
          exact ⟨by rw [hrf.out, hcf.out]; rfl, rfl⟩
      · obtain rfl : k = s.size := by omega
        have hE := num_end (s := s) (by rw [HA.out]; omega) HN.out HZ.out HL.out
        have hcf := Lib.hid hE.1
        have hrf := Lib.hid hE.2
        have hvb : valD 0 ((nbody s.data.toList).take (s.size - nat0 s.data.toList)) < 1000000000000000000 := valD_lt 0 18 _ HL.out (by rw [List.length_take]; have := HN.out; omega) (by decide) (Nat.le_refl _)
        obtain ⟨V, hV⟩ : ∃ V, V = valD 0 ((nbody s.data.toList).take (s.size - nat0 s.data.toList)) := ⟨_, rfl⟩
        rw [← hV] at hrf hvb ⊢
        clear hV hE HL
        go_wp2_with fail
        go_ret2
        exact ⟨by rw [hrf.out, hcf.out, HA.out]; rfl, rfl⟩
  · intro hz1
    skip
    clear HW
    go_enter Tryz.func57, Tryz.ntmps57
    go_wp2_with fail
    have Hc0 := Lib.hid hc0
    have Hz1 := Lib.hid hz1
    have H45 := Lib.hid h45
    clear hc0 hz1 h45


    go_loop [5, 6] (fun sn si => ∃ k : Nat, 0 ≤ k ∧ k ≤ s.size ∧ si = .int .i64 k ∧ sn = .int .i64 ((valD 0 ((nbody s.data.toList).take (k - nat0 s.data.toList)) : Nat) : Int) ∧ Hid (((nbody s.data.toList).take (k - nat0 s.data.toList)).all isDig = true)) (fun _ si => s.size - (intOf si).toNat)
    case atStart => exact ⟨0, Nat.le_refl _, by omega, rfl, by rw [HA.out, Nat.sub_self, List.take_zero, valD_nil]; rfl, Lib.hid (by rw [HA.out, Nat.sub_self, List.take_zero]; rfl)⟩
    case round =>
      obtain ⟨k, hk0, hk, rfl, rfl, HL⟩ := hrel
      by_cases hlt : k < s.size
      · have hck : (s[k].toNat : Int) = bt s k := bt_eq s k hlt
        cases hd : digit (bt s k) with
        | true =>
          obtain ⟨hd1, hd2, hv, ha, hb⟩ := num_step (by rw [HA.out]; exact hk0) hlt HN.out HL.out hd
          obtain ⟨V, hV⟩ : ∃ V, V = valD 0 ((nbody s.data.toList).take (k - nat0 s.data.toList)) := ⟨_, rfl⟩
          obtain ⟨V1, hV1⟩ : ∃ V1, V1 = valD 0 ((nbody s.data.toList).take (k + 1 - nat0 s.data.toList)) := ⟨_, rfl⟩
          rw [← hV] at hv ⊢
          rw [← hV1] at hv hb
          have HV1 := Lib.hid hV1
          have Hv := Lib.hid hv
          have Ha := Lib.hid ha
          have hb1 : 10 * (V : Int) + (bt s k - 48) < 1000000000000000000 := by omega
          clear hV hV1 hv ha hb HL
          go_wp2_with (go_at_call 93; refine (l01Digit_any _ _).mono ?_; rintro e w' ⟨rfl, rfl⟩)
          go_round
          case rel => exact ⟨k + 1, by omega, by omega, by go_num, by rw [← HV1.out, Hv.out], Ha⟩
          case measure => simp [intOf]; omega
        | false =>
          have hcf : Hid (canon s.data.toList = false) := Lib.hid (num_bad (by rw [HA.out]; exact hk0) hlt hd)
          have hrf := Lib.hid (rd_no hcf.out)
          go_wp2_with (go_at_call 93; refine (l01Digit_any _ _).mono ?_; rintro e w' ⟨rfl, rfl⟩)
          go_ret2
          exact ⟨by rw [hrf.out, hcf.out]; rfl, rfl⟩
      · obtain rfl : k = s.size := by omega
        have hE := num_end (s := s) (by rw [HA.out]; omega) HN.out HZ.out HL.out
        have hcf := Lib.hid hE.1
        have hrf := Lib.hid hE.2
        have hvb : valD 0 ((nbody s.data.toList).take (s.size - nat0 s.data.toList)) < 1000000000000000000 := valD_lt 0 18 _ HL.out (by rw [List.length_take]; have := HN.out; omega) (by decide) (Nat.le_refl _)
        obtain ⟨V, hV⟩ : ∃ V, V = valD 0 ((nbody s.data.toList).take (s.size - nat0 s.data.toList)) := ⟨_, rfl⟩
        rw [← hV] at hrf hvb ⊢
        clear hV hE HL
        go_wp2_with fail
        go_ret2
        exact ⟨by rw [hrf.out, hcf.out, HA.out]; rfl, rfl⟩
set_option maxHeartbeats 1600000 in
theorem l01Number_any (s : ByteArray) (w : World) (hs : s.size ≤ 281474976710656) :
    Calls Tryz.prog 57 #[.string s] w fun e w' => e = .returned (.tuple #[.int .i64 (rdN s), .bool (canon s.data.toList)]) ∧ w = w' := by
  by_cases hp : 0 < s.size
  · by_cases h45 : bt s 0 = 45
    · exact l01Number_1 s w hs hp h45
    · exact l01Number_0 s w hs hp h45
  · have h0 : s.size = 0 := by omega
    have hcf : Hid (canon s.data.toList = false) := Lib.hid (canon_no (Or.inl (by rw [nat0_none h0]; rfl)))
    have hrf := Lib.hid (rd_no hcf.out)
    go_enter Tryz.func57, Tryz.ntmps57
    go_wp2_with fail
    go_ret2
    exact ⟨by rw [hrf.out, hcf.out]; rfl, rfl⟩
end Go.Proofs.YtcakmchefbohoaaGreatDoor
