/- Contracts: where a token of the reference ends. -/
import Derived.Test.YtcakmchefbohoaaDoorProg
import Derived.Test.YtcakmchefbohoaaDoorMem
import Derived.Test.YtcakmchefbohoaaDoorMath
import Derived.Test.YtcakmchefbohoaaDoorBasics
import Derived.Test.YtcakmchefbohoaaDoorHelpI
import Derived.Test.YtcakmchefbohoaaDoorOpenI
import Derived.Test.YtcakmchefbohoaaDoorGrid
import Derived.Test.YtcakmchefbohoaaDoorOper
import Derived.Test.YtcakmchefbohoaaDoorShelf
import Derived.Test.YtcakmchefbohoaaDoorDec
import Derived.Test.YtcakmchefbohoaaDoorNum
import Derived.Test.YtcakmchefbohoaaDoorText
import Derived.Test.YtcakmchefbohoaaDoorLab
import Derived.Test.YtcakmchefbohoaaDoorRead
import Derived.Test.YtcakmchefbohoaaDoorEnv
import Derived.Test.YtcakmchefbohoaaDoorTok
import Derived.Test.YtcakmchefbohoaaDoorTokU
import Derived.WalkKit
import Derived.BigQuiet
import Derived.Maps.AppendAt
import Derived.Lib.Hide
import Derived.Outline
set_option linter.unusedVariables false
set_option linter.unusedSimpArgs false
namespace Go.Proofs.YtcakmchefbohoaaDoor
open Go.RowKit

def smV (t : ByteArray) (L : Int) : Int := if smallB t L = true then rdN t else -1
theorem smV_false {t : ByteArray} {L : Int} (h : smallB t L = false) : smV t L = -1 := by unfold smV; rw [h]; rfl
theorem smV_true {t : ByteArray} {L : Int} (h : smallB t L = true) : 0 ≤ smV t L := by
  unfold smV
  rw [if_pos h]
  unfold smallB at h
  simp only [Bool.and_eq_true] at h
  exact (inR_true h.2).1
theorem smV_canon {t : ByteArray} {L : Int} (h : canon t.data.toList = false) : smV t L = -1 := by
  refine smV_false ?_
  unfold smallB
  rw [h]; rfl
theorem smV_low {t : ByteArray} {L : Int} (h : rdN t < 0) : smV t L = -1 := by
  refine smV_false ?_
  unfold smallB inR
  rw [decide_eq_false (show ¬ 0 ≤ rdN t by omega)]
  simp
theorem smV_high {t : ByteArray} {L : Int} (h : L ≤ rdN t) : smV t L = -1 := by
  refine smV_false ?_
  unfold smallB inR
  rw [decide_eq_false (show ¬ rdN t ≤ L - 1 by omega)]
  simp
theorem smV_in {t : ByteArray} {L : Int} (hc : canon t.data.toList = true) (h0 : ¬ rdN t < 0) (h : ¬ L ≤ rdN t) : smV t L = rdN t := by
  unfold smV smallB inR
  rw [hc, decide_eq_true (show 0 ≤ rdN t by omega), decide_eq_true (show rdN t ≤ L - 1 by omega)]
  rfl
set_option maxRecDepth 100000 in
theorem l04Small_any (t : ByteArray) (L : Int) (w : World) (ht : t.size ≤ 1048576) :
    Calls Tryd.prog 18 #[.string t, .int .i64 L] w fun e w' => e = .returned (.int .i64 (smV t L)) ∧ w = w' := by
  cases hc : canon t.data.toList with
  | false =>
    have HS : Hid (smV t L = -1) := Lib.hid (smV_canon hc)
    rw [HS.out]
    go_enter Tryd.func18, Tryd.ntmps18
    go_wp2_with fail
    refine (l01Number_any t _ (by omega)).mono ?_
    rw [hc]
    rintro e w' ⟨rfl, rfl⟩
    go_wp2_with fail
    go_ret
    exact ⟨rfl, rfl⟩
  | true =>
    obtain ⟨V, hV⟩ : ∃ V, V = rdN t := ⟨_, rfl⟩
    have HV := Lib.hid hV
    have hall : (V < 0 → smV t L = -1) ∧ (L ≤ V → smV t L = -1) ∧ (¬ V < 0 → ¬ L ≤ V → smV t L = V) := by
      rw [hV]
      exact ⟨smV_low, smV_high, smV_in hc⟩
    have HA := Lib.hid hall
    clear hV hall
    by_cases h0 : V < 0
    · rw [HA.out.1 h0]
      clear HA
      go_enter Tryd.func18, Tryd.ntmps18
      go_wp2_with fail
      refine (l01Number_any t _ (by omega)).mono ?_
      rw [hc, ← HV.out]
      rintro e w' ⟨rfl, rfl⟩
      go_wp2_with fail
      go_ret
      exact ⟨rfl, rfl⟩
    · by_cases h1 : L ≤ V
      · rw [HA.out.2.1 h1]
        clear HA
        go_enter Tryd.func18, Tryd.ntmps18
        go_wp2_with fail
        refine (l01Number_any t _ (by omega)).mono ?_
        rw [hc, ← HV.out]
        rintro e w' ⟨rfl, rfl⟩
        go_wp2_with fail
        go_ret
        exact ⟨rfl, rfl⟩
      · rw [HA.out.2.2 h0 h1]
        clear HA
        go_enter Tryd.func18, Tryd.ntmps18
        go_wp2_with fail
        refine (l01Number_any t _ (by omega)).mono ?_
        rw [hc, ← HV.out]
        rintro e w' ⟨rfl, rfl⟩
        go_wp2_with fail
        go_ret
        exact ⟨rfl, rfl⟩
theorem ext_size (s : ByteArray) (p e : Nat) : (s.extract p e).size ≤ s.size := by rw [ByteArray.size_extract]; omega
theorem tokE_op {s : ByteArray} {p : Nat} (hd : digit (bt s p) = false) (h1 : bt s p ≠ 118) (h2 : lt2 s p = false) : tokE s p = if oneB s p = true then p + 1 else p := by
  unfold tokE
  rw [hd, if_neg (by decide), if_neg h1, h2, if_neg (by decide)]
set_option maxRecDepth 100000 in
set_option maxHeartbeats 3200000 in
theorem l04Token_any (s : ByteArray) (p : Nat) (w : World) (hs : s.size ≤ 1048576) (hp : p < s.size) :
    Calls Tryd.prog 13 #[.string s, .int .i64 p] w fun e w' => e = .returned (.int .i64 (tokE s p)) ∧ Below w.heap.size w w' := by
  have hck : (s[p].toNat : Int) = bt s p := bt_eq s p hp
  obtain ⟨p1, hp1⟩ : ∃ p1, p1 = p + 1 := ⟨_, rfl⟩
  have H1 := Lib.hid hp1
  have hpc : (p : Int) + 1 = (p1 : Int) := by omega
  have hpl : p1 ≤ s.size := by omega
  have hpp : p ≤ p1 := by omega
  clear hp1
  cases hd : digit (bt s p) with
  | true =>
    have hE2 := (runE_bd digit s p).2 (by omega)
    have hE1 := (runE_bd digit s p).1
    have HK : Hid (tokE s p = if smallB (s.extract p (runE digit s p)) 64 = true then runE digit s p else p) := Lib.hid (by unfold tokE; rw [if_pos hd])
    obtain ⟨E, hE⟩ : ∃ E, E = runE digit s p := ⟨_, rfl⟩
    rw [← hE] at hE1 hE2 HK
    have HE := Lib.hid hE
    have hz := ext_size s p E
    clear hE
    cases hm : smallB (s.extract p E) 64 with
    | true =>
      have HR : Hid (tokE s p = E) := Lib.hid (by rw [HK.out, hm]; rfl)
      have hv := smV_true hm
      obtain ⟨V, hV⟩ : ∃ V, V = smV (s.extract p E) 64 := ⟨_, rfl⟩
      rw [← hV] at hv
      have HV := Lib.hid hV
      rw [HR.out]
      clear HR HK hm hV
      go_enter Tryd.func13, Tryd.ntmps13
      go_wp2_with fail
      refine (l01Digit_any (bt s p) _).mono ?_
      rw [hd]
      rintro e w' ⟨rfl, rfl⟩
      go_wp2_with fail
      refine (l04Digits_any s p _ hs (by omega)).mono ?_
      rw [← HE.out]
      rintro e w' ⟨rfl, rfl⟩
      go_wp2_with fail
      refine (l04Small_any (s.extract p E) 64 _ (by omega)).mono ?_
      rw [← HV.out]
      rintro e w' ⟨rfl, rfl⟩
      go_wp2_with fail
      go_ret
      exact ⟨rfl, Below.refl _ _⟩
    | false =>
      have HR : Hid (tokE s p = p) := Lib.hid (by rw [HK.out, hm]; rfl)
      have hv := smV_false hm
      obtain ⟨V, hV⟩ : ∃ V, V = smV (s.extract p E) 64 := ⟨_, rfl⟩
      rw [← hV] at hv
      have HV := Lib.hid hV
      rw [HR.out]
      clear HR HK hm hV
      subst hv
      go_enter Tryd.func13, Tryd.ntmps13
      go_wp2_with fail
      refine (l01Digit_any (bt s p) _).mono ?_
      rw [hd]
      rintro e w' ⟨rfl, rfl⟩
      go_wp2_with fail
      refine (l04Digits_any s p _ hs (by omega)).mono ?_
      rw [← HE.out]
      rintro e w' ⟨rfl, rfl⟩
      go_wp2_with fail
      refine (l04Small_any (s.extract p E) 64 _ (by omega)).mono ?_
      rw [← HV.out]
      rintro e w' ⟨rfl, rfl⟩
      go_wp2_with fail
      go_ret
      exact ⟨rfl, Below.refl _ _⟩
  | false =>
    by_cases h118 : bt s p = 118
    · have b118 : (bt s p == 118) = true := by simpa using h118
      have hE2 := (runE_bd digit s p1).2 (by omega)
      have hE1 := (runE_bd digit s p1).1
      have HK : Hid (tokE s p = if smallB (s.extract p1 (runE digit s p1)) 29 = true then runE digit s p1 else p) := Lib.hid (by rw [H1.out]; unfold tokE; rw [hd, if_neg (by decide), if_pos h118])
      obtain ⟨E, hE⟩ : ∃ E, E = runE digit s p1 := ⟨_, rfl⟩
      rw [← hE] at hE1 hE2 HK
      have HE := Lib.hid hE
      have hz := ext_size s p1 E
      clear hE h118
      cases hm : smallB (s.extract p1 E) 29 with
      | true =>
        have HR : Hid (tokE s p = E) := Lib.hid (by rw [HK.out, hm]; rfl)
        have hv := smV_true hm
        obtain ⟨V, hV⟩ : ∃ V, V = smV (s.extract p1 E) 29 := ⟨_, rfl⟩
        rw [← hV] at hv
        have HV := Lib.hid hV
        rw [HR.out]
        clear HR HK hm hV
        go_enter Tryd.func13, Tryd.ntmps13
        go_wp2_with fail
        refine (l01Digit_any (bt s p) _).mono ?_
        rw [hd]
        rintro e w' ⟨rfl, rfl⟩
        go_wp2_with fail
        refine (l04Digits_any s p1 _ hs (by omega)).mono ?_
        rw [← HE.out]
        rintro e w' ⟨rfl, rfl⟩
        go_wp2_with fail
        refine (l04Small_any (s.extract p1 E) 29 _ (by omega)).mono ?_
        rw [← HV.out]
        rintro e w' ⟨rfl, rfl⟩
        go_wp2_with fail
        go_ret
        exact ⟨rfl, Below.refl _ _⟩
      | false =>
        have HR : Hid (tokE s p = p) := Lib.hid (by rw [HK.out, hm]; rfl)
        have hv := smV_false hm
        obtain ⟨V, hV⟩ : ∃ V, V = smV (s.extract p1 E) 29 := ⟨_, rfl⟩
        rw [← hV] at hv
        have HV := Lib.hid hV
        rw [HR.out]
        clear HR HK hm hV
        subst hv
        go_enter Tryd.func13, Tryd.ntmps13
        go_wp2_with fail
        refine (l01Digit_any (bt s p) _).mono ?_
        rw [hd]
        rintro e w' ⟨rfl, rfl⟩
        go_wp2_with fail
        refine (l04Digits_any s p1 _ hs (by omega)).mono ?_
        rw [← HE.out]
        rintro e w' ⟨rfl, rfl⟩
        go_wp2_with fail
        refine (l04Small_any (s.extract p1 E) 29 _ (by omega)).mono ?_
        rw [← HV.out]
        rintro e w' ⟨rfl, rfl⟩
        go_wp2_with fail
        go_ret
        exact ⟨rfl, Below.refl _ _⟩
    · have b118 : (bt s p == 118) = false := by simpa using h118
      by_cases h60 : bt s p = 60
      · have b60 : (bt s p == 60) = true := by simpa using h60
        have b33 : (bt s p == 33) = false := by rw [h60]; rfl
        have b40 : (bt s p == 40) = false := by rw [h60]; rfl
        have b41 : (bt s p == 41) = false := by rw [h60]; rfl
        have hone : oneB s p = readOk (s.extract p p1) := by rw [H1.out]; unfold oneB; rw [h60]; simp
        by_cases h1 : p1 < s.size
        · have hck2 : (s[p1].toNat : Int) = bt s p1 := bt_eq s p1 h1
          by_cases h61 : bt s p1 = 61
          · have b61 : (bt s p1 == 61) = true := by simpa using h61
            have HR : Hid (tokE s p = p + 2) := Lib.hid (by
              have hl : lt2 s p = true := by unfold lt2; rw [← H1.out, h60, h61, decide_eq_true h1]; rfl
              unfold tokE
              rw [hd, if_neg (by decide), if_neg h118, if_pos hl])
            rw [HR.out]
            clear HR h118 h60 h61 hone b33 b40 b41
            go_enter Tryd.func13, Tryd.ntmps13
            go_wp2_with fail
            refine (l01Digit_any (bt s p) _).mono ?_
            rw [hd]
            rintro e w' ⟨rfl, rfl⟩
            go_wp2_with fail
            go_ret
            exact ⟨rfl, Below.refl _ _⟩
          · have b61 : (bt s p1 == 61) = false := by simpa using h61
            have hlt : lt2 s p = false := by unfold lt2; rw [← H1.out, decide_eq_false h61]; simp
            clear h60 h61
            have HK : Hid (tokE s p = if readOk (s.extract p p1) = true then p1 else p) := Lib.hid (by rw [tokE_op hd h118 hlt, hone, ← H1.out])
            clear hlt hone
            obtain ⟨V, hV⟩ : ∃ V, V = idxS opL (s.extract p p1) := ⟨_, rfl⟩
            have HV := Lib.hid hV
            have hrk : readOk (s.extract p p1) = decide (0 ≤ V) := by rw [hV]; rfl
            rw [hrk] at HK
            clear hV hrk
            by_cases hV0 : 0 ≤ V
            · have HR : Hid (tokE s p = p1) := Lib.hid (by rw [HK.out]; simp [hV0])
              rw [HR.out]
              clear HR HK h118
              go_enter Tryd.func13, Tryd.ntmps13
              go_wp2_with fail
              refine (l01Digit_any (bt s p) _).mono ?_
              rw [hd]
              rintro e w' ⟨rfl, rfl⟩
              go_wp2_with fail
              refine (l04Op_any (s.extract p p1) _).mono ?_
              rw [← HV.out]
              rintro e w1 ⟨rfl, hb1⟩
              go_wp2_with fail
              go_ret
              exact ⟨rfl, hb1⟩
            · have HR : Hid (tokE s p = p) := Lib.hid (by rw [HK.out]; simp [hV0])
              rw [HR.out]
              clear HR HK h118
              go_enter Tryd.func13, Tryd.ntmps13
              go_wp2_with fail
              refine (l01Digit_any (bt s p) _).mono ?_
              rw [hd]
              rintro e w' ⟨rfl, rfl⟩
              go_wp2_with fail
              refine (l04Op_any (s.extract p p1) _).mono ?_
              rw [← HV.out]
              rintro e w1 ⟨rfl, hb1⟩
              go_wp2_with fail
              go_ret
              exact ⟨rfl, hb1⟩
        · have hlt : lt2 s p = false := by unfold lt2; rw [← H1.out, decide_eq_false h1]; simp
          clear h60
          have HK : Hid (tokE s p = if readOk (s.extract p p1) = true then p1 else p) := Lib.hid (by rw [tokE_op hd h118 hlt, hone, ← H1.out])
          clear hlt hone
          obtain ⟨V, hV⟩ : ∃ V, V = idxS opL (s.extract p p1) := ⟨_, rfl⟩
          have HV := Lib.hid hV
          have hrk : readOk (s.extract p p1) = decide (0 ≤ V) := by rw [hV]; rfl
          rw [hrk] at HK
          clear hV hrk
          by_cases hV0 : 0 ≤ V
          · have HR : Hid (tokE s p = p1) := Lib.hid (by rw [HK.out]; simp [hV0])
            rw [HR.out]
            clear HR HK h118
            go_enter Tryd.func13, Tryd.ntmps13
            go_wp2_with fail
            refine (l01Digit_any (bt s p) _).mono ?_
            rw [hd]
            rintro e w' ⟨rfl, rfl⟩
            go_wp2_with fail
            refine (l04Op_any (s.extract p p1) _).mono ?_
            rw [← HV.out]
            rintro e w1 ⟨rfl, hb1⟩
            go_wp2_with fail
            go_ret
            exact ⟨rfl, hb1⟩
          · have HR : Hid (tokE s p = p) := Lib.hid (by rw [HK.out]; simp [hV0])
            rw [HR.out]
            clear HR HK h118
            go_enter Tryd.func13, Tryd.ntmps13
            go_wp2_with fail
            refine (l01Digit_any (bt s p) _).mono ?_
            rw [hd]
            rintro e w' ⟨rfl, rfl⟩
            go_wp2_with fail
            refine (l04Op_any (s.extract p p1) _).mono ?_
            rw [← HV.out]
            rintro e w1 ⟨rfl, hb1⟩
            go_wp2_with fail
            go_ret
            exact ⟨rfl, hb1⟩
      · have b60 : (bt s p == 60) = false := by simpa using h60
        have hlt : lt2 s p = false := by unfold lt2; rw [decide_eq_false h60]; simp
        clear h60
        by_cases h33 : bt s p = 33
        · have b33 : (bt s p == 33) = true := by simpa using h33
          have HR : Hid (tokE s p = p1) := Lib.hid (by rw [H1.out, tokE_op hd h118 hlt]; unfold oneB; simp [h33])
          rw [HR.out]
          clear HR h118 hlt h33
          go_enter Tryd.func13, Tryd.ntmps13
          go_wp2_with fail
          refine (l01Digit_any (bt s p) _).mono ?_
          rw [hd]
          rintro e w' ⟨rfl, rfl⟩
          go_wp2_with fail
          go_ret
          exact ⟨rfl, Below.refl _ _⟩
        · have b33 : (bt s p == 33) = false := by simpa using h33
          by_cases h40 : bt s p = 40
          · have b40 : (bt s p == 40) = true := by simpa using h40
            have HR : Hid (tokE s p = p1) := Lib.hid (by rw [H1.out, tokE_op hd h118 hlt]; unfold oneB; simp [h40])
            rw [HR.out]
            clear HR h118 hlt h40
            go_enter Tryd.func13, Tryd.ntmps13
            go_wp2_with fail
            refine (l01Digit_any (bt s p) _).mono ?_
            rw [hd]
            rintro e w' ⟨rfl, rfl⟩
            go_wp2_with fail
            go_ret
            exact ⟨rfl, Below.refl _ _⟩
          · have b40 : (bt s p == 40) = false := by simpa using h40
            by_cases h41 : bt s p = 41
            · have b41 : (bt s p == 41) = true := by simpa using h41
              have HR : Hid (tokE s p = p1) := Lib.hid (by rw [H1.out, tokE_op hd h118 hlt]; unfold oneB; simp [h41])
              rw [HR.out]
              clear HR h118 hlt h41
              go_enter Tryd.func13, Tryd.ntmps13
              go_wp2_with fail
              refine (l01Digit_any (bt s p) _).mono ?_
              rw [hd]
              rintro e w' ⟨rfl, rfl⟩
              go_wp2_with fail
              go_ret
              exact ⟨rfl, Below.refl _ _⟩
            · have b41 : (bt s p == 41) = false := by simpa using h41
              have hone : oneB s p = readOk (s.extract p p1) := by rw [H1.out]; unfold oneB; rw [decide_eq_false h33, decide_eq_false h40, decide_eq_false h41]; simp
              clear h33 h40 h41
              have HK : Hid (tokE s p = if readOk (s.extract p p1) = true then p1 else p) := Lib.hid (by rw [tokE_op hd h118 hlt, hone, ← H1.out])
              clear hlt hone
              obtain ⟨V, hV⟩ : ∃ V, V = idxS opL (s.extract p p1) := ⟨_, rfl⟩
              have HV := Lib.hid hV
              have hrk : readOk (s.extract p p1) = decide (0 ≤ V) := by rw [hV]; rfl
              rw [hrk] at HK
              clear hV hrk
              by_cases hV0 : 0 ≤ V
              · have HR : Hid (tokE s p = p1) := Lib.hid (by rw [HK.out]; simp [hV0])
                rw [HR.out]
                clear HR HK h118
                go_enter Tryd.func13, Tryd.ntmps13
                go_wp2_with fail
                refine (l01Digit_any (bt s p) _).mono ?_
                rw [hd]
                rintro e w' ⟨rfl, rfl⟩
                go_wp2_with fail
                refine (l04Op_any (s.extract p p1) _).mono ?_
                rw [← HV.out]
                rintro e w1 ⟨rfl, hb1⟩
                go_wp2_with fail
                go_ret
                exact ⟨rfl, hb1⟩
              · have HR : Hid (tokE s p = p) := Lib.hid (by rw [HK.out]; simp [hV0])
                rw [HR.out]
                clear HR HK h118
                go_enter Tryd.func13, Tryd.ntmps13
                go_wp2_with fail
                refine (l01Digit_any (bt s p) _).mono ?_
                rw [hd]
                rintro e w' ⟨rfl, rfl⟩
                go_wp2_with fail
                refine (l04Op_any (s.extract p p1) _).mono ?_
                rw [← HV.out]
                rintro e w1 ⟨rfl, hb1⟩
                go_wp2_with fail
                go_ret
                exact ⟨rfl, hb1⟩
end Go.Proofs.YtcakmchefbohoaaDoor
