/- Contracts: the replacement of a regular modality, by the reference: one or the other. -/
import Derived.Test.YtcakmchefbohoaaGreatDoorProg
import Derived.Test.YtcakmchefbohoaaGreatDoorMem
import Derived.Test.YtcakmchefbohoaaGreatDoorMath
import Derived.Test.YtcakmchefbohoaaGreatDoorBasics
import Derived.Test.YtcakmchefbohoaaGreatDoorOpenI
import Derived.Test.YtcakmchefbohoaaGreatDoorHelpI
import Derived.Test.YtcakmchefbohoaaGreatDoorGrid
import Derived.Test.YtcakmchefbohoaaGreatDoorLab
import Derived.Test.YtcakmchefbohoaaGreatDoorDec
import Derived.Test.YtcakmchefbohoaaGreatDoorEnv
import Derived.Test.YtcakmchefbohoaaGreatDoorNode
import Derived.Test.YtcakmchefbohoaaGreatDoorNodeW
import Derived.Test.YtcakmchefbohoaaGreatDoorReg
import Derived.Test.YtcakmchefbohoaaGreatDoorVReg
import Derived.Test.YtcakmchefbohoaaGreatDoorTreeR
import Derived.Test.YtcakmchefbohoaaGreatDoorConc
import Derived.Test.YtcakmchefbohoaaGreatDoorNds
import Derived.Test.YtcakmchefbohoaaGreatDoorInst
import Derived.Test.YtcakmchefbohoaaGreatDoorModP
import Derived.Test.YtcakmchefbohoaaGreatDoorModE
import Derived.Test.YtcakmchefbohoaaGreatDoorModJ
import Derived.Test.YtcakmchefbohoaaGreatDoorModB
import Derived.Test.YtcakmchefbohoaaGreatDoorModS
import Derived.WalkKit
import Derived.BigQuiet
import Derived.BigRegion
import Derived.Deep.QuietTactic
import Derived.Deep.RegionHeld3
import Derived.Deep.RegionLawGrows
import Derived.Deep.AppendLies
import Derived.Maps.AppendAt
import Derived.ArgAppend
import Derived.Laws.OwnMore
import Derived.Lib.SliceRun
import Derived.Lib.Hide
import Derived.Outline
set_option linter.unusedVariables false
set_option linter.unusedSimpArgs false
namespace Go.Proofs.YtcakmchefbohoaaGreatDoor
open Go.RowKit

/-- append(f, g...) where f has neither items nor room: a row of its own. -/
theorem wpList_start_nd {w : World} {ops : Array Oper} {rest : List Oper} {o : Oper} {a : Act} {Q : Exit → Act → World → Prop} (hgd : o.guard = none) (s x : Operand)
    (ho : o.op = .call { callee := .builtin .append, args := #[s, x], argTypes := #[26, 26] })
    (ad0 : Addr) (vx : Value) (g : List Nd) (hs : a.eval s = .slice (some ad0) 0 0) (hx : a.eval x = vx) (hrd : RdNd w vx g) (hg : 0 < g.length) (hlen : g.length ≤ 2097152) (base : Nat) (w0 : World) (hb0 : Below base w0 w) (hbs : base ≤ w.heap.size)
    (h : ∀ v' w', Hid (w'.ownsRow base 65 4 v' g.length (ndCells g)) → Below base w0 w' → wpList Tryz.prog ops Q rest (a.put o.dst v') w') : wpList Tryz.prog ops Q (o :: rest) a w := by
  obtain ⟨i0, hi, hz0, hz1, hz2⟩ := info_parts infoNd
  obtain ⟨ax, cx, rfl, hcx, hmx, hrd⟩ := hrd
  obtain ⟨b2, o2, rfl, hb2, hc2⟩ := hrd hg
  refine wpList_append_grows w hgd s x 26 ho 65 i0 (.agg #[.int .i64 0, .int .i64 0, .string ByteArray.empty, .bool false]) 4 40 Tryz.underlying26 hi hz0 hz1 hz2 rfl (by decide) (some ad0) 0 0 [] hs (by simp) rfl (by simp) _ g.length cx (ndCells g) hx (ndCells_len g) ?_ (ndCells_one g) (by omega) (by unfold maxLen; omega) (by omega) ?_
  · intro j u hj
    have hjl : j < (ndCells g).length := (List.getElem?_eq_some_iff.1 hj).1
    rw [ndCells_len] at hjl
    rw [Addr.add_lit, hc2 j hjl, ← hj, ndCells_get g hjl]
  · intro v' w' hown' hgrow
    refine h v' w' (Lib.hid ?_) (hb0.grown hgrow hbs (by simp))
    rw [Nat.zero_add, List.nil_append] at hown'
    exact own_up hown' hbs
theorem ret_bool2 {u : Value} {l : List Nd} {p : Prop} [Decidable p] (h : p ↔ l.length ≤ 30) : Ending.returned (.tuple #[u, .bool (decide p)]) = Ending.returned (.tuple #[u, .bool (gate l).isSome]) := by rw [gate_isSome, decide_eq_decide.2 h]
set_option maxRecDepth 100000 in
set_option maxHeartbeats 1600000 in
theorem modS_either (box : Bool) (x y1 y2 : Rg) (k1 k2 : FRg) (hk0 : x.kind = 2) (hok : FRg.ok (.cons y1 k1 (.cons y2 k2 .nil))) (hkd : ∀ i, i < (x :: (FRg.cons y1 k1 (.cons y2 k2 .nil)).flat).length → inR (rgnth (x :: (FRg.cons y1 k1 (.cons y2 k2 .nil)).flat) i).kind 0 3 = true) (hlen : (x :: (FRg.cons y1 k1 (.cons y2 k2 .nil)).flat).length ≤ 1048576) (h1 : Mod1 box y1 k1) (h2 : Mod1 box y2 k2) : Mod1 box x (.cons y1 k1 (.cons y2 k2 .nil)) := by
  intro v vf vb f d w hv hvf hvb hf hd
  have HVF := Lib.hid hvf
  have HVB := Lib.hid hvb
  have HV := Lib.hid hv
  have H1 := Lib.hid h1
  have H2 := Lib.hid h2
  obtain ⟨i0, hi, hz0, hz1, hz2⟩ := info_parts infoNd
  obtain ⟨Z, hZ⟩ : ∃ Z, Z = (x :: (FRg.cons y1 k1 (.cons y2 k2 .nil)).flat) := ⟨_, rfl⟩
  have hZ2 : Z = x :: ((y1 :: k1.flat) ++ (y2 :: k2.flat)) := by rw [hZ]; simp [FRg.flat]
  rw [← hZ] at hv HV hkd hlen
  obtain ⟨a, cap, rfl, hcap, hcm, hv'⟩ := id hv
  obtain ⟨b, o, rfl, hb, g0, g1, g2⟩ := RdRg.cells hv (i := 0) (by rw [hZ]; simp)
  have e0 : rgnth Z 0 = x := by rw [hZ]; rfl
  rw [e0] at g0
  rw [Nat.zero_mul, Nat.add_zero] at g0
  rw [hk0] at g0
  obtain ⟨m, hm⟩ : ∃ m, m = 1 + (y1 :: k1.flat).length := ⟨_, rfl⟩
  obtain ⟨n, hn⟩ : ∃ n, n = Z.length := ⟨_, rfl⟩
  have hZl : Z.length = 1 + (y1 :: k1.flat).length + (y2 :: k2.flat).length := by rw [hZ2]; simp; omega
  have hm1 : 1 < m := by rw [hm]; simp
  have hmn : m < n := by rw [hn, hZl, hm]; simp
  have HS1 : Hid (RdRg w (.slice (some ⟨b, o + 3, none⟩) (m - 1) (cap - 1)) (y1 :: k1.flat)) := Lib.hid (by
    have h := hv.sub 1 m (o + 3) (m - 1) (cap - 1) hm1 (by omega) rfl rfl rfl
    rw [hZ2] at h
    rw [hm] at h ⊢
    rw [List.drop_succ_cons, List.drop_zero, Nat.add_sub_cancel_left, List.take_left] at h
    rw [Nat.add_sub_cancel_left]
    exact h)
  have HS2 : Hid (RdRg w (.slice (some ⟨b, o + m * 3, none⟩) (n - m) (cap - m)) (y2 :: k2.flat)) := Lib.hid (by
    have h := hv.sub m n (o + m * 3) (n - m) (cap - m) hmn (by omega) rfl rfl rfl
    have e : (Z.drop m).take (n - m) = y2 :: k2.flat := by
      rw [List.take_of_length_le (by rw [List.length_drop]; omega), hZ2, hm, Nat.add_comm, List.drop_succ_cons, List.drop_left]
    rwa [e] at h)
  have HD : Hid (Z.drop 1 = FRg.flat (.cons y1 k1 .nil) ++ FRg.flat (.cons y2 k2 .nil)) := Lib.hid (by rw [hZ2]; simp [FRg.flat])
  have HM : Hid (m = 1 + (FRg.flat (.cons y1 k1 .nil)).length) := Lib.hid (by rw [hm]; simp [FRg.flat])
  have HK := Lib.hid hkd
  have HOK : Hid (FRg.ok (.cons y1 k1 .nil)) := Lib.hid ⟨hok.1, hok.2.1, trivial⟩
  rw [← hn] at hcap HV ⊢
  have hmn2 : m ≤ n := by omega
  have hm2 : 1 ≤ m := by omega
  have hmc : m ≤ cap := by omega
  have HN := Lib.hid hn
  have HLN := Lib.hid hlen
  obtain ⟨E1, hE1⟩ : ∃ E, E = opMS box y1 (FRg.fold (opMS box) k1) f d := ⟨_, rfl⟩
  obtain ⟨E2, hE2⟩ : ∃ E, E = opMS box y2 (FRg.fold (opMS box) k2) f d := ⟨_, rfl⟩
  have HE : opMS box x (FRg.fold (opMS box) (.cons y1 k1 (.cons y2 k2 .nil))) f d = E1.bind fun a => E2.bind fun b => gate (mEither box a b) := by rw [opMS_either hk0, hE1, hE2]; rfl
  rw [HE]
  have HE1 := Lib.hid hE1
  have HE2 := Lib.hid hE2
  have HSH1 : Hid (∀ y, E1 = some y → y.length ≤ 30) := Lib.hid (fun y h => opMS_short box (.cons y1 k1 .nil) 0 f d y (by rw [← h, hE1]; rfl))
  have HSH2 : Hid (∀ y, E2 = some y → y.length ≤ 30) := Lib.hid (fun y h => opMS_short box (.cons y2 k2 .nil) 0 f d y (by rw [← h, hE2]; rfl))
  clear hE1 hE2 HE hv hv' hkd hok hm hn hZl hZ hZ2 e0 hk0 hvf hvb h1 h2 g1 g2 hlen
  cases box with
  | true =>
    go_enter Tryz.func38, Tryz.ntmps38
    go_wp2_with fail
    have hbA : Below w.heap.size w (w.alloc (.cells #[] 65)) := (Below.refl _ _).alloc (Nat.le_refl _) _
    refine (l20End_any _ Z 1 (.cons y1 k1 .nil) (FRg.flat (.cons y2 k2 .nil)) _ HLN.out HK.out HOK.out rfl (by have := HN.out; omega) HD.out (by have := HV.out.below hbA; exact this)).mono ?_
    rintro e w1 ⟨rfl, rfl⟩
    rw [← HM.out]
    go_wp2_with fail
    refine (H1.out _ _ _ f d _ (HS1.out.below hbA) (HVF.out.below hbA) (HVB.out.below hbA) hf hd).mono ?_
    rw [← HE1.out]
    rintro e w2 ⟨u1, rfl, hO1, hb2⟩
    have hbl2 : Below w.heap.size w w2 := below_trans' hbA hb2
    have HO1 := Lib.hid hO1
    clear hO1
    go_wp2_with fail
    refine (H2.out _ _ _ f d _ (HS2.out.below hbl2) (HVF.out.below hbl2) (HVB.out.below hbl2) hf hd).mono ?_
    rw [← HE2.out]
    rintro e w3 ⟨u2, rfl, hO2, hb3⟩
    have hbl3 : Below w.heap.size w w3 := below_trans' hbl2 hb3
    have HO2 := Lib.hid hO2
    clear hO2
    have HOut : Hid (w3.ownsRow w.heap.size 65 4 (.slice (some ⟨w.heap.size, 0, none⟩) 0 0) 0 (ndCells [])) := Lib.hid (own_still (own_nd_nil _ (Nat.le_refl _)) (below_trans' hb2 hb3))
    cases E1 with
    | none =>
      go_wp2_with fail
      go_ret2
      exact ⟨_, rfl, (fun l hl => by cases hl), hbl3⟩
    | some p =>
      cases E2 with
      | none =>
        go_wp2_with fail
        go_ret2
        exact ⟨_, rfl, (fun l hl => by cases hl), hbl3⟩
      | some q =>
        have hp := HSH1.out p rfl
        have hq := HSH2.out q rfl
        have HP : Hid (RdNd w3 u1 p) := Lib.hid (OwNd.rd (HO1.out p rfl) |>.below hb3)
        have HQ : Hid (RdNd w3 u2 q) := Lib.hid (OwNd.rd (HO2.out q rfl))
        obtain ⟨au1, cu1, rfl⟩ := HP.out.slice
        obtain ⟨au2, cu2, rfl⟩ := HQ.out.slice
        obtain ⟨Y, hY⟩ : ∃ Y : Nd, Y = ⟨2, 0, ByteArray.empty, false⟩ := ⟨_, rfl⟩
        have HR : Hid (mEither true p q = ([Y] ++ p) ++ q) := Lib.hid (by rw [hY]; rfl)
        have hba3 : Below w3.heap.size w3 (w3.alloc (.cells #[.int .i64 2, .int .i64 0, .string ByteArray.empty, .bool false] 65)) := (Below.refl _ _).alloc (Nat.le_refl _) _
        have HY1 : Hid (RdNd (w3.alloc (.cells #[.int .i64 2, .int .i64 0, .string ByteArray.empty, .bool false] 65)) (.slice (some ⟨w3.heap.size, 0, none⟩) 1 1) [Y]) := Lib.hid (by rw [hY]; exact rd_one w3 _ _)
        have hs3 := hba3.size
        clear hY HO1 HO2 HOut H1 H2 HE1 HE2 HSH1 HSH2
        go_wp2_with (at_builtin; refine wpList_start_nd rfl _ _ rfl _ _ [Y] rfl rfl HY1.out (by simp) (by simp) w3.heap.size w3 hba3 hs3 ?_)
        intro v5 w5 hO5 hb5
        obtain ⟨a5, c5, rfl⟩ := owned_slice hO5.out
        have hs5 := hb5.size
        go_wp2_with (at_builtin; refine wpList_append_nd rfl _ _ rfl w3.heap.size _ _ 1 [Y] p rfl rfl rfl hO5.out (HP.out.below hb5) (by simp; omega) hs5 w3.heap.size w3 hb5 (Nat.le_refl _) ?_)
        intro v6 w6 hO6 hb6
        obtain ⟨a6, c6, rfl⟩ := owned_slice hO6.out
        have hs6 := hb6.size
        go_wp2_with (at_builtin; refine wpList_append_nd rfl _ _ rfl w3.heap.size _ _ (1 + p.length) ([Y] ++ p) q (by simp; omega) rfl rfl hO6.out (HQ.out.below hb6) (by simp; omega) hs6 w3.heap.size w3 hb6 (Nat.le_refl _) ?_)
        intro v7 w7 hO7 hb7
        obtain ⟨a7, c7, rfl⟩ := owned_slice hO7.out
        go_wp2_with fail
        go_ret2
        refine ⟨_, ret_bool2 (by rw [HR.out]; simp; omega), (fun l hl => ?_), below_trans' hbl3 hb7⟩
        obtain ⟨rfl, _⟩ := gate_some hl
        rw [HR.out]
        exact (own_nd hO7.out).mono hbl3.size
  | false =>
    go_enter Tryz.func38, Tryz.ntmps38
    go_wp2_with fail
    have hbA : Below w.heap.size w (w.alloc (.cells #[] 65)) := (Below.refl _ _).alloc (Nat.le_refl _) _
    refine (l20End_any _ Z 1 (.cons y1 k1 .nil) (FRg.flat (.cons y2 k2 .nil)) _ HLN.out HK.out HOK.out rfl (by have := HN.out; omega) HD.out (by have := HV.out.below hbA; exact this)).mono ?_
    rintro e w1 ⟨rfl, rfl⟩
    rw [← HM.out]
    go_wp2_with fail
    refine (H1.out _ _ _ f d _ (HS1.out.below hbA) (HVF.out.below hbA) (HVB.out.below hbA) hf hd).mono ?_
    rw [← HE1.out]
    rintro e w2 ⟨u1, rfl, hO1, hb2⟩
    have hbl2 : Below w.heap.size w w2 := below_trans' hbA hb2
    have HO1 := Lib.hid hO1
    clear hO1
    go_wp2_with fail
    refine (H2.out _ _ _ f d _ (HS2.out.below hbl2) (HVF.out.below hbl2) (HVB.out.below hbl2) hf hd).mono ?_
    rw [← HE2.out]
    rintro e w3 ⟨u2, rfl, hO2, hb3⟩
    have hbl3 : Below w.heap.size w w3 := below_trans' hbl2 hb3
    have HO2 := Lib.hid hO2
    clear hO2
    have HOut : Hid (w3.ownsRow w.heap.size 65 4 (.slice (some ⟨w.heap.size, 0, none⟩) 0 0) 0 (ndCells [])) := Lib.hid (own_still (own_nd_nil _ (Nat.le_refl _)) (below_trans' hb2 hb3))
    cases E1 with
    | none =>
      go_wp2_with fail
      go_ret2
      exact ⟨_, rfl, (fun l hl => by cases hl), hbl3⟩
    | some p =>
      cases E2 with
      | none =>
        go_wp2_with fail
        go_ret2
        exact ⟨_, rfl, (fun l hl => by cases hl), hbl3⟩
      | some q =>
        have hp := HSH1.out p rfl
        have hq := HSH2.out q rfl
        have HP : Hid (RdNd w3 u1 p) := Lib.hid (OwNd.rd (HO1.out p rfl) |>.below hb3)
        have HQ : Hid (RdNd w3 u2 q) := Lib.hid (OwNd.rd (HO2.out q rfl))
        obtain ⟨au1, cu1, rfl⟩ := HP.out.slice
        obtain ⟨au2, cu2, rfl⟩ := HQ.out.slice
        obtain ⟨Y, hY⟩ : ∃ Y : Nd, Y = ⟨3, 0, ByteArray.empty, false⟩ := ⟨_, rfl⟩
        have HR : Hid (mEither false p q = ([Y] ++ p) ++ q) := Lib.hid (by rw [hY]; rfl)
        have hba3 : Below w3.heap.size w3 (w3.alloc (.cells #[.int .i64 3, .int .i64 0, .string ByteArray.empty, .bool false] 65)) := (Below.refl _ _).alloc (Nat.le_refl _) _
        have HY1 : Hid (RdNd (w3.alloc (.cells #[.int .i64 3, .int .i64 0, .string ByteArray.empty, .bool false] 65)) (.slice (some ⟨w3.heap.size, 0, none⟩) 1 1) [Y]) := Lib.hid (by rw [hY]; exact rd_one w3 _ _)
        have hs3 := hba3.size
        clear hY HO1 HO2 HOut H1 H2 HE1 HE2 HSH1 HSH2
        go_wp2_with (at_builtin; refine wpList_start_nd rfl _ _ rfl _ _ [Y] rfl rfl HY1.out (by simp) (by simp) w3.heap.size w3 hba3 hs3 ?_)
        intro v5 w5 hO5 hb5
        obtain ⟨a5, c5, rfl⟩ := owned_slice hO5.out
        have hs5 := hb5.size
        go_wp2_with (at_builtin; refine wpList_append_nd rfl _ _ rfl w3.heap.size _ _ 1 [Y] p rfl rfl rfl hO5.out (HP.out.below hb5) (by simp; omega) hs5 w3.heap.size w3 hb5 (Nat.le_refl _) ?_)
        intro v6 w6 hO6 hb6
        obtain ⟨a6, c6, rfl⟩ := owned_slice hO6.out
        have hs6 := hb6.size
        go_wp2_with (at_builtin; refine wpList_append_nd rfl _ _ rfl w3.heap.size _ _ (1 + p.length) ([Y] ++ p) q (by simp; omega) rfl rfl hO6.out (HQ.out.below hb6) (by simp; omega) hs6 w3.heap.size w3 hb6 (Nat.le_refl _) ?_)
        intro v7 w7 hO7 hb7
        obtain ⟨a7, c7, rfl⟩ := owned_slice hO7.out
        go_wp2_with fail
        go_ret2
        refine ⟨_, ret_bool2 (by rw [HR.out]; simp; omega), (fun l hl => ?_), below_trans' hbl3 hb7⟩
        obtain ⟨rfl, _⟩ := gate_some hl
        rw [HR.out]
        exact (own_nd hO7.out).mono hbl3.size
end Go.Proofs.YtcakmchefbohoaaGreatDoor
