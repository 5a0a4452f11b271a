/- What is left of a purse behind a slice: the laws' sz. -/
import Derived.Test.YtdlldgenkmngiaaProg
import Derived.Test.YtdlldgenkmngiaaMem
import Derived.Test.YtdlldgenkmngiaaMath
import Derived.Test.YtdlldgenkmngiaaBasics
import Derived.Test.YtdlldgenkmngiaaOpenI
import Derived.Test.YtdlldgenkmngiaaHelpI
import Derived.Test.YtdlldgenkmngiaaGrid
import Derived.Test.YtdlldgenkmngiaaRows2
import Derived.Test.YtdlldgenkmngiaaSt
import Derived.WalkKit
import Derived.BigQuiet
import Derived.BigRegion
import Derived.StillTailTactics
import Derived.Deep.QuietTactic
import Derived.Laws.ResultCell
import Derived.Laws.OwnMore
import Derived.Lib.Hide
import Derived.Outline
set_option linter.unusedVariables false
set_option linter.unusedSimpArgs false
namespace Go.Proofs.Ytdlldgenkmngiaa
open Go.RowKit
set_option maxRecDepth 100000 in
set_option maxHeartbeats 800000 in
theorem szI_any {lo hi : Nat} (v : Value) (f : List Int) (l : Int) (w : World) (h0 : 0 ≤ l) (h1 : l ≤ 1048576) (hok : okI f) (hv : GI w lo hi v f) :
    Calls Try.prog 53 #[v, .int .i64 l] w fun e w' => e = .returned (.int .i64 (cut (totI f) l)) ∧ Below w.heap.size w w' := by
  obtain ⟨a, cap, rfl, hcap, hm⟩ := Rws.slice hv
  unfold maxLen at hm
  have Ht : totI f = f.length := rfl
  rw [Ht]
  by_cases h : (f.length : Int) ≤ l
  · have hn : ¬ (l - (f.length : Int) < 0) := by omega
    rw [cut_yes h]
    clear Ht hv hok
    go_enter Try.func53, Try.ntmps53
    go_wp2
    go_ret
    exact ⟨rfl, Below.refl _ _⟩
  · have hn : l - (f.length : Int) < 0 := by omega
    rw [cut_no h]
    clear Ht hv hok
    go_enter Try.func53, Try.ntmps53
    go_wp2
    go_ret
    exact ⟨rfl, Below.refl _ _⟩
set_option maxRecDepth 100000 in
set_option maxHeartbeats 800000 in
theorem szS_any {lo hi : Nat} (v : Value) (f : List ByteArray) (l : Int) (w : World) (h0 : 0 ≤ l) (h1 : l ≤ 1048576) (hok : okS f) (hv : GS w lo hi v f) :
    Calls Try.prog 29 #[v, .int .i64 l] w fun e w' => e = .returned (.int .i64 (cut (totS f) l)) ∧ Below w.heap.size w w' := by
  have HV := Lib.hid hv
  have Hok := Lib.hid hok
  obtain ⟨a, cap, rfl, hcap, hm⟩ := Rws.slice hv
  unfold maxLen at hm
  obtain ⟨n, hxn⟩ : ∃ n, n = f.length := ⟨_, rfl⟩
  rw [← hxn] at hcap HV ⊢
  have Hxn := Lib.hid hxn
  clear hxn hv hok
  obtain ⟨g, hg⟩ : ∃ g : Nat → Nat, g = (fun i => (snth f i).size) := ⟨_, rfl⟩
  have Hg := Lib.hid hg
  have Ht : Hid (totS f = n + sumTo g n) := Lib.hid (by rw [Hg.out, Hxn.out]; rfl)
  clear hg
  have Hneg : Hid (¬ ((n : Int) + (sumTo g n : Int) ≤ l) → cut (totS f) l = -1) := Lib.hid (fun h => cut_no (by rw [Ht.out]; omega))
  by_cases hs : (n : Int) ≤ l
  · have hs0 : ¬ (l - (n : Int) < 0) := by omega
    go_enter Try.func29, Try.ntmps29
    go_wp2_with fail
    go_loopw [1, 5] (fun sl si wr => ∃ k : Nat, k ≤ n ∧ si = .int .i64 k ∧ sl = .int .i64 (l - n - (sumTo g k : Int)) ∧ 0 ≤ l - n - (sumTo g k : Int) ∧ Below w.heap.size w wr) (fun _ si _ => n - (intOf si).toNat)
    case atStart => exact ⟨0, Nat.zero_le _, rfl, by simp [sumTo], by simp [sumTo]; omega, Below.refl _ _⟩
    case round =>
      obtain ⟨k, hk, rfl, rfl, hnn, hbl⟩ := hrel
      by_cases hlt : k < n
      · have hkf : k < f.length := by rw [← Hxn.out]; exact hlt
        obtain ⟨b, o, rfl, hb, g0⟩ := GS.cells HV.out hkf
        have q0 := (hbl.cell (by exact hb)).trans g0
        clear g0
        have hYs := Hok.out k hkf
        have Ho : Hid (sumTo g (k + 1) = sumTo g k + (snth f k).size) := Lib.hid (by rw [sumTo, Hg.out])
        have hmo := sumTo_mono g (show k + 1 ≤ n by omega)
        rw [Ho.out] at hmo
        obtain ⟨Y, hY⟩ : ∃ Y, Y = snth f k := ⟨_, rfl⟩
        rw [← hY] at hmo q0 Ho hYs
        obtain ⟨L, hL⟩ : ∃ L, L = sumTo g k := ⟨_, rfl⟩
        rw [← hL] at hnn Ho hmo ⊢
        unfold maxLen at hYs
        clear hY hL
        by_cases hb0 : (Y.size : Int) ≤ l - n - (L : Int)
        · have hb1 : ¬ (l - n - (L : Int) - (Y.size : Int) < 0) := by omega
          go_wp2_with fail
          go_roundw
          case rel => exact ⟨k + 1, by omega, by go_num, by rw [Ho.out]; go_num, by rw [Ho.out]; omega, hbl⟩
          case measure => simp [intOf]; omega
        · have hb1 : l - n - (L : Int) - (Y.size : Int) < 0 := by omega
          have Hs := Lib.hid (Hneg.out (by omega))
          go_wp2_with fail
          go_ret
          exact ⟨by rw [Hs.out]; rfl, hbl⟩
      · obtain rfl : k = n := by omega
        have Hs : Hid (cut (totS f) l = l - k - (sumTo g k : Int)) := Lib.hid (by rw [cut_yes (by rw [Ht.out]; omega), Ht.out]; omega)
        go_wp2_with fail
        go_ret
        exact ⟨by rw [Hs.out]; rfl, hbl⟩
  · have hs0 : l - (n : Int) < 0 := by omega
    have Hs := Lib.hid (Hneg.out (by omega))
    go_enter Try.func29, Try.ntmps29
    go_wp2_with fail
    go_ret
    exact ⟨by rw [Hs.out]; rfl, Below.refl _ _⟩
set_option maxHeartbeats 800000 in
theorem szVxe_any {lo hi : Nat} (n : Vx) {sa2 : Option Addr} {sc2 : Nat} (l : Int) (w : World) (h0 : 0 ≤ l) (h1 : l ≤ 1048576) (hn : elVx n) (hs2 : GI w lo hi (.slice sa2 n.nxt.length sc2) n.nxt) :
    Calls Try.prog 21 #[.agg #[.int .i64 n.own, .int .i64 n.pri, .slice sa2 n.nxt.length sc2], .int .i64 l] w fun e w' => e = .returned (.int .i64 (cut (wtVx n) l)) ∧ Below w.heap.size w w' := by
  have k2 := hn
  have K2 := Lib.hid k2
  have H2 := Lib.hid hs2
  clear k2 hs2
  have Hw : Hid ((wtVx n : Int) = (totI n.nxt : Int)) := Lib.hid (by first | rfl | (unfold wtVx; omega))
  by_cases c2 : (totI n.nxt : Int) ≤ l
  · have y2 : ¬ (l - (totI n.nxt : Int) < 0) := by omega
    rw [cut_yes (by rw [Hw.out]; omega), show l - (wtVx n : Int) = l - (totI n.nxt : Int) by have := Hw.out; omega]
    clear Hw
    go_enter Try.func21, Try.ntmps21
    go_wp2_with fail
    refine (szI_any _ _ (l) _ (by omega) (by omega) K2.out (H2.out.keep (Keep.of_below _ _ ((Below.refl _ _).alloc (Nat.le_refl _) _)))).mono ?_
    rw [cut_yes (by omega)]
    rintro e w3 ⟨rfl, hb2⟩
    go_wp2_with fail
    go_ret
    exact ⟨rfl, ((Below.refl _ _).alloc (Nat.le_refl _) _).trans (hb2.mono (by simp))⟩
  · have y2 : (l - (totI n.nxt : Int) < 0) := by omega
    rw [cut_no (by rw [Hw.out]; omega)]
    clear Hw
    go_enter Try.func21, Try.ntmps21
    go_wp2_with fail
    refine (szI_any _ _ (l) _ (by omega) (by omega) K2.out (H2.out.keep (Keep.of_below _ _ ((Below.refl _ _).alloc (Nat.le_refl _) _)))).mono ?_
    rw [cut_no (by omega)]
    rintro e w3 ⟨rfl, hb2⟩
    go_wp2_with fail
    go_ret
    exact ⟨rfl, ((Below.refl _ _).alloc (Nat.le_refl _) _).trans (hb2.mono (by simp))⟩
set_option maxRecDepth 100000 in
set_option maxHeartbeats 800000 in
theorem szVx_any {lo hi : Nat} (v : Value) (f : List Vx) (l : Int) (w : World) (h0 : 0 ≤ l) (h1 : l ≤ 1048576) (hok : okVx f) (hv : GVx w lo hi v f) :
    Calls Try.prog 6 #[v, .int .i64 l] w fun e w' => e = .returned (.int .i64 (cut (totVx f) l)) ∧ Below w.heap.size w w' := by
  have HV := Lib.hid hv
  have Hok := Lib.hid hok
  obtain ⟨a, cap, rfl, hcap, hm⟩ := Rws.slice hv
  unfold maxLen at hm
  obtain ⟨n, hxn⟩ : ∃ n, n = f.length := ⟨_, rfl⟩
  rw [← hxn] at hcap HV ⊢
  have Hxn := Lib.hid hxn
  clear hxn hv hok
  obtain ⟨g, hg⟩ : ∃ g : Nat → Nat, g = (fun i => wtVx (gnth vx0 f i)) := ⟨_, rfl⟩
  have Hg := Lib.hid hg
  have Ht : Hid (totVx f = n + sumTo g n) := Lib.hid (by rw [Hg.out, Hxn.out]; rfl)
  clear hg
  have Hneg : Hid (¬ ((n : Int) + (sumTo g n : Int) ≤ l) → cut (totVx f) l = -1) := Lib.hid (fun h => cut_no (by rw [Ht.out]; omega))
  by_cases hs : (n : Int) ≤ l
  · have hs0 : ¬ (l - (n : Int) < 0) := by omega
    go_enter Try.func6, Try.ntmps6
    go_wp2_with fail
    go_loopw [1, 5] (fun sl si wr => ∃ k : Nat, k ≤ n ∧ si = .int .i64 k ∧ sl = .int .i64 (l - n - (sumTo g k : Int)) ∧ 0 ≤ l - n - (sumTo g k : Int) ∧ Below w.heap.size w wr) (fun _ si _ => n - (intOf si).toNat)
    case atStart => exact ⟨0, Nat.zero_le _, rfl, by simp [sumTo], by simp [sumTo]; omega, Below.refl _ _⟩
    case round =>
      obtain ⟨k, hk, rfl, rfl, hnn, hbl⟩ := hrel
      by_cases hlt : k < n
      · have hkf : k < f.length := by rw [← Hxn.out]; exact hlt
        obtain ⟨b, o, rfl, hb, g0, g1, ga2, gc2, g2, gG2⟩ := GVx.cells HV.out hkf
        have q0 := (hbl.cell (by exact hb)).trans g0
        have q1 := (hbl.cell (by exact hb)).trans g1
        have q2 := (hbl.cell (by exact hb)).trans g2
        clear g0 g1 g2
        have hYs := Hok.out k hkf
        have Ho : Hid (sumTo g (k + 1) = sumTo g k + wtVx (gnth vx0 f k)) := Lib.hid (by rw [sumTo, Hg.out])
        have hmo := sumTo_mono g (show k + 1 ≤ n by omega)
        rw [Ho.out] at hmo
        obtain ⟨Y, hY⟩ : ∃ Y, Y = gnth vx0 f k := ⟨_, rfl⟩
        rw [← hY] at hmo q0 q1 q2 gG2 hYs Ho
        obtain ⟨L, hL⟩ : ∃ L, L = sumTo g k := ⟨_, rfl⟩
        rw [← hL] at hnn Ho hmo ⊢
        have hYs := Lib.hid hYs
        clear hY hL
        by_cases hb0 : (wtVx Y : Int) ≤ l - n - (L : Int)
        · have hb1 : ¬ (l - n - (L : Int) - (wtVx Y : Int) < 0) := by omega
          go_wp2_with fail
          refine (szVxe_any Y _ _ hnn (by omega) hYs.out (gG2.keep (Keep.of_below _ _ hbl))).mono ?_
          rw [cut_yes hb0]
          rintro e w1 ⟨rfl, hbx⟩
          go_wp2_with fail
          go_roundw
          case rel => exact ⟨k + 1, by omega, by go_num, by rw [Ho.out]; go_num, by rw [Ho.out]; omega, below_trans' hbl hbx⟩
          case measure => simp [intOf]; omega
        · have Hs := Lib.hid (Hneg.out (by omega))
          go_wp2_with fail
          refine (szVxe_any Y _ _ hnn (by omega) hYs.out (gG2.keep (Keep.of_below _ _ hbl))).mono ?_
          rw [cut_no (by omega)]
          rintro e w1 ⟨rfl, hbx⟩
          go_wp2_with fail
          go_ret
          exact ⟨by rw [Hs.out]; rfl, below_trans' hbl hbx⟩
      · obtain rfl : k = n := by omega
        have Hs : Hid (cut (totVx f) l = l - k - (sumTo g k : Int)) := Lib.hid (by rw [cut_yes (by rw [Ht.out]; omega), Ht.out]; omega)
        go_wp2_with fail
        go_ret
        exact ⟨by rw [Hs.out]; rfl, hbl⟩
  · have hs0 : l - (n : Int) < 0 := by omega
    have Hs := Lib.hid (Hneg.out (by omega))
    go_enter Try.func6, Try.ntmps6
    go_wp2_with fail
    go_ret
    exact ⟨by rw [Hs.out]; rfl, Below.refl _ _⟩
set_option maxRecDepth 100000 in
set_option maxHeartbeats 800000 in
theorem szEg_any {lo hi : Nat} (v : Value) (f : List Eg) (l : Int) (w : World) (h0 : 0 ≤ l) (h1 : l ≤ 1048576) (hok : okEg f) (hv : GEg w lo hi v f) :
    Calls Try.prog 30 #[v, .int .i64 l] w fun e w' => e = .returned (.int .i64 (cut (totEg f) l)) ∧ Below w.heap.size w w' := by
  obtain ⟨a, cap, rfl, hcap, hm⟩ := Rws.slice hv
  unfold maxLen at hm
  have Ht : totEg f = f.length := by unfold totEg; rw [show sumTo (fun i => wtEg (gnth eg0 f i)) f.length = 0 from sumTo_zero f.length (fun i => rfl)]; omega
  rw [Ht]
  by_cases h : (f.length : Int) ≤ l
  · have hn : ¬ (l - (f.length : Int) < 0) := by omega
    rw [cut_yes h]
    clear Ht hv hok
    go_enter Try.func30, Try.ntmps30
    go_wp2
    go_ret
    exact ⟨rfl, Below.refl _ _⟩
  · have hn : l - (f.length : Int) < 0 := by omega
    rw [cut_no h]
    clear Ht hv hok
    go_enter Try.func30, Try.ntmps30
    go_wp2
    go_ret
    exact ⟨rfl, Below.refl _ _⟩
set_option maxRecDepth 100000 in
set_option maxHeartbeats 800000 in
theorem szTm_any {lo hi : Nat} (v : Value) (f : List Tm) (l : Int) (w : World) (h0 : 0 ≤ l) (h1 : l ≤ 1048576) (hok : okTm f) (hv : GTm w lo hi v f) :
    Calls Try.prog 89 #[v, .int .i64 l] w fun e w' => e = .returned (.int .i64 (cut (totTm f) l)) ∧ Below w.heap.size w w' := by
  obtain ⟨a, cap, rfl, hcap, hm⟩ := Rws.slice hv
  unfold maxLen at hm
  have Ht : totTm f = f.length := by unfold totTm; rw [show sumTo (fun i => wtTm (gnth tm0 f i)) f.length = 0 from sumTo_zero f.length (fun i => rfl)]; omega
  rw [Ht]
  by_cases h : (f.length : Int) ≤ l
  · have hn : ¬ (l - (f.length : Int) < 0) := by omega
    rw [cut_yes h]
    clear Ht hv hok
    go_enter Try.func89, Try.ntmps89
    go_wp2
    go_ret
    exact ⟨rfl, Below.refl _ _⟩
  · have hn : l - (f.length : Int) < 0 := by omega
    rw [cut_no h]
    clear Ht hv hok
    go_enter Try.func89, Try.ntmps89
    go_wp2
    go_ret
    exact ⟨rfl, Below.refl _ _⟩
set_option maxRecDepth 100000 in
set_option maxHeartbeats 800000 in
theorem szTmS_any {lo hi : Nat} (v : Value) (f : List (List Tm)) (l : Int) (w : World) (h0 : 0 ≤ l) (h1 : l ≤ 1048576) (hok : okTmS f) (hv : GTmS w lo hi v f) :
    Calls Try.prog 86 #[v, .int .i64 l] w fun e w' => e = .returned (.int .i64 (cut (totTmS f) l)) ∧ Below w.heap.size w w' := by
  have HV := Lib.hid hv
  have Hok := Lib.hid hok
  obtain ⟨a, cap, rfl, hcap, hm⟩ := Rws.slice hv
  unfold maxLen at hm
  obtain ⟨n, hxn⟩ : ∃ n, n = f.length := ⟨_, rfl⟩
  rw [← hxn] at hcap HV ⊢
  have Hxn := Lib.hid hxn
  clear hxn hv hok
  obtain ⟨g, hg⟩ : ∃ g : Nat → Nat, g = (fun i => totTm (gnth tms0 f i)) := ⟨_, rfl⟩
  have Hg := Lib.hid hg
  have Ht : Hid (totTmS f = n + sumTo g n) := Lib.hid (by rw [Hg.out, Hxn.out]; rfl)
  clear hg
  have Hneg : Hid (¬ ((n : Int) + (sumTo g n : Int) ≤ l) → cut (totTmS f) l = -1) := Lib.hid (fun h => cut_no (by rw [Ht.out]; omega))
  by_cases hs : (n : Int) ≤ l
  · have hs0 : ¬ (l - (n : Int) < 0) := by omega
    go_enter Try.func86, Try.ntmps86
    go_wp2_with fail
    go_loopw [1, 5] (fun sl si wr => ∃ k : Nat, k ≤ n ∧ si = .int .i64 k ∧ sl = .int .i64 (l - n - (sumTo g k : Int)) ∧ 0 ≤ l - n - (sumTo g k : Int) ∧ Below w.heap.size w wr) (fun _ si _ => n - (intOf si).toNat)
    case atStart => exact ⟨0, Nat.zero_le _, rfl, by simp [sumTo], by simp [sumTo]; omega, Below.refl _ _⟩
    case round =>
      obtain ⟨k, hk, rfl, rfl, hnn, hbl⟩ := hrel
      by_cases hlt : k < n
      · have hkf : k < f.length := by rw [← Hxn.out]; exact hlt
        obtain ⟨b, o, rfl, hb, ca, cc, g0, gG0⟩ := GTmS.cells HV.out hkf
        have q0 := (hbl.cell (by exact hb)).trans g0
        clear g0
        have hYs := Hok.out k hkf
        have Ho : Hid (sumTo g (k + 1) = sumTo g k + totTm (gnth tms0 f k)) := Lib.hid (by rw [sumTo, Hg.out])
        have hmo := sumTo_mono g (show k + 1 ≤ n by omega)
        rw [Ho.out] at hmo
        obtain ⟨Y, hY⟩ : ∃ Y, Y = gnth tms0 f k := ⟨_, rfl⟩
        rw [← hY] at hmo q0 gG0 hYs Ho
        obtain ⟨L, hL⟩ : ∃ L, L = sumTo g k := ⟨_, rfl⟩
        rw [← hL] at hnn Ho hmo ⊢
        have hYs := Lib.hid hYs
        clear hY hL
        by_cases hb0 : (totTm Y : Int) ≤ l - n - (L : Int)
        · have hb1 : ¬ (l - n - (L : Int) - (totTm Y : Int) < 0) := by omega
          go_wp2_with fail
          refine (szTm_any _ Y _ _ hnn (by omega) hYs.out (gG0.keep (Keep.of_below _ _ hbl))).mono ?_
          rw [cut_yes hb0]
          rintro e w1 ⟨rfl, hbx⟩
          go_wp2_with fail
          go_roundw
          case rel => exact ⟨k + 1, by omega, by go_num, by rw [Ho.out]; go_num, by rw [Ho.out]; omega, below_trans' hbl hbx⟩
          case measure => simp [intOf]; omega
        · have Hs := Lib.hid (Hneg.out (by omega))
          go_wp2_with fail
          refine (szTm_any _ Y _ _ hnn (by omega) hYs.out (gG0.keep (Keep.of_below _ _ hbl))).mono ?_
          rw [cut_no (by omega)]
          rintro e w1 ⟨rfl, hbx⟩
          go_wp2_with fail
          go_ret
          exact ⟨by rw [Hs.out]; rfl, below_trans' hbl hbx⟩
      · obtain rfl : k = n := by omega
        have Hs : Hid (cut (totTmS f) l = l - k - (sumTo g k : Int)) := Lib.hid (by rw [cut_yes (by rw [Ht.out]; omega), Ht.out]; omega)
        go_wp2_with fail
        go_ret
        exact ⟨by rw [Hs.out]; rfl, hbl⟩
  · have hs0 : l - (n : Int) < 0 := by omega
    have Hs := Lib.hid (Hneg.out (by omega))
    go_enter Try.func86, Try.ntmps86
    go_wp2_with fail
    go_ret
    exact ⟨by rw [Hs.out]; rfl, Below.refl _ _⟩
set_option maxHeartbeats 800000 in
theorem szPte_any {lo hi : Nat} (n : Pt) {sa3 : Option Addr} {sc3 : Nat} (l : Int) (w : World) (h0 : 0 ≤ l) (h1 : l ≤ 1048576) (hn : elPt n) (hs3 : GTmS w lo hi (.slice sa3 n.args.length sc3) n.args) :
    Calls Try.prog 83 #[.agg #[.int .i64 n.kind, .int .i64 n.num, .string n.name, .slice sa3 n.args.length sc3], .int .i64 l] w fun e w' => e = .returned (.int .i64 (cut (wtPt n) l)) ∧ Below w.heap.size w w' := by
  obtain ⟨k2, k3⟩ := hn
  unfold maxLen at k2
  have K3 := Lib.hid k3
  have H3 := Lib.hid hs3
  clear k3 hs3
  have Hw : Hid ((wtPt n : Int) = ((n.name).size : Int) + (totTmS n.args : Int)) := Lib.hid (by first | rfl | (unfold wtPt; omega))
  by_cases c2 : ((n.name).size : Int) ≤ l
  · by_cases c3 : (totTmS n.args : Int) ≤ l - ((n.name).size : Int)
    · have y2 : ¬ (l - ((n.name).size : Int) < 0) := by omega
      have y3 : ¬ (l - ((n.name).size : Int) - (totTmS n.args : Int) < 0) := by omega
      rw [cut_yes (by rw [Hw.out]; omega), show l - (wtPt n : Int) = l - ((n.name).size : Int) - (totTmS n.args : Int) by have := Hw.out; omega]
      clear Hw
      go_enter Try.func83, Try.ntmps83
      go_wp2_with fail
      refine (szTmS_any _ _ (l - ((n.name).size : Int)) _ (by omega) (by omega) K3.out (H3.out.keep (Keep.of_below _ _ ((Below.refl _ _).alloc (Nat.le_refl _) _)))).mono ?_
      rw [cut_yes (by omega)]
      rintro e w4 ⟨rfl, hb3⟩
      go_wp2_with fail
      go_ret
      exact ⟨rfl, ((Below.refl _ _).alloc (Nat.le_refl _) _).trans (hb3.mono (by simp))⟩
    · have y2 : ¬ (l - ((n.name).size : Int) < 0) := by omega
      have y3 : (l - ((n.name).size : Int) - (totTmS n.args : Int) < 0) := by omega
      rw [cut_no (by rw [Hw.out]; omega)]
      clear Hw
      go_enter Try.func83, Try.ntmps83
      go_wp2_with fail
      refine (szTmS_any _ _ (l - ((n.name).size : Int)) _ (by omega) (by omega) K3.out (H3.out.keep (Keep.of_below _ _ ((Below.refl _ _).alloc (Nat.le_refl _) _)))).mono ?_
      rw [cut_no (by omega)]
      rintro e w4 ⟨rfl, hb3⟩
      go_wp2_with fail
      go_ret
      exact ⟨rfl, ((Below.refl _ _).alloc (Nat.le_refl _) _).trans (hb3.mono (by simp))⟩
  · have y2 : (l - ((n.name).size : Int) < 0) := by omega
    rw [cut_no (by rw [Hw.out]; omega)]
    clear Hw
    go_enter Try.func83, Try.ntmps83
    go_wp2_with fail
    go_ret
    exact ⟨rfl, (Below.refl _ _).alloc (Nat.le_refl _) _⟩
set_option maxRecDepth 100000 in
set_option maxHeartbeats 800000 in
theorem szPt_any {lo hi : Nat} (v : Value) (f : List Pt) (l : Int) (w : World) (h0 : 0 ≤ l) (h1 : l ≤ 1048576) (hok : okPt f) (hv : GPt w lo hi v f) :
    Calls Try.prog 77 #[v, .int .i64 l] w fun e w' => e = .returned (.int .i64 (cut (totPt f) l)) ∧ Below w.heap.size w w' := by
  have HV := Lib.hid hv
  have Hok := Lib.hid hok
  obtain ⟨a, cap, rfl, hcap, hm⟩ := Rws.slice hv
  unfold maxLen at hm
  obtain ⟨n, hxn⟩ : ∃ n, n = f.length := ⟨_, rfl⟩
  rw [← hxn] at hcap HV ⊢
  have Hxn := Lib.hid hxn
  clear hxn hv hok
  obtain ⟨g, hg⟩ : ∃ g : Nat → Nat, g = (fun i => wtPt (gnth pt0 f i)) := ⟨_, rfl⟩
  have Hg := Lib.hid hg
  have Ht : Hid (totPt f = n + sumTo g n) := Lib.hid (by rw [Hg.out, Hxn.out]; rfl)
  clear hg
  have Hneg : Hid (¬ ((n : Int) + (sumTo g n : Int) ≤ l) → cut (totPt f) l = -1) := Lib.hid (fun h => cut_no (by rw [Ht.out]; omega))
  by_cases hs : (n : Int) ≤ l
  · have hs0 : ¬ (l - (n : Int) < 0) := by omega
    go_enter Try.func77, Try.ntmps77
    go_wp2_with fail
    go_loopw [1, 5] (fun sl si wr => ∃ k : Nat, k ≤ n ∧ si = .int .i64 k ∧ sl = .int .i64 (l - n - (sumTo g k : Int)) ∧ 0 ≤ l - n - (sumTo g k : Int) ∧ Below w.heap.size w wr) (fun _ si _ => n - (intOf si).toNat)
    case atStart => exact ⟨0, Nat.zero_le _, rfl, by simp [sumTo], by simp [sumTo]; omega, Below.refl _ _⟩
    case round =>
      obtain ⟨k, hk, rfl, rfl, hnn, hbl⟩ := hrel
      by_cases hlt : k < n
      · have hkf : k < f.length := by rw [← Hxn.out]; exact hlt
        obtain ⟨b, o, rfl, hb, g0, g1, g2, ga3, gc3, g3, gG3⟩ := GPt.cells HV.out hkf
        have q0 := (hbl.cell (by exact hb)).trans g0
        have q1 := (hbl.cell (by exact hb)).trans g1
        have q2 := (hbl.cell (by exact hb)).trans g2
        have q3 := (hbl.cell (by exact hb)).trans g3
        clear g0 g1 g2 g3
        have hYs := Hok.out k hkf
        have Ho : Hid (sumTo g (k + 1) = sumTo g k + wtPt (gnth pt0 f k)) := Lib.hid (by rw [sumTo, Hg.out])
        have hmo := sumTo_mono g (show k + 1 ≤ n by omega)
        rw [Ho.out] at hmo
        obtain ⟨Y, hY⟩ : ∃ Y, Y = gnth pt0 f k := ⟨_, rfl⟩
        rw [← hY] at hmo q0 q1 q2 q3 gG3 hYs Ho
        obtain ⟨L, hL⟩ : ∃ L, L = sumTo g k := ⟨_, rfl⟩
        rw [← hL] at hnn Ho hmo ⊢
        have hYs := Lib.hid hYs
        clear hY hL
        by_cases hb0 : (wtPt Y : Int) ≤ l - n - (L : Int)
        · have hb1 : ¬ (l - n - (L : Int) - (wtPt Y : Int) < 0) := by omega
          go_wp2_with fail
          refine (szPte_any Y _ _ hnn (by omega) hYs.out (gG3.keep (Keep.of_below _ _ hbl))).mono ?_
          rw [cut_yes hb0]
          rintro e w1 ⟨rfl, hbx⟩
          go_wp2_with fail
          go_roundw
          case rel => exact ⟨k + 1, by omega, by go_num, by rw [Ho.out]; go_num, by rw [Ho.out]; omega, below_trans' hbl hbx⟩
          case measure => simp [intOf]; omega
        · have Hs := Lib.hid (Hneg.out (by omega))
          go_wp2_with fail
          refine (szPte_any Y _ _ hnn (by omega) hYs.out (gG3.keep (Keep.of_below _ _ hbl))).mono ?_
          rw [cut_no (by omega)]
          rintro e w1 ⟨rfl, hbx⟩
          go_wp2_with fail
          go_ret
          exact ⟨by rw [Hs.out]; rfl, below_trans' hbl hbx⟩
      · obtain rfl : k = n := by omega
        have Hs : Hid (cut (totPt f) l = l - k - (sumTo g k : Int)) := Lib.hid (by rw [cut_yes (by rw [Ht.out]; omega), Ht.out]; omega)
        go_wp2_with fail
        go_ret
        exact ⟨by rw [Hs.out]; rfl, hbl⟩
  · have hs0 : l - (n : Int) < 0 := by omega
    have Hs := Lib.hid (Hneg.out (by omega))
    go_enter Try.func77, Try.ntmps77
    go_wp2_with fail
    go_ret
    exact ⟨by rw [Hs.out]; rfl, Below.refl _ _⟩
set_option maxHeartbeats 800000 in
theorem szDfe_any {lo hi : Nat} (n : Df) {sa2 : Option Addr} {sc2 : Nat} (l : Int) (w : World) (h0 : 0 ≤ l) (h1 : l ≤ 1048576) (hn : elDf n) (hs2 : GPt w lo hi (.slice sa2 n.body.length sc2) n.body) :
    Calls Try.prog 63 #[.agg #[.string n.name, .int .i64 n.par, .slice sa2 n.body.length sc2], .int .i64 l] w fun e w' => e = .returned (.int .i64 (cut (wtDf n) l)) ∧ Below w.heap.size w w' := by
  obtain ⟨k0, k2⟩ := hn
  unfold maxLen at k0
  have K2 := Lib.hid k2
  have H2 := Lib.hid hs2
  clear k2 hs2
  have Hw : Hid ((wtDf n : Int) = ((n.name).size : Int) + (totPt n.body : Int)) := Lib.hid (by first | rfl | (unfold wtDf; omega))
  by_cases c0 : ((n.name).size : Int) ≤ l
  · by_cases c2 : (totPt n.body : Int) ≤ l - ((n.name).size : Int)
    · have y0 : ¬ (l - ((n.name).size : Int) < 0) := by omega
      have y2 : ¬ (l - ((n.name).size : Int) - (totPt n.body : Int) < 0) := by omega
      rw [cut_yes (by rw [Hw.out]; omega), show l - (wtDf n : Int) = l - ((n.name).size : Int) - (totPt n.body : Int) by have := Hw.out; omega]
      clear Hw
      go_enter Try.func63, Try.ntmps63
      go_wp2_with fail
      refine (szPt_any _ _ (l - ((n.name).size : Int)) _ (by omega) (by omega) K2.out (H2.out.keep (Keep.of_below _ _ ((Below.refl _ _).alloc (Nat.le_refl _) _)))).mono ?_
      rw [cut_yes (by omega)]
      rintro e w3 ⟨rfl, hb2⟩
      go_wp2_with fail
      go_ret
      exact ⟨rfl, ((Below.refl _ _).alloc (Nat.le_refl _) _).trans (hb2.mono (by simp))⟩
    · have y0 : ¬ (l - ((n.name).size : Int) < 0) := by omega
      have y2 : (l - ((n.name).size : Int) - (totPt n.body : Int) < 0) := by omega
      rw [cut_no (by rw [Hw.out]; omega)]
      clear Hw
      go_enter Try.func63, Try.ntmps63
      go_wp2_with fail
      refine (szPt_any _ _ (l - ((n.name).size : Int)) _ (by omega) (by omega) K2.out (H2.out.keep (Keep.of_below _ _ ((Below.refl _ _).alloc (Nat.le_refl _) _)))).mono ?_
      rw [cut_no (by omega)]
      rintro e w3 ⟨rfl, hb2⟩
      go_wp2_with fail
      go_ret
      exact ⟨rfl, ((Below.refl _ _).alloc (Nat.le_refl _) _).trans (hb2.mono (by simp))⟩
  · have y0 : (l - ((n.name).size : Int) < 0) := by omega
    rw [cut_no (by rw [Hw.out]; omega)]
    clear Hw
    go_enter Try.func63, Try.ntmps63
    go_wp2_with fail
    go_ret
    exact ⟨rfl, (Below.refl _ _).alloc (Nat.le_refl _) _⟩
set_option maxRecDepth 100000 in
set_option maxHeartbeats 800000 in
theorem szDf_any {lo hi : Nat} (v : Value) (f : List Df) (l : Int) (w : World) (h0 : 0 ≤ l) (h1 : l ≤ 1048576) (hok : okDf f) (hv : GDf w lo hi v f) :
    Calls Try.prog 38 #[v, .int .i64 l] w fun e w' => e = .returned (.int .i64 (cut (totDf f) l)) ∧ Below w.heap.size w w' := by
  have HV := Lib.hid hv
  have Hok := Lib.hid hok
  obtain ⟨a, cap, rfl, hcap, hm⟩ := Rws.slice hv
  unfold maxLen at hm
  obtain ⟨n, hxn⟩ : ∃ n, n = f.length := ⟨_, rfl⟩
  rw [← hxn] at hcap HV ⊢
  have Hxn := Lib.hid hxn
  clear hxn hv hok
  obtain ⟨g, hg⟩ : ∃ g : Nat → Nat, g = (fun i => wtDf (gnth df0 f i)) := ⟨_, rfl⟩
  have Hg := Lib.hid hg
  have Ht : Hid (totDf f = n + sumTo g n) := Lib.hid (by rw [Hg.out, Hxn.out]; rfl)
  clear hg
  have Hneg : Hid (¬ ((n : Int) + (sumTo g n : Int) ≤ l) → cut (totDf f) l = -1) := Lib.hid (fun h => cut_no (by rw [Ht.out]; omega))
  by_cases hs : (n : Int) ≤ l
  · have hs0 : ¬ (l - (n : Int) < 0) := by omega
    go_enter Try.func38, Try.ntmps38
    go_wp2_with fail
    go_loopw [1, 5] (fun sl si wr => ∃ k : Nat, k ≤ n ∧ si = .int .i64 k ∧ sl = .int .i64 (l - n - (sumTo g k : Int)) ∧ 0 ≤ l - n - (sumTo g k : Int) ∧ Below w.heap.size w wr) (fun _ si _ => n - (intOf si).toNat)
    case atStart => exact ⟨0, Nat.zero_le _, rfl, by simp [sumTo], by simp [sumTo]; omega, Below.refl _ _⟩
    case round =>
      obtain ⟨k, hk, rfl, rfl, hnn, hbl⟩ := hrel
      by_cases hlt : k < n
      · have hkf : k < f.length := by rw [← Hxn.out]; exact hlt
        obtain ⟨b, o, rfl, hb, g0, g1, ga2, gc2, g2, gG2⟩ := GDf.cells HV.out hkf
        have q0 := (hbl.cell (by exact hb)).trans g0
        have q1 := (hbl.cell (by exact hb)).trans g1
        have q2 := (hbl.cell (by exact hb)).trans g2
        clear g0 g1 g2
        have hYs := Hok.out k hkf
        have Ho : Hid (sumTo g (k + 1) = sumTo g k + wtDf (gnth df0 f k)) := Lib.hid (by rw [sumTo, Hg.out])
        have hmo := sumTo_mono g (show k + 1 ≤ n by omega)
        rw [Ho.out] at hmo
        obtain ⟨Y, hY⟩ : ∃ Y, Y = gnth df0 f k := ⟨_, rfl⟩
        rw [← hY] at hmo q0 q1 q2 gG2 hYs Ho
        obtain ⟨L, hL⟩ : ∃ L, L = sumTo g k := ⟨_, rfl⟩
        rw [← hL] at hnn Ho hmo ⊢
        have hYs := Lib.hid hYs
        clear hY hL
        by_cases hb0 : (wtDf Y : Int) ≤ l - n - (L : Int)
        · have hb1 : ¬ (l - n - (L : Int) - (wtDf Y : Int) < 0) := by omega
          go_wp2_with fail
          refine (szDfe_any Y _ _ hnn (by omega) hYs.out (gG2.keep (Keep.of_below _ _ hbl))).mono ?_
          rw [cut_yes hb0]
          rintro e w1 ⟨rfl, hbx⟩
          go_wp2_with fail
          go_roundw
          case rel => exact ⟨k + 1, by omega, by go_num, by rw [Ho.out]; go_num, by rw [Ho.out]; omega, below_trans' hbl hbx⟩
          case measure => simp [intOf]; omega
        · have Hs := Lib.hid (Hneg.out (by omega))
          go_wp2_with fail
          refine (szDfe_any Y _ _ hnn (by omega) hYs.out (gG2.keep (Keep.of_below _ _ hbl))).mono ?_
          rw [cut_no (by omega)]
          rintro e w1 ⟨rfl, hbx⟩
          go_wp2_with fail
          go_ret
          exact ⟨by rw [Hs.out]; rfl, below_trans' hbl hbx⟩
      · obtain rfl : k = n := by omega
        have Hs : Hid (cut (totDf f) l = l - k - (sumTo g k : Int)) := Lib.hid (by rw [cut_yes (by rw [Ht.out]; omega), Ht.out]; omega)
        go_wp2_with fail
        go_ret
        exact ⟨by rw [Hs.out]; rfl, hbl⟩
  · have hs0 : l - (n : Int) < 0 := by omega
    have Hs := Lib.hid (Hneg.out (by omega))
    go_enter Try.func38, Try.ntmps38
    go_wp2_with fail
    go_ret
    exact ⟨by rw [Hs.out]; rfl, Below.refl _ _⟩
set_option maxHeartbeats 800000 in
theorem szCpe_any {lo hi : Nat} (n : Cp) {sa1 : Option Addr} {sc1 : Nat} (l : Int) (w : World) (h0 : 0 ≤ l) (h1 : l ≤ 1048576) (hn : elCp n) (hs1 : GI w lo hi (.slice sa1 n.vals.length sc1) n.vals) :
    Calls Try.prog 64 #[.agg #[.int .i64 n.dfn, .slice sa1 n.vals.length sc1], .int .i64 l] w fun e w' => e = .returned (.int .i64 (cut (wtCp n) l)) ∧ Below w.heap.size w w' := by
  have k1 := hn
  have K1 := Lib.hid k1
  have H1 := Lib.hid hs1
  clear k1 hs1
  have Hw : Hid ((wtCp n : Int) = (totI n.vals : Int)) := Lib.hid (by first | rfl | (unfold wtCp; omega))
  by_cases c1 : (totI n.vals : Int) ≤ l
  · have y1 : ¬ (l - (totI n.vals : Int) < 0) := by omega
    rw [cut_yes (by rw [Hw.out]; omega), show l - (wtCp n : Int) = l - (totI n.vals : Int) by have := Hw.out; omega]
    clear Hw
    go_enter Try.func64, Try.ntmps64
    go_wp2_with fail
    refine (szI_any _ _ (l) _ (by omega) (by omega) K1.out (H1.out.keep (Keep.of_below _ _ ((Below.refl _ _).alloc (Nat.le_refl _) _)))).mono ?_
    rw [cut_yes (by omega)]
    rintro e w2 ⟨rfl, hb1⟩
    go_wp2_with fail
    go_ret
    exact ⟨rfl, ((Below.refl _ _).alloc (Nat.le_refl _) _).trans (hb1.mono (by simp))⟩
  · have y1 : (l - (totI n.vals : Int) < 0) := by omega
    rw [cut_no (by rw [Hw.out]; omega)]
    clear Hw
    go_enter Try.func64, Try.ntmps64
    go_wp2_with fail
    refine (szI_any _ _ (l) _ (by omega) (by omega) K1.out (H1.out.keep (Keep.of_below _ _ ((Below.refl _ _).alloc (Nat.le_refl _) _)))).mono ?_
    rw [cut_no (by omega)]
    rintro e w2 ⟨rfl, hb1⟩
    go_wp2_with fail
    go_ret
    exact ⟨rfl, ((Below.refl _ _).alloc (Nat.le_refl _) _).trans (hb1.mono (by simp))⟩
set_option maxRecDepth 100000 in
set_option maxHeartbeats 800000 in
theorem szCp_any {lo hi : Nat} (v : Value) (f : List Cp) (l : Int) (w : World) (h0 : 0 ≤ l) (h1 : l ≤ 1048576) (hok : okCp f) (hv : GCp w lo hi v f) :
    Calls Try.prog 39 #[v, .int .i64 l] w fun e w' => e = .returned (.int .i64 (cut (totCp f) l)) ∧ Below w.heap.size w w' := by
  have HV := Lib.hid hv
  have Hok := Lib.hid hok
  obtain ⟨a, cap, rfl, hcap, hm⟩ := Rws.slice hv
  unfold maxLen at hm
  obtain ⟨n, hxn⟩ : ∃ n, n = f.length := ⟨_, rfl⟩
  rw [← hxn] at hcap HV ⊢
  have Hxn := Lib.hid hxn
  clear hxn hv hok
  obtain ⟨g, hg⟩ : ∃ g : Nat → Nat, g = (fun i => wtCp (gnth cp0 f i)) := ⟨_, rfl⟩
  have Hg := Lib.hid hg
  have Ht : Hid (totCp f = n + sumTo g n) := Lib.hid (by rw [Hg.out, Hxn.out]; rfl)
  clear hg
  have Hneg : Hid (¬ ((n : Int) + (sumTo g n : Int) ≤ l) → cut (totCp f) l = -1) := Lib.hid (fun h => cut_no (by rw [Ht.out]; omega))
  by_cases hs : (n : Int) ≤ l
  · have hs0 : ¬ (l - (n : Int) < 0) := by omega
    go_enter Try.func39, Try.ntmps39
    go_wp2_with fail
    go_loopw [1, 5] (fun sl si wr => ∃ k : Nat, k ≤ n ∧ si = .int .i64 k ∧ sl = .int .i64 (l - n - (sumTo g k : Int)) ∧ 0 ≤ l - n - (sumTo g k : Int) ∧ Below w.heap.size w wr) (fun _ si _ => n - (intOf si).toNat)
    case atStart => exact ⟨0, Nat.zero_le _, rfl, by simp [sumTo], by simp [sumTo]; omega, Below.refl _ _⟩
    case round =>
      obtain ⟨k, hk, rfl, rfl, hnn, hbl⟩ := hrel
      by_cases hlt : k < n
      · have hkf : k < f.length := by rw [← Hxn.out]; exact hlt
        obtain ⟨b, o, rfl, hb, g0, ga1, gc1, g1, gG1⟩ := GCp.cells HV.out hkf
        have q0 := (hbl.cell (by exact hb)).trans g0
        have q1 := (hbl.cell (by exact hb)).trans g1
        clear g0 g1
        have hYs := Hok.out k hkf
        have Ho : Hid (sumTo g (k + 1) = sumTo g k + wtCp (gnth cp0 f k)) := Lib.hid (by rw [sumTo, Hg.out])
        have hmo := sumTo_mono g (show k + 1 ≤ n by omega)
        rw [Ho.out] at hmo
        obtain ⟨Y, hY⟩ : ∃ Y, Y = gnth cp0 f k := ⟨_, rfl⟩
        rw [← hY] at hmo q0 q1 gG1 hYs Ho
        obtain ⟨L, hL⟩ : ∃ L, L = sumTo g k := ⟨_, rfl⟩
        rw [← hL] at hnn Ho hmo ⊢
        have hYs := Lib.hid hYs
        clear hY hL
        by_cases hb0 : (wtCp Y : Int) ≤ l - n - (L : Int)
        · have hb1 : ¬ (l - n - (L : Int) - (wtCp Y : Int) < 0) := by omega
          go_wp2_with fail
          refine (szCpe_any Y _ _ hnn (by omega) hYs.out (gG1.keep (Keep.of_below _ _ hbl))).mono ?_
          rw [cut_yes hb0]
          rintro e w1 ⟨rfl, hbx⟩
          go_wp2_with fail
          go_roundw
          case rel => exact ⟨k + 1, by omega, by go_num, by rw [Ho.out]; go_num, by rw [Ho.out]; omega, below_trans' hbl hbx⟩
          case measure => simp [intOf]; omega
        · have Hs := Lib.hid (Hneg.out (by omega))
          go_wp2_with fail
          refine (szCpe_any Y _ _ hnn (by omega) hYs.out (gG1.keep (Keep.of_below _ _ hbl))).mono ?_
          rw [cut_no (by omega)]
          rintro e w1 ⟨rfl, hbx⟩
          go_wp2_with fail
          go_ret
          exact ⟨by rw [Hs.out]; rfl, below_trans' hbl hbx⟩
      · obtain rfl : k = n := by omega
        have Hs : Hid (cut (totCp f) l = l - k - (sumTo g k : Int)) := Lib.hid (by rw [cut_yes (by rw [Ht.out]; omega), Ht.out]; omega)
        go_wp2_with fail
        go_ret
        exact ⟨by rw [Hs.out]; rfl, hbl⟩
  · have hs0 : l - (n : Int) < 0 := by omega
    have Hs := Lib.hid (Hneg.out (by omega))
    go_enter Try.func39, Try.ntmps39
    go_wp2_with fail
    go_ret
    exact ⟨by rw [Hs.out]; rfl, Below.refl _ _⟩
set_option maxHeartbeats 800000 in
theorem szMte_any {lo hi : Nat} (n : Mt) (l : Int) (w : World) (h0 : 0 ≤ l) (h1 : l ≤ 1048576) (hn : elMt n) :
    Calls Try.prog 65 #[.agg #[.string n.left, .string n.right, .string n.res], .int .i64 l] w fun e w' => e = .returned (.int .i64 (cut (wtMt n) l)) ∧ Below w.heap.size w w' := by
  obtain ⟨k0, k1, k2⟩ := hn
  unfold maxLen at k0
  unfold maxLen at k1
  unfold maxLen at k2
  have Hw : Hid ((wtMt n : Int) = ((n.left).size : Int) + ((n.right).size : Int) + ((n.res).size : Int)) := Lib.hid (by first | rfl | (unfold wtMt; omega))
  by_cases c0 : ((n.left).size : Int) ≤ l
  · by_cases c1 : ((n.right).size : Int) ≤ l - ((n.left).size : Int)
    · by_cases c2 : ((n.res).size : Int) ≤ l - ((n.left).size : Int) - ((n.right).size : Int)
      · have y0 : ¬ (l - ((n.left).size : Int) < 0) := by omega
        have y1 : ¬ (l - ((n.left).size : Int) - ((n.right).size : Int) < 0) := by omega
        have y2 : ¬ (l - ((n.left).size : Int) - ((n.right).size : Int) - ((n.res).size : Int) < 0) := by omega
        rw [cut_yes (by rw [Hw.out]; omega), show l - (wtMt n : Int) = l - ((n.left).size : Int) - ((n.right).size : Int) - ((n.res).size : Int) by have := Hw.out; omega]
        clear Hw
        go_enter Try.func65, Try.ntmps65
        go_wp2_with fail
        go_ret
        exact ⟨rfl, (Below.refl _ _).alloc (Nat.le_refl _) _⟩
      · have y0 : ¬ (l - ((n.left).size : Int) < 0) := by omega
        have y1 : ¬ (l - ((n.left).size : Int) - ((n.right).size : Int) < 0) := by omega
        have y2 : (l - ((n.left).size : Int) - ((n.right).size : Int) - ((n.res).size : Int) < 0) := by omega
        rw [cut_no (by rw [Hw.out]; omega)]
        clear Hw
        go_enter Try.func65, Try.ntmps65
        go_wp2_with fail
        go_ret
        exact ⟨rfl, (Below.refl _ _).alloc (Nat.le_refl _) _⟩
    · have y0 : ¬ (l - ((n.left).size : Int) < 0) := by omega
      have y1 : (l - ((n.left).size : Int) - ((n.right).size : Int) < 0) := by omega
      rw [cut_no (by rw [Hw.out]; omega)]
      clear Hw
      go_enter Try.func65, Try.ntmps65
      go_wp2_with fail
      go_ret
      exact ⟨rfl, (Below.refl _ _).alloc (Nat.le_refl _) _⟩
  · have y0 : (l - ((n.left).size : Int) < 0) := by omega
    rw [cut_no (by rw [Hw.out]; omega)]
    clear Hw
    go_enter Try.func65, Try.ntmps65
    go_wp2_with fail
    go_ret
    exact ⟨rfl, (Below.refl _ _).alloc (Nat.le_refl _) _⟩
set_option maxRecDepth 100000 in
set_option maxHeartbeats 800000 in
theorem szMt_any {lo hi : Nat} (v : Value) (f : List Mt) (l : Int) (w : World) (h0 : 0 ≤ l) (h1 : l ≤ 1048576) (hok : okMt f) (hv : GMt w lo hi v f) :
    Calls Try.prog 40 #[v, .int .i64 l] w fun e w' => e = .returned (.int .i64 (cut (totMt f) l)) ∧ Below w.heap.size w w' := by
  have HV := Lib.hid hv
  have Hok := Lib.hid hok
  obtain ⟨a, cap, rfl, hcap, hm⟩ := Rws.slice hv
  unfold maxLen at hm
  obtain ⟨n, hxn⟩ : ∃ n, n = f.length := ⟨_, rfl⟩
  rw [← hxn] at hcap HV ⊢
  have Hxn := Lib.hid hxn
  clear hxn hv hok
  obtain ⟨g, hg⟩ : ∃ g : Nat → Nat, g = (fun i => wtMt (gnth mt0 f i)) := ⟨_, rfl⟩
  have Hg := Lib.hid hg
  have Ht : Hid (totMt f = n + sumTo g n) := Lib.hid (by rw [Hg.out, Hxn.out]; rfl)
  clear hg
  have Hneg : Hid (¬ ((n : Int) + (sumTo g n : Int) ≤ l) → cut (totMt f) l = -1) := Lib.hid (fun h => cut_no (by rw [Ht.out]; omega))
  by_cases hs : (n : Int) ≤ l
  · have hs0 : ¬ (l - (n : Int) < 0) := by omega
    go_enter Try.func40, Try.ntmps40
    go_wp2_with fail
    go_loopw [1, 5] (fun sl si wr => ∃ k : Nat, k ≤ n ∧ si = .int .i64 k ∧ sl = .int .i64 (l - n - (sumTo g k : Int)) ∧ 0 ≤ l - n - (sumTo g k : Int) ∧ Below w.heap.size w wr) (fun _ si _ => n - (intOf si).toNat)
    case atStart => exact ⟨0, Nat.zero_le _, rfl, by simp [sumTo], by simp [sumTo]; omega, Below.refl _ _⟩
    case round =>
      obtain ⟨k, hk, rfl, rfl, hnn, hbl⟩ := hrel
      by_cases hlt : k < n
      · have hkf : k < f.length := by rw [← Hxn.out]; exact hlt
        obtain ⟨b, o, rfl, hb, g0, g1, g2⟩ := GMt.cells HV.out hkf
        have q0 := (hbl.cell (by exact hb)).trans g0
        have q1 := (hbl.cell (by exact hb)).trans g1
        have q2 := (hbl.cell (by exact hb)).trans g2
        clear g0 g1 g2
        have hYs := Hok.out k hkf
        have Ho : Hid (sumTo g (k + 1) = sumTo g k + wtMt (gnth mt0 f k)) := Lib.hid (by rw [sumTo, Hg.out])
        have hmo := sumTo_mono g (show k + 1 ≤ n by omega)
        rw [Ho.out] at hmo
        obtain ⟨Y, hY⟩ : ∃ Y, Y = gnth mt0 f k := ⟨_, rfl⟩
        rw [← hY] at hmo q0 q1 q2 hYs Ho
        obtain ⟨L, hL⟩ : ∃ L, L = sumTo g k := ⟨_, rfl⟩
        rw [← hL] at hnn Ho hmo ⊢
        have hYs := Lib.hid hYs
        clear hY hL
        by_cases hb0 : (wtMt Y : Int) ≤ l - n - (L : Int)
        · have hb1 : ¬ (l - n - (L : Int) - (wtMt Y : Int) < 0) := by omega
          go_wp2_with fail
          refine (szMte_any (lo := 0) (hi := 0) Y _ _ hnn (by omega) hYs.out).mono ?_
          rw [cut_yes hb0]
          rintro e w1 ⟨rfl, hbx⟩
          go_wp2_with fail
          go_roundw
          case rel => exact ⟨k + 1, by omega, by go_num, by rw [Ho.out]; go_num, by rw [Ho.out]; omega, below_trans' hbl hbx⟩
          case measure => simp [intOf]; omega
        · have Hs := Lib.hid (Hneg.out (by omega))
          go_wp2_with fail
          refine (szMte_any (lo := 0) (hi := 0) Y _ _ hnn (by omega) hYs.out).mono ?_
          rw [cut_no (by omega)]
          rintro e w1 ⟨rfl, hbx⟩
          go_wp2_with fail
          go_ret
          exact ⟨by rw [Hs.out]; rfl, below_trans' hbl hbx⟩
      · obtain rfl : k = n := by omega
        have Hs : Hid (cut (totMt f) l = l - k - (sumTo g k : Int)) := Lib.hid (by rw [cut_yes (by rw [Ht.out]; omega), Ht.out]; omega)
        go_wp2_with fail
        go_ret
        exact ⟨by rw [Hs.out]; rfl, hbl⟩
  · have hs0 : l - (n : Int) < 0 := by omega
    have Hs := Lib.hid (Hneg.out (by omega))
    go_enter Try.func40, Try.ntmps40
    go_wp2_with fail
    go_ret
    exact ⟨by rw [Hs.out]; rfl, Below.refl _ _⟩
set_option maxHeartbeats 800000 in
theorem szLte_any {lo hi : Nat} (n : Lt) {sa2 sa3 : Option Addr} {sc2 sc3 : Nat} (l : Int) (w : World) (h0 : 0 ≤ l) (h1 : l ≤ 1048576) (hn : elLt n) (hs2 : GS w lo hi (.slice sa2 n.labs.length sc2) n.labs) (hs3 : GEg w lo hi (.slice sa3 n.edges.length sc3) n.edges) :
    Calls Try.prog 11 #[.agg #[.int .i64 n.st, .int .i64 n.ini, .slice sa2 n.labs.length sc2, .slice sa3 n.edges.length sc3], .int .i64 l] w fun e w' => e = .returned (.int .i64 (cut (wtLt n) l)) ∧ Below w.heap.size w w' := by
  obtain ⟨k2, k3⟩ := hn
  have K2 := Lib.hid k2
  have H2 := Lib.hid hs2
  clear k2 hs2
  have K3 := Lib.hid k3
  have H3 := Lib.hid hs3
  clear k3 hs3
  have Hw : Hid ((wtLt n : Int) = (totS n.labs : Int) + (totEg n.edges : Int)) := Lib.hid (by first | rfl | (unfold wtLt; omega))
  by_cases c2 : (totS n.labs : Int) ≤ l
  · by_cases c3 : (totEg n.edges : Int) ≤ l - (totS n.labs : Int)
    · have y2 : ¬ (l - (totS n.labs : Int) < 0) := by omega
      have y3 : ¬ (l - (totS n.labs : Int) - (totEg n.edges : Int) < 0) := by omega
      rw [cut_yes (by rw [Hw.out]; omega), show l - (wtLt n : Int) = l - (totS n.labs : Int) - (totEg n.edges : Int) by have := Hw.out; omega]
      clear Hw
      go_enter Try.func11, Try.ntmps11
      go_wp2_with fail
      refine (szS_any _ _ (l) _ (by omega) (by omega) K2.out (H2.out.keep (Keep.of_below _ _ ((Below.refl _ _).alloc (Nat.le_refl _) _)))).mono ?_
      rw [cut_yes (by omega)]
      rintro e w3 ⟨rfl, hb2⟩
      have e1 := box_only hb2
      have hB3 : Below w.heap.size w w3 := ((Below.refl _ _).alloc (Nat.le_refl _) _).trans (hb2.mono (by simp))
      have p0 : w3.cell? ⟨w.heap.size, 0, none⟩ = some (.int .i64 n.st) := by simp [World.cell?, e1]
      have p1 : w3.cell? ⟨w.heap.size, 1, none⟩ = some (.int .i64 n.ini) := by simp [World.cell?, e1]
      have p2 : w3.cell? ⟨w.heap.size, 2, none⟩ = some (.slice sa2 n.labs.length sc2) := by simp [World.cell?, e1]
      have p3 : w3.cell? ⟨w.heap.size, 3, none⟩ = some (.slice sa3 n.edges.length sc3) := by simp [World.cell?, e1]
      go_wp2_with fail
      refine (szEg_any _ _ (l - (totS n.labs : Int)) _ (by omega) (by omega) K3.out (H3.out.keep (Keep.of_below _ _ hB3))).mono ?_
      rw [cut_yes (by omega)]
      rintro e w4 ⟨rfl, hb3⟩
      have e1 := (hb3.block _ (lt_of_some e1)).trans e1
      have hB4 : Below w.heap.size w w4 := hB3.trans (hb3.mono hB3.size)
      have p0 : w4.cell? ⟨w.heap.size, 0, none⟩ = some (.int .i64 n.st) := by simp [World.cell?, e1]
      have p1 : w4.cell? ⟨w.heap.size, 1, none⟩ = some (.int .i64 n.ini) := by simp [World.cell?, e1]
      have p2 : w4.cell? ⟨w.heap.size, 2, none⟩ = some (.slice sa2 n.labs.length sc2) := by simp [World.cell?, e1]
      have p3 : w4.cell? ⟨w.heap.size, 3, none⟩ = some (.slice sa3 n.edges.length sc3) := by simp [World.cell?, e1]
      go_wp2_with fail
      go_ret
      exact ⟨rfl, hB4⟩
    · have y2 : ¬ (l - (totS n.labs : Int) < 0) := by omega
      have y3 : (l - (totS n.labs : Int) - (totEg n.edges : Int) < 0) := by omega
      rw [cut_no (by rw [Hw.out]; omega)]
      clear Hw
      go_enter Try.func11, Try.ntmps11
      go_wp2_with fail
      refine (szS_any _ _ (l) _ (by omega) (by omega) K2.out (H2.out.keep (Keep.of_below _ _ ((Below.refl _ _).alloc (Nat.le_refl _) _)))).mono ?_
      rw [cut_yes (by omega)]
      rintro e w3 ⟨rfl, hb2⟩
      have e1 := box_only hb2
      have hB3 : Below w.heap.size w w3 := ((Below.refl _ _).alloc (Nat.le_refl _) _).trans (hb2.mono (by simp))
      have p0 : w3.cell? ⟨w.heap.size, 0, none⟩ = some (.int .i64 n.st) := by simp [World.cell?, e1]
      have p1 : w3.cell? ⟨w.heap.size, 1, none⟩ = some (.int .i64 n.ini) := by simp [World.cell?, e1]
      have p2 : w3.cell? ⟨w.heap.size, 2, none⟩ = some (.slice sa2 n.labs.length sc2) := by simp [World.cell?, e1]
      have p3 : w3.cell? ⟨w.heap.size, 3, none⟩ = some (.slice sa3 n.edges.length sc3) := by simp [World.cell?, e1]
      go_wp2_with fail
      refine (szEg_any _ _ (l - (totS n.labs : Int)) _ (by omega) (by omega) K3.out (H3.out.keep (Keep.of_below _ _ hB3))).mono ?_
      rw [cut_no (by omega)]
      rintro e w4 ⟨rfl, hb3⟩
      have e1 := (hb3.block _ (lt_of_some e1)).trans e1
      have hB4 : Below w.heap.size w w4 := hB3.trans (hb3.mono hB3.size)
      have p0 : w4.cell? ⟨w.heap.size, 0, none⟩ = some (.int .i64 n.st) := by simp [World.cell?, e1]
      have p1 : w4.cell? ⟨w.heap.size, 1, none⟩ = some (.int .i64 n.ini) := by simp [World.cell?, e1]
      have p2 : w4.cell? ⟨w.heap.size, 2, none⟩ = some (.slice sa2 n.labs.length sc2) := by simp [World.cell?, e1]
      have p3 : w4.cell? ⟨w.heap.size, 3, none⟩ = some (.slice sa3 n.edges.length sc3) := by simp [World.cell?, e1]
      go_wp2_with fail
      go_ret
      exact ⟨rfl, hB4⟩
  · have y2 : (l - (totS n.labs : Int) < 0) := by omega
    rw [cut_no (by rw [Hw.out]; omega)]
    clear Hw
    go_enter Try.func11, Try.ntmps11
    go_wp2_with fail
    refine (szS_any _ _ (l) _ (by omega) (by omega) K2.out (H2.out.keep (Keep.of_below _ _ ((Below.refl _ _).alloc (Nat.le_refl _) _)))).mono ?_
    rw [cut_no (by omega)]
    rintro e w3 ⟨rfl, hb2⟩
    have e1 := box_only hb2
    have hB3 : Below w.heap.size w w3 := ((Below.refl _ _).alloc (Nat.le_refl _) _).trans (hb2.mono (by simp))
    have p0 : w3.cell? ⟨w.heap.size, 0, none⟩ = some (.int .i64 n.st) := by simp [World.cell?, e1]
    have p1 : w3.cell? ⟨w.heap.size, 1, none⟩ = some (.int .i64 n.ini) := by simp [World.cell?, e1]
    have p2 : w3.cell? ⟨w.heap.size, 2, none⟩ = some (.slice sa2 n.labs.length sc2) := by simp [World.cell?, e1]
    have p3 : w3.cell? ⟨w.heap.size, 3, none⟩ = some (.slice sa3 n.edges.length sc3) := by simp [World.cell?, e1]
    go_wp2_with fail
    go_ret
    exact ⟨rfl, hB3⟩
set_option maxHeartbeats 800000 in
theorem szSye_any {lo hi : Nat} (n : Sy) {sa0 sa1 sa2 sa3 sa4 : Option Addr} {sc0 sc1 sc2 sc3 sc4 : Nat} (l : Int) (w : World) (h0 : 0 ≤ l) (h1 : l ≤ 1048576) (hn : elSy n) (hs0 : GDf w lo hi (.slice sa0 n.defs.length sc0) n.defs) (hs1 : GCp w lo hi (.slice sa1 n.comps.length sc1) n.comps) (hs2 : GMt w lo hi (.slice sa2 n.meets.length sc2) n.meets) (hs3 : GS w lo hi (.slice sa3 n.allow.length sc3) n.allow) (hs4 : GS w lo hi (.slice sa4 n.hide.length sc4) n.hide) :
    Calls Try.prog 16 #[.agg #[.slice sa0 n.defs.length sc0, .slice sa1 n.comps.length sc1, .slice sa2 n.meets.length sc2, .slice sa3 n.allow.length sc3, .slice sa4 n.hide.length sc4], .int .i64 l] w fun e w' => e = .returned (.int .i64 (cut (wtSy n) l)) ∧ Below w.heap.size w w' := by
  obtain ⟨k0, k1, k2, k3, k4⟩ := hn
  have K0 := Lib.hid k0
  have H0 := Lib.hid hs0
  clear k0 hs0
  have K1 := Lib.hid k1
  have H1 := Lib.hid hs1
  clear k1 hs1
  have K2 := Lib.hid k2
  have H2 := Lib.hid hs2
  clear k2 hs2
  have K3 := Lib.hid k3
  have H3 := Lib.hid hs3
  clear k3 hs3
  have K4 := Lib.hid k4
  have H4 := Lib.hid hs4
  clear k4 hs4
  have Hw : Hid ((wtSy n : Int) = (totDf n.defs : Int) + (totCp n.comps : Int) + (totMt n.meets : Int) + (totS n.allow : Int) + (totS n.hide : Int)) := Lib.hid (by first | rfl | (unfold wtSy; omega))
  by_cases c0 : (totDf n.defs : Int) ≤ l
  · by_cases c1 : (totCp n.comps : Int) ≤ l - (totDf n.defs : Int)
    · by_cases c2 : (totMt n.meets : Int) ≤ l - (totDf n.defs : Int) - (totCp n.comps : Int)
      · by_cases c3 : (totS n.allow : Int) ≤ l - (totDf n.defs : Int) - (totCp n.comps : Int) - (totMt n.meets : Int)
        · by_cases c4 : (totS n.hide : Int) ≤ l - (totDf n.defs : Int) - (totCp n.comps : Int) - (totMt n.meets : Int) - (totS n.allow : Int)
          · have y0 : ¬ (l - (totDf n.defs : Int) < 0) := by omega
            have y1 : ¬ (l - (totDf n.defs : Int) - (totCp n.comps : Int) < 0) := by omega
            have y2 : ¬ (l - (totDf n.defs : Int) - (totCp n.comps : Int) - (totMt n.meets : Int) < 0) := by omega
            have y3 : ¬ (l - (totDf n.defs : Int) - (totCp n.comps : Int) - (totMt n.meets : Int) - (totS n.allow : Int) < 0) := by omega
            have y4 : ¬ (l - (totDf n.defs : Int) - (totCp n.comps : Int) - (totMt n.meets : Int) - (totS n.allow : Int) - (totS n.hide : Int) < 0) := by omega
            rw [cut_yes (by rw [Hw.out]; omega), show l - (wtSy n : Int) = l - (totDf n.defs : Int) - (totCp n.comps : Int) - (totMt n.meets : Int) - (totS n.allow : Int) - (totS n.hide : Int) by have := Hw.out; omega]
            clear Hw
            go_enter Try.func16, Try.ntmps16
            go_wp2_with fail
            refine (szDf_any _ _ (l) _ (by omega) (by omega) K0.out (H0.out.keep (Keep.of_below _ _ ((Below.refl _ _).alloc (Nat.le_refl _) _)))).mono ?_
            rw [cut_yes (by omega)]
            rintro e w1 ⟨rfl, hb0⟩
            have e1 := box_only hb0
            have hB1 : Below w.heap.size w w1 := ((Below.refl _ _).alloc (Nat.le_refl _) _).trans (hb0.mono (by simp))
            have p0 : w1.cell? ⟨w.heap.size, 0, none⟩ = some (.slice sa0 n.defs.length sc0) := by simp [World.cell?, e1]
            have p1 : w1.cell? ⟨w.heap.size, 1, none⟩ = some (.slice sa1 n.comps.length sc1) := by simp [World.cell?, e1]
            have p2 : w1.cell? ⟨w.heap.size, 2, none⟩ = some (.slice sa2 n.meets.length sc2) := by simp [World.cell?, e1]
            have p3 : w1.cell? ⟨w.heap.size, 3, none⟩ = some (.slice sa3 n.allow.length sc3) := by simp [World.cell?, e1]
            have p4 : w1.cell? ⟨w.heap.size, 4, none⟩ = some (.slice sa4 n.hide.length sc4) := by simp [World.cell?, e1]
            go_wp2_with fail
            refine (szCp_any _ _ (l - (totDf n.defs : Int)) _ (by omega) (by omega) K1.out (H1.out.keep (Keep.of_below _ _ hB1))).mono ?_
            rw [cut_yes (by omega)]
            rintro e w2 ⟨rfl, hb1⟩
            have e1 := (hb1.block _ (lt_of_some e1)).trans e1
            have hB2 : Below w.heap.size w w2 := hB1.trans (hb1.mono hB1.size)
            have p0 : w2.cell? ⟨w.heap.size, 0, none⟩ = some (.slice sa0 n.defs.length sc0) := by simp [World.cell?, e1]
            have p1 : w2.cell? ⟨w.heap.size, 1, none⟩ = some (.slice sa1 n.comps.length sc1) := by simp [World.cell?, e1]
            have p2 : w2.cell? ⟨w.heap.size, 2, none⟩ = some (.slice sa2 n.meets.length sc2) := by simp [World.cell?, e1]
            have p3 : w2.cell? ⟨w.heap.size, 3, none⟩ = some (.slice sa3 n.allow.length sc3) := by simp [World.cell?, e1]
            have p4 : w2.cell? ⟨w.heap.size, 4, none⟩ = some (.slice sa4 n.hide.length sc4) := by simp [World.cell?, e1]
            go_wp2_with fail
            refine (szMt_any _ _ (l - (totDf n.defs : Int) - (totCp n.comps : Int)) _ (by omega) (by omega) K2.out (H2.out.keep (Keep.of_below _ _ hB2))).mono ?_
            rw [cut_yes (by omega)]
            rintro e w3 ⟨rfl, hb2⟩
            have e1 := (hb2.block _ (lt_of_some e1)).trans e1
            have hB3 : Below w.heap.size w w3 := hB2.trans (hb2.mono hB2.size)
            have p0 : w3.cell? ⟨w.heap.size, 0, none⟩ = some (.slice sa0 n.defs.length sc0) := by simp [World.cell?, e1]
            have p1 : w3.cell? ⟨w.heap.size, 1, none⟩ = some (.slice sa1 n.comps.length sc1) := by simp [World.cell?, e1]
            have p2 : w3.cell? ⟨w.heap.size, 2, none⟩ = some (.slice sa2 n.meets.length sc2) := by simp [World.cell?, e1]
            have p3 : w3.cell? ⟨w.heap.size, 3, none⟩ = some (.slice sa3 n.allow.length sc3) := by simp [World.cell?, e1]
            have p4 : w3.cell? ⟨w.heap.size, 4, none⟩ = some (.slice sa4 n.hide.length sc4) := by simp [World.cell?, e1]
            go_wp2_with fail
            refine (szS_any _ _ (l - (totDf n.defs : Int) - (totCp n.comps : Int) - (totMt n.meets : Int)) _ (by omega) (by omega) K3.out (H3.out.keep (Keep.of_below _ _ hB3))).mono ?_
            rw [cut_yes (by omega)]
            rintro e w4 ⟨rfl, hb3⟩
            have e1 := (hb3.block _ (lt_of_some e1)).trans e1
            have hB4 : Below w.heap.size w w4 := hB3.trans (hb3.mono hB3.size)
            have p0 : w4.cell? ⟨w.heap.size, 0, none⟩ = some (.slice sa0 n.defs.length sc0) := by simp [World.cell?, e1]
            have p1 : w4.cell? ⟨w.heap.size, 1, none⟩ = some (.slice sa1 n.comps.length sc1) := by simp [World.cell?, e1]
            have p2 : w4.cell? ⟨w.heap.size, 2, none⟩ = some (.slice sa2 n.meets.length sc2) := by simp [World.cell?, e1]
            have p3 : w4.cell? ⟨w.heap.size, 3, none⟩ = some (.slice sa3 n.allow.length sc3) := by simp [World.cell?, e1]
            have p4 : w4.cell? ⟨w.heap.size, 4, none⟩ = some (.slice sa4 n.hide.length sc4) := by simp [World.cell?, e1]
            go_wp2_with fail
            refine (szS_any _ _ (l - (totDf n.defs : Int) - (totCp n.comps : Int) - (totMt n.meets : Int) - (totS n.allow : Int)) _ (by omega) (by omega) K4.out (H4.out.keep (Keep.of_below _ _ hB4))).mono ?_
            rw [cut_yes (by omega)]
            rintro e w5 ⟨rfl, hb4⟩
            have e1 := (hb4.block _ (lt_of_some e1)).trans e1
            have hB5 : Below w.heap.size w w5 := hB4.trans (hb4.mono hB4.size)
            have p0 : w5.cell? ⟨w.heap.size, 0, none⟩ = some (.slice sa0 n.defs.length sc0) := by simp [World.cell?, e1]
            have p1 : w5.cell? ⟨w.heap.size, 1, none⟩ = some (.slice sa1 n.comps.length sc1) := by simp [World.cell?, e1]
            have p2 : w5.cell? ⟨w.heap.size, 2, none⟩ = some (.slice sa2 n.meets.length sc2) := by simp [World.cell?, e1]
            have p3 : w5.cell? ⟨w.heap.size, 3, none⟩ = some (.slice sa3 n.allow.length sc3) := by simp [World.cell?, e1]
            have p4 : w5.cell? ⟨w.heap.size, 4, none⟩ = some (.slice sa4 n.hide.length sc4) := by simp [World.cell?, e1]
            go_wp2_with fail
            go_ret
            exact ⟨rfl, hB5⟩
          · have y0 : ¬ (l - (totDf n.defs : Int) < 0) := by omega
            have y1 : ¬ (l - (totDf n.defs : Int) - (totCp n.comps : Int) < 0) := by omega
            have y2 : ¬ (l - (totDf n.defs : Int) - (totCp n.comps : Int) - (totMt n.meets : Int) < 0) := by omega
            have y3 : ¬ (l - (totDf n.defs : Int) - (totCp n.comps : Int) - (totMt n.meets : Int) - (totS n.allow : Int) < 0) := by omega
            have y4 : (l - (totDf n.defs : Int) - (totCp n.comps : Int) - (totMt n.meets : Int) - (totS n.allow : Int) - (totS n.hide : Int) < 0) := by omega
            rw [cut_no (by rw [Hw.out]; omega)]
            clear Hw
            go_enter Try.func16, Try.ntmps16
            go_wp2_with fail
            refine (szDf_any _ _ (l) _ (by omega) (by omega) K0.out (H0.out.keep (Keep.of_below _ _ ((Below.refl _ _).alloc (Nat.le_refl _) _)))).mono ?_
            rw [cut_yes (by omega)]
            rintro e w1 ⟨rfl, hb0⟩
            have e1 := box_only hb0
            have hB1 : Below w.heap.size w w1 := ((Below.refl _ _).alloc (Nat.le_refl _) _).trans (hb0.mono (by simp))
            have p0 : w1.cell? ⟨w.heap.size, 0, none⟩ = some (.slice sa0 n.defs.length sc0) := by simp [World.cell?, e1]
            have p1 : w1.cell? ⟨w.heap.size, 1, none⟩ = some (.slice sa1 n.comps.length sc1) := by simp [World.cell?, e1]
            have p2 : w1.cell? ⟨w.heap.size, 2, none⟩ = some (.slice sa2 n.meets.length sc2) := by simp [World.cell?, e1]
            have p3 : w1.cell? ⟨w.heap.size, 3, none⟩ = some (.slice sa3 n.allow.length sc3) := by simp [World.cell?, e1]
            have p4 : w1.cell? ⟨w.heap.size, 4, none⟩ = some (.slice sa4 n.hide.length sc4) := by simp [World.cell?, e1]
            go_wp2_with fail
            refine (szCp_any _ _ (l - (totDf n.defs : Int)) _ (by omega) (by omega) K1.out (H1.out.keep (Keep.of_below _ _ hB1))).mono ?_
            rw [cut_yes (by omega)]
            rintro e w2 ⟨rfl, hb1⟩
            have e1 := (hb1.block _ (lt_of_some e1)).trans e1
            have hB2 : Below w.heap.size w w2 := hB1.trans (hb1.mono hB1.size)
            have p0 : w2.cell? ⟨w.heap.size, 0, none⟩ = some (.slice sa0 n.defs.length sc0) := by simp [World.cell?, e1]
            have p1 : w2.cell? ⟨w.heap.size, 1, none⟩ = some (.slice sa1 n.comps.length sc1) := by simp [World.cell?, e1]
            have p2 : w2.cell? ⟨w.heap.size, 2, none⟩ = some (.slice sa2 n.meets.length sc2) := by simp [World.cell?, e1]
            have p3 : w2.cell? ⟨w.heap.size, 3, none⟩ = some (.slice sa3 n.allow.length sc3) := by simp [World.cell?, e1]
            have p4 : w2.cell? ⟨w.heap.size, 4, none⟩ = some (.slice sa4 n.hide.length sc4) := by simp [World.cell?, e1]
            go_wp2_with fail
            refine (szMt_any _ _ (l - (totDf n.defs : Int) - (totCp n.comps : Int)) _ (by omega) (by omega) K2.out (H2.out.keep (Keep.of_below _ _ hB2))).mono ?_
            rw [cut_yes (by omega)]
            rintro e w3 ⟨rfl, hb2⟩
            have e1 := (hb2.block _ (lt_of_some e1)).trans e1
            have hB3 : Below w.heap.size w w3 := hB2.trans (hb2.mono hB2.size)
            have p0 : w3.cell? ⟨w.heap.size, 0, none⟩ = some (.slice sa0 n.defs.length sc0) := by simp [World.cell?, e1]
            have p1 : w3.cell? ⟨w.heap.size, 1, none⟩ = some (.slice sa1 n.comps.length sc1) := by simp [World.cell?, e1]
            have p2 : w3.cell? ⟨w.heap.size, 2, none⟩ = some (.slice sa2 n.meets.length sc2) := by simp [World.cell?, e1]
            have p3 : w3.cell? ⟨w.heap.size, 3, none⟩ = some (.slice sa3 n.allow.length sc3) := by simp [World.cell?, e1]
            have p4 : w3.cell? ⟨w.heap.size, 4, none⟩ = some (.slice sa4 n.hide.length sc4) := by simp [World.cell?, e1]
            go_wp2_with fail
            refine (szS_any _ _ (l - (totDf n.defs : Int) - (totCp n.comps : Int) - (totMt n.meets : Int)) _ (by omega) (by omega) K3.out (H3.out.keep (Keep.of_below _ _ hB3))).mono ?_
            rw [cut_yes (by omega)]
            rintro e w4 ⟨rfl, hb3⟩
            have e1 := (hb3.block _ (lt_of_some e1)).trans e1
            have hB4 : Below w.heap.size w w4 := hB3.trans (hb3.mono hB3.size)
            have p0 : w4.cell? ⟨w.heap.size, 0, none⟩ = some (.slice sa0 n.defs.length sc0) := by simp [World.cell?, e1]
            have p1 : w4.cell? ⟨w.heap.size, 1, none⟩ = some (.slice sa1 n.comps.length sc1) := by simp [World.cell?, e1]
            have p2 : w4.cell? ⟨w.heap.size, 2, none⟩ = some (.slice sa2 n.meets.length sc2) := by simp [World.cell?, e1]
            have p3 : w4.cell? ⟨w.heap.size, 3, none⟩ = some (.slice sa3 n.allow.length sc3) := by simp [World.cell?, e1]
            have p4 : w4.cell? ⟨w.heap.size, 4, none⟩ = some (.slice sa4 n.hide.length sc4) := by simp [World.cell?, e1]
            go_wp2_with fail
            refine (szS_any _ _ (l - (totDf n.defs : Int) - (totCp n.comps : Int) - (totMt n.meets : Int) - (totS n.allow : Int)) _ (by omega) (by omega) K4.out (H4.out.keep (Keep.of_below _ _ hB4))).mono ?_
            rw [cut_no (by omega)]
            rintro e w5 ⟨rfl, hb4⟩
            have e1 := (hb4.block _ (lt_of_some e1)).trans e1
            have hB5 : Below w.heap.size w w5 := hB4.trans (hb4.mono hB4.size)
            have p0 : w5.cell? ⟨w.heap.size, 0, none⟩ = some (.slice sa0 n.defs.length sc0) := by simp [World.cell?, e1]
            have p1 : w5.cell? ⟨w.heap.size, 1, none⟩ = some (.slice sa1 n.comps.length sc1) := by simp [World.cell?, e1]
            have p2 : w5.cell? ⟨w.heap.size, 2, none⟩ = some (.slice sa2 n.meets.length sc2) := by simp [World.cell?, e1]
            have p3 : w5.cell? ⟨w.heap.size, 3, none⟩ = some (.slice sa3 n.allow.length sc3) := by simp [World.cell?, e1]
            have p4 : w5.cell? ⟨w.heap.size, 4, none⟩ = some (.slice sa4 n.hide.length sc4) := by simp [World.cell?, e1]
            go_wp2_with fail
            go_ret
            exact ⟨rfl, hB5⟩
        · have y0 : ¬ (l - (totDf n.defs : Int) < 0) := by omega
          have y1 : ¬ (l - (totDf n.defs : Int) - (totCp n.comps : Int) < 0) := by omega
          have y2 : ¬ (l - (totDf n.defs : Int) - (totCp n.comps : Int) - (totMt n.meets : Int) < 0) := by omega
          have y3 : (l - (totDf n.defs : Int) - (totCp n.comps : Int) - (totMt n.meets : Int) - (totS n.allow : Int) < 0) := by omega
          rw [cut_no (by rw [Hw.out]; omega)]
          clear Hw
          go_enter Try.func16, Try.ntmps16
          go_wp2_with fail
          refine (szDf_any _ _ (l) _ (by omega) (by omega) K0.out (H0.out.keep (Keep.of_below _ _ ((Below.refl _ _).alloc (Nat.le_refl _) _)))).mono ?_
          rw [cut_yes (by omega)]
          rintro e w1 ⟨rfl, hb0⟩
          have e1 := box_only hb0
          have hB1 : Below w.heap.size w w1 := ((Below.refl _ _).alloc (Nat.le_refl _) _).trans (hb0.mono (by simp))
          have p0 : w1.cell? ⟨w.heap.size, 0, none⟩ = some (.slice sa0 n.defs.length sc0) := by simp [World.cell?, e1]
          have p1 : w1.cell? ⟨w.heap.size, 1, none⟩ = some (.slice sa1 n.comps.length sc1) := by simp [World.cell?, e1]
          have p2 : w1.cell? ⟨w.heap.size, 2, none⟩ = some (.slice sa2 n.meets.length sc2) := by simp [World.cell?, e1]
          have p3 : w1.cell? ⟨w.heap.size, 3, none⟩ = some (.slice sa3 n.allow.length sc3) := by simp [World.cell?, e1]
          have p4 : w1.cell? ⟨w.heap.size, 4, none⟩ = some (.slice sa4 n.hide.length sc4) := by simp [World.cell?, e1]
          go_wp2_with fail
          refine (szCp_any _ _ (l - (totDf n.defs : Int)) _ (by omega) (by omega) K1.out (H1.out.keep (Keep.of_below _ _ hB1))).mono ?_
          rw [cut_yes (by omega)]
          rintro e w2 ⟨rfl, hb1⟩
          have e1 := (hb1.block _ (lt_of_some e1)).trans e1
          have hB2 : Below w.heap.size w w2 := hB1.trans (hb1.mono hB1.size)
          have p0 : w2.cell? ⟨w.heap.size, 0, none⟩ = some (.slice sa0 n.defs.length sc0) := by simp [World.cell?, e1]
          have p1 : w2.cell? ⟨w.heap.size, 1, none⟩ = some (.slice sa1 n.comps.length sc1) := by simp [World.cell?, e1]
          have p2 : w2.cell? ⟨w.heap.size, 2, none⟩ = some (.slice sa2 n.meets.length sc2) := by simp [World.cell?, e1]
          have p3 : w2.cell? ⟨w.heap.size, 3, none⟩ = some (.slice sa3 n.allow.length sc3) := by simp [World.cell?, e1]
          have p4 : w2.cell? ⟨w.heap.size, 4, none⟩ = some (.slice sa4 n.hide.length sc4) := by simp [World.cell?, e1]
          go_wp2_with fail
          refine (szMt_any _ _ (l - (totDf n.defs : Int) - (totCp n.comps : Int)) _ (by omega) (by omega) K2.out (H2.out.keep (Keep.of_below _ _ hB2))).mono ?_
          rw [cut_yes (by omega)]
          rintro e w3 ⟨rfl, hb2⟩
          have e1 := (hb2.block _ (lt_of_some e1)).trans e1
          have hB3 : Below w.heap.size w w3 := hB2.trans (hb2.mono hB2.size)
          have p0 : w3.cell? ⟨w.heap.size, 0, none⟩ = some (.slice sa0 n.defs.length sc0) := by simp [World.cell?, e1]
          have p1 : w3.cell? ⟨w.heap.size, 1, none⟩ = some (.slice sa1 n.comps.length sc1) := by simp [World.cell?, e1]
          have p2 : w3.cell? ⟨w.heap.size, 2, none⟩ = some (.slice sa2 n.meets.length sc2) := by simp [World.cell?, e1]
          have p3 : w3.cell? ⟨w.heap.size, 3, none⟩ = some (.slice sa3 n.allow.length sc3) := by simp [World.cell?, e1]
          have p4 : w3.cell? ⟨w.heap.size, 4, none⟩ = some (.slice sa4 n.hide.length sc4) := by simp [World.cell?, e1]
          go_wp2_with fail
          refine (szS_any _ _ (l - (totDf n.defs : Int) - (totCp n.comps : Int) - (totMt n.meets : Int)) _ (by omega) (by omega) K3.out (H3.out.keep (Keep.of_below _ _ hB3))).mono ?_
          rw [cut_no (by omega)]
          rintro e w4 ⟨rfl, hb3⟩
          have e1 := (hb3.block _ (lt_of_some e1)).trans e1
          have hB4 : Below w.heap.size w w4 := hB3.trans (hb3.mono hB3.size)
          have p0 : w4.cell? ⟨w.heap.size, 0, none⟩ = some (.slice sa0 n.defs.length sc0) := by simp [World.cell?, e1]
          have p1 : w4.cell? ⟨w.heap.size, 1, none⟩ = some (.slice sa1 n.comps.length sc1) := by simp [World.cell?, e1]
          have p2 : w4.cell? ⟨w.heap.size, 2, none⟩ = some (.slice sa2 n.meets.length sc2) := by simp [World.cell?, e1]
          have p3 : w4.cell? ⟨w.heap.size, 3, none⟩ = some (.slice sa3 n.allow.length sc3) := by simp [World.cell?, e1]
          have p4 : w4.cell? ⟨w.heap.size, 4, none⟩ = some (.slice sa4 n.hide.length sc4) := by simp [World.cell?, e1]
          go_wp2_with fail
          go_ret
          exact ⟨rfl, hB4⟩
      · have y0 : ¬ (l - (totDf n.defs : Int) < 0) := by omega
        have y1 : ¬ (l - (totDf n.defs : Int) - (totCp n.comps : Int) < 0) := by omega
        have y2 : (l - (totDf n.defs : Int) - (totCp n.comps : Int) - (totMt n.meets : Int) < 0) := by omega
        rw [cut_no (by rw [Hw.out]; omega)]
        clear Hw
        go_enter Try.func16, Try.ntmps16
        go_wp2_with fail
        refine (szDf_any _ _ (l) _ (by omega) (by omega) K0.out (H0.out.keep (Keep.of_below _ _ ((Below.refl _ _).alloc (Nat.le_refl _) _)))).mono ?_
        rw [cut_yes (by omega)]
        rintro e w1 ⟨rfl, hb0⟩
        have e1 := box_only hb0
        have hB1 : Below w.heap.size w w1 := ((Below.refl _ _).alloc (Nat.le_refl _) _).trans (hb0.mono (by simp))
        have p0 : w1.cell? ⟨w.heap.size, 0, none⟩ = some (.slice sa0 n.defs.length sc0) := by simp [World.cell?, e1]
        have p1 : w1.cell? ⟨w.heap.size, 1, none⟩ = some (.slice sa1 n.comps.length sc1) := by simp [World.cell?, e1]
        have p2 : w1.cell? ⟨w.heap.size, 2, none⟩ = some (.slice sa2 n.meets.length sc2) := by simp [World.cell?, e1]
        have p3 : w1.cell? ⟨w.heap.size, 3, none⟩ = some (.slice sa3 n.allow.length sc3) := by simp [World.cell?, e1]
        have p4 : w1.cell? ⟨w.heap.size, 4, none⟩ = some (.slice sa4 n.hide.length sc4) := by simp [World.cell?, e1]
        go_wp2_with fail
        refine (szCp_any _ _ (l - (totDf n.defs : Int)) _ (by omega) (by omega) K1.out (H1.out.keep (Keep.of_below _ _ hB1))).mono ?_
        rw [cut_yes (by omega)]
        rintro e w2 ⟨rfl, hb1⟩
        have e1 := (hb1.block _ (lt_of_some e1)).trans e1
        have hB2 : Below w.heap.size w w2 := hB1.trans (hb1.mono hB1.size)
        have p0 : w2.cell? ⟨w.heap.size, 0, none⟩ = some (.slice sa0 n.defs.length sc0) := by simp [World.cell?, e1]
        have p1 : w2.cell? ⟨w.heap.size, 1, none⟩ = some (.slice sa1 n.comps.length sc1) := by simp [World.cell?, e1]
        have p2 : w2.cell? ⟨w.heap.size, 2, none⟩ = some (.slice sa2 n.meets.length sc2) := by simp [World.cell?, e1]
        have p3 : w2.cell? ⟨w.heap.size, 3, none⟩ = some (.slice sa3 n.allow.length sc3) := by simp [World.cell?, e1]
        have p4 : w2.cell? ⟨w.heap.size, 4, none⟩ = some (.slice sa4 n.hide.length sc4) := by simp [World.cell?, e1]
        go_wp2_with fail
        refine (szMt_any _ _ (l - (totDf n.defs : Int) - (totCp n.comps : Int)) _ (by omega) (by omega) K2.out (H2.out.keep (Keep.of_below _ _ hB2))).mono ?_
        rw [cut_no (by omega)]
        rintro e w3 ⟨rfl, hb2⟩
        have e1 := (hb2.block _ (lt_of_some e1)).trans e1
        have hB3 : Below w.heap.size w w3 := hB2.trans (hb2.mono hB2.size)
        have p0 : w3.cell? ⟨w.heap.size, 0, none⟩ = some (.slice sa0 n.defs.length sc0) := by simp [World.cell?, e1]
        have p1 : w3.cell? ⟨w.heap.size, 1, none⟩ = some (.slice sa1 n.comps.length sc1) := by simp [World.cell?, e1]
        have p2 : w3.cell? ⟨w.heap.size, 2, none⟩ = some (.slice sa2 n.meets.length sc2) := by simp [World.cell?, e1]
        have p3 : w3.cell? ⟨w.heap.size, 3, none⟩ = some (.slice sa3 n.allow.length sc3) := by simp [World.cell?, e1]
        have p4 : w3.cell? ⟨w.heap.size, 4, none⟩ = some (.slice sa4 n.hide.length sc4) := by simp [World.cell?, e1]
        go_wp2_with fail
        go_ret
        exact ⟨rfl, hB3⟩
    · have y0 : ¬ (l - (totDf n.defs : Int) < 0) := by omega
      have y1 : (l - (totDf n.defs : Int) - (totCp n.comps : Int) < 0) := by omega
      rw [cut_no (by rw [Hw.out]; omega)]
      clear Hw
      go_enter Try.func16, Try.ntmps16
      go_wp2_with fail
      refine (szDf_any _ _ (l) _ (by omega) (by omega) K0.out (H0.out.keep (Keep.of_below _ _ ((Below.refl _ _).alloc (Nat.le_refl _) _)))).mono ?_
      rw [cut_yes (by omega)]
      rintro e w1 ⟨rfl, hb0⟩
      have e1 := box_only hb0
      have hB1 : Below w.heap.size w w1 := ((Below.refl _ _).alloc (Nat.le_refl _) _).trans (hb0.mono (by simp))
      have p0 : w1.cell? ⟨w.heap.size, 0, none⟩ = some (.slice sa0 n.defs.length sc0) := by simp [World.cell?, e1]
      have p1 : w1.cell? ⟨w.heap.size, 1, none⟩ = some (.slice sa1 n.comps.length sc1) := by simp [World.cell?, e1]
      have p2 : w1.cell? ⟨w.heap.size, 2, none⟩ = some (.slice sa2 n.meets.length sc2) := by simp [World.cell?, e1]
      have p3 : w1.cell? ⟨w.heap.size, 3, none⟩ = some (.slice sa3 n.allow.length sc3) := by simp [World.cell?, e1]
      have p4 : w1.cell? ⟨w.heap.size, 4, none⟩ = some (.slice sa4 n.hide.length sc4) := by simp [World.cell?, e1]
      go_wp2_with fail
      refine (szCp_any _ _ (l - (totDf n.defs : Int)) _ (by omega) (by omega) K1.out (H1.out.keep (Keep.of_below _ _ hB1))).mono ?_
      rw [cut_no (by omega)]
      rintro e w2 ⟨rfl, hb1⟩
      have e1 := (hb1.block _ (lt_of_some e1)).trans e1
      have hB2 : Below w.heap.size w w2 := hB1.trans (hb1.mono hB1.size)
      have p0 : w2.cell? ⟨w.heap.size, 0, none⟩ = some (.slice sa0 n.defs.length sc0) := by simp [World.cell?, e1]
      have p1 : w2.cell? ⟨w.heap.size, 1, none⟩ = some (.slice sa1 n.comps.length sc1) := by simp [World.cell?, e1]
      have p2 : w2.cell? ⟨w.heap.size, 2, none⟩ = some (.slice sa2 n.meets.length sc2) := by simp [World.cell?, e1]
      have p3 : w2.cell? ⟨w.heap.size, 3, none⟩ = some (.slice sa3 n.allow.length sc3) := by simp [World.cell?, e1]
      have p4 : w2.cell? ⟨w.heap.size, 4, none⟩ = some (.slice sa4 n.hide.length sc4) := by simp [World.cell?, e1]
      go_wp2_with fail
      go_ret
      exact ⟨rfl, hB2⟩
  · have y0 : (l - (totDf n.defs : Int) < 0) := by omega
    rw [cut_no (by rw [Hw.out]; omega)]
    clear Hw
    go_enter Try.func16, Try.ntmps16
    go_wp2_with fail
    refine (szDf_any _ _ (l) _ (by omega) (by omega) K0.out (H0.out.keep (Keep.of_below _ _ ((Below.refl _ _).alloc (Nat.le_refl _) _)))).mono ?_
    rw [cut_no (by omega)]
    rintro e w1 ⟨rfl, hb0⟩
    have e1 := box_only hb0
    have hB1 : Below w.heap.size w w1 := ((Below.refl _ _).alloc (Nat.le_refl _) _).trans (hb0.mono (by simp))
    have p0 : w1.cell? ⟨w.heap.size, 0, none⟩ = some (.slice sa0 n.defs.length sc0) := by simp [World.cell?, e1]
    have p1 : w1.cell? ⟨w.heap.size, 1, none⟩ = some (.slice sa1 n.comps.length sc1) := by simp [World.cell?, e1]
    have p2 : w1.cell? ⟨w.heap.size, 2, none⟩ = some (.slice sa2 n.meets.length sc2) := by simp [World.cell?, e1]
    have p3 : w1.cell? ⟨w.heap.size, 3, none⟩ = some (.slice sa3 n.allow.length sc3) := by simp [World.cell?, e1]
    have p4 : w1.cell? ⟨w.heap.size, 4, none⟩ = some (.slice sa4 n.hide.length sc4) := by simp [World.cell?, e1]
    go_wp2_with fail
    go_ret
    exact ⟨rfl, hB1⟩
end Go.Proofs.Ytdlldgenkmngiaa
