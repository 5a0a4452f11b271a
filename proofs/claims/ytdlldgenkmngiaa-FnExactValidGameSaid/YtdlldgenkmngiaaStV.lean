/- Contracts: whether a game is valid, of the program and of the reference. -/
import Derived.Test.YtdlldgenkmngiaaProg
import Derived.Test.YtdlldgenkmngiaaMem
import Derived.Test.YtdlldgenkmngiaaMath
import Derived.Test.YtdlldgenkmngiaaBasics
import Derived.Test.YtdlldgenkmngiaaOpenI
import Derived.Test.YtdlldgenkmngiaaHelpI
import Derived.Test.YtdlldgenkmngiaaGrid
import Derived.Test.YtdlldgenkmngiaaRows2
import Derived.Test.YtdlldgenkmngiaaSt
import Derived.Test.YtdlldgenkmngiaaStP
import Derived.WalkKit
import Derived.BigQuiet
import Derived.BigRegion
import Derived.Deep.QuietTactic
import Derived.Lib.Hide
import Derived.Outline
set_option linter.unusedVariables false
set_option linter.unusedSimpArgs false
namespace Go.Proofs.Ytdlldgenkmngiaa
open Go.RowKit

/-- Item i is in range, and greater than the one ahead of it; the first k items are so; all are. -/
def risAt (xs : List Int) (h : Int) (i : Nat) : Bool := inR (nth xs i) 0 h && (decide (i = 0) || decide (nth xs (i - 1) < nth xs i))
def risB (xs : List Int) (h : Int) : Bool := (List.range xs.length).all (risAt xs h)
theorem ris_hit {xs : List Int} {h : Int} {k : Nat} (hk : k < xs.length) (hp : risAt xs h k = false) : risB xs h = false := by
  cases hq : risB xs h with
  | false => rfl
  | true =>
    have := List.all_eq_true.1 hq k (List.mem_range.2 hk)
    rw [hp] at this; cases this
theorem ris_good {xs : List Int} {h : Int} (hp : ∀ k, k < xs.length → risAt xs h k = true) : risB xs h = true :=
  List.all_eq_true.2 fun k hk => hp k (List.mem_range.1 hk)
theorem ris_next {P : Nat → Prop} {k : Nat} (h : ∀ i, i < k → P i) (hk : P k) : ∀ i, i < k + 1 → P i := fun i hi => by
  by_cases e : i = k
  · rw [e]; exact hk
  · exact h i (by omega)
theorem ris_out {xs : List Int} {h : Int} {k : Nat} (hr : inR (nth xs k) 0 h = false) : risAt xs h k = false := by unfold risAt; rw [hr]; rfl
theorem ris_zero {xs : List Int} {h : Int} (hr : inR (nth xs 0) 0 h = true) : risAt xs h 0 = true := by unfold risAt; rw [hr]; rfl
theorem ris_up {xs : List Int} {h : Int} {k : Nat} (hr : inR (nth xs (k + 1)) 0 h = true) (hlt : nth xs k < nth xs (k + 1)) : risAt xs h (k + 1) = true := by
  unfold risAt
  rw [hr, Nat.add_sub_cancel, decide_eq_true hlt]; simp
theorem ris_down {xs : List Int} {h : Int} {k : Nat} (hlt : ¬ nth xs k < nth xs (k + 1)) : risAt xs h (k + 1) = false := by
  unfold risAt
  rw [Nat.add_sub_cancel, decide_eq_false hlt, decide_eq_false (Nat.succ_ne_zero k)]; simp
def vxOk (L : Nat) (v : Vx) : Bool := inR v.own 0 1 && inR v.pri 0 9 && risB v.nxt ((L : Int) - 1)
def gameB (f : List Vx) : Bool := decide (1 ≤ f.length ∧ f.length ≤ 120) && f.all (vxOk f.length)
def badV (L : Nat) (v : Vx) : Bool := !vxOk L v
set_option maxRecDepth 100000 in
set_option maxHeartbeats 800000 in
theorem increasing_any (v : Value) (xs : List Int) (L : Nat) (w : World) (hL : L ≤ 1048576) (hn : xs.length ≤ 1048576) (hv : RdI w v xs) :
    Calls Try.prog 27 #[v, .int .i64 L] w fun e w' => e = .returned (.bool (risB xs ((L : Int) - 1))) ∧ w = w' := by
  have HV := Lib.hid hv
  obtain ⟨a, cap, rfl, hcap, hm, _⟩ := hv
  unfold maxLen at hm
  obtain ⟨n, hxn⟩ : ∃ n, n = xs.length := ⟨_, rfl⟩
  rw [← hxn] at hcap hn HV
  have Hxn := Lib.hid hxn
  rw [← hxn]
  clear hxn
  go_enter Try.func27, Try.ntmps27
  go_wp2_with fail
  go_loop [9] (fun si => ∃ k : Nat, k ≤ n ∧ si = .int .i64 k ∧ Hid (∀ i, i < k → risAt xs ((L : Int) - 1) i = true)) (fun si => n - (intOf si).toNat)
  case atStart => exact ⟨0, Nat.zero_le _, rfl, Lib.hid fun i h => absurd h (by omega)⟩
  case round =>
    obtain ⟨k, hk, rfl, HL⟩ := hrel
    by_cases hlt : k < n
    · have hkf : k < xs.length := by rw [← Hxn.out]; exact hlt
      obtain ⟨b, o, rfl, hb, g0⟩ := GI.cells (RdI.gi HV.out) hkf
      cases hr : inR (nth xs k) 0 ((L : Int) - 1) with
      | false =>
        have HF := Lib.hid (ris_hit hkf (ris_out hr))
        obtain ⟨Y, hY⟩ : ∃ Y, Y = nth xs k := ⟨_, rfl⟩
        rw [← hY] at g0 hr
        clear hY
        go_wp2_with fail
        refine (index_any Y L _ (by omega) (by omega)).mono ?_
        rw [hr]
        rintro e w' ⟨rfl, rfl⟩
        go_wp2_with fail
        go_ret
        exact ⟨by rw [HF.out]; rfl, rfl⟩
      | true =>
        cases k with
        | zero =>
          have HN := Lib.hid (ris_next HL.out (ris_zero hr))
          obtain ⟨Y, hY⟩ : ∃ Y, Y = nth xs 0 := ⟨_, rfl⟩
          rw [Nat.add_zero] at g0
          rw [← hY] at g0 hr
          clear hY
          go_wp2_with fail
          refine (index_any Y L _ (by omega) (by omega)).mono ?_
          rw [hr]
          rintro e w' ⟨rfl, rfl⟩
          go_wp2_with fail
          go_round
          case rel => exact ⟨1, by omega, by go_num, HN⟩
          case measure => simp [intOf]; omega
        | succ k =>
          obtain ⟨b', o', e', _, g1⟩ := GI.cells (RdI.gi HV.out) (show k < xs.length by omega)
          cases e'
          have hk1 : (((k + 1 : Nat) : Int) - 1) = (k : Int) := by omega
          by_cases hup : nth xs k < nth xs (k + 1)
          · have HN := Lib.hid (ris_next HL.out (ris_up hr hup))
            obtain ⟨Y, hY⟩ : ∃ Y, Y = nth xs (k + 1) := ⟨_, rfl⟩
            obtain ⟨Z, hZ⟩ : ∃ Z, Z = nth xs k := ⟨_, rfl⟩
            rw [← hY] at g0 hr hup
            rw [← hZ] at g1 hup
            have hnl : ¬ Y ≤ Z := by omega
            clear hY hZ hup
            go_wp2_with fail
            refine (index_any Y L _ (by omega) (by omega)).mono ?_
            rw [hr]
            rintro e w' ⟨rfl, rfl⟩
            go_wp2_with fail
            go_round
            case rel => exact ⟨k + 1 + 1, by omega, by go_num, HN⟩
            case measure => simp [intOf]; omega
          · have HF := Lib.hid (ris_hit hkf (ris_down (h := (L : Int) - 1) hup))
            obtain ⟨Y, hY⟩ : ∃ Y, Y = nth xs (k + 1) := ⟨_, rfl⟩
            obtain ⟨Z, hZ⟩ : ∃ Z, Z = nth xs k := ⟨_, rfl⟩
            rw [← hY] at g0 hr hup
            rw [← hZ] at g1 hup
            have hnl : Y ≤ Z := by omega
            clear hY hZ hup
            go_wp2_with fail
            refine (index_any Y L _ (by omega) (by omega)).mono ?_
            rw [hr]
            rintro e w' ⟨rfl, rfl⟩
            go_wp2_with fail
            go_ret
            exact ⟨by rw [HF.out]; rfl, rfl⟩
    · obtain rfl : k = n := by omega
      have HG := Lib.hid (ris_good (h := (L : Int) - 1) fun i hi => HL.out i (by rw [Hxn.out]; exact hi))
      go_wp2_with fail
      go_ret
      exact ⟨by rw [HG.out]; rfl, rfl⟩
set_option maxRecDepth 100000 in
set_option maxHeartbeats 800000 in
theorem vg1_any (v : Vx) (sa : Option Addr) (sc gb : Nat) (ga : Option Addr) (L gc : Nat) (w : World) (hL : L ≤ 1048576) (hn : totI v.nxt ≤ 1048576) {lo hi : Nat} (hs : GI w lo hi (.slice sa v.nxt.length sc) v.nxt) (hg : w.cell? ⟨gb, 0, none⟩ = some (.slice ga L gc)) (hgb : gb < w.heap.size) :
    Calls Try.prog 26 #[.agg #[.int .i64 v.own, .int .i64 v.pri, .slice sa v.nxt.length sc], .pointer (some ⟨gb, 0, none⟩)] w fun e w' => e = .returned (.bool (badV L v)) ∧ Below w.heap.size w w' := by
  have HS := Lib.hid hs
  have hln : v.nxt.length ≤ 1048576 := hn
  have hb0 : ∀ x : Obj, Below w.heap.size w (w.alloc x) := fun x => (Below.refl _ w).alloc (Nat.le_refl _) _
  have hg2 : ∀ x : Obj, (w.alloc x).cell? ⟨gb, 0, none⟩ = some (.slice ga L gc) := fun x => ((hb0 x).cell (p := ⟨gb, 0, none⟩) hgb).trans hg
  have HB : Hid (badV L v = !(inR v.own 0 1 && inR v.pri 0 9 && risB v.nxt ((L : Int) - 1))) := Lib.hid rfl
  rw [HB.out]
  clear HB hs hn hg
  cases h0 : inR v.own 0 1 with
  | false =>
    go_enter Try.func26, Try.ntmps26
    go_wp2_with fail
    refine (within_any v.own 0 1 _).mono ?_
    rw [h0]
    rintro e w' ⟨rfl, rfl⟩
    go_wp2_with fail
    go_ret
    exact ⟨rfl, hb0 _⟩
  | true =>
    cases h1 : inR v.pri 0 9 with
    | false =>
      go_enter Try.func26, Try.ntmps26
      go_wp2_with fail
      refine (within_any v.own 0 1 _).mono ?_
      rw [h0]
      rintro e w' ⟨rfl, rfl⟩
      go_wp2_with fail
      refine (within_any v.pri 0 9 _).mono ?_
      rw [h1]
      rintro e w' ⟨rfl, rfl⟩
      go_wp2_with fail
      go_ret
      exact ⟨rfl, hb0 _⟩
    | true =>
      obtain ⟨R, hR⟩ : ∃ R, R = risB v.nxt ((L : Int) - 1) := ⟨_, rfl⟩
      have HR := Lib.hid hR
      rw [← hR]
      clear hR
      go_enter Try.func26, Try.ntmps26
      go_wp2_with fail
      refine (within_any v.own 0 1 _).mono ?_
      rw [h0]
      rintro e w' ⟨rfl, rfl⟩
      go_wp2_with fail
      refine (within_any v.pri 0 9 _).mono ?_
      rw [h1]
      rintro e w' ⟨rfl, rfl⟩
      go_wp2_with fail
      refine (increasing_any _ v.nxt L _ hL hln (HS.out.keep (Keep.of_below _ _ (hb0 _))).rd).mono ?_
      rw [← HR.out]
      rintro e w' ⟨rfl, rfl⟩
      go_wp2_with fail
      go_ret
      exact ⟨by simp, hb0 _⟩
theorem all_hitV {p : Vx → Bool} {f : List Vx} {k : Nat} (h : k < f.length) (hp : p (gnth vx0 f k) = false) : f.all p = false := by
  cases hq : f.all p with
  | false => rfl
  | true =>
    have := List.all_eq_true.1 hq (gnth vx0 f k) (by rw [gnth_eq _ _ _ h]; exact List.getElem_mem h)
    rw [hp] at this; cases this
theorem all_goodV {p : Vx → Bool} {f : List Vx} (h : ∀ k, k < f.length → p (gnth vx0 f k) = true) : f.all p = true :=
  List.all_eq_true.2 fun x hx => by
    obtain ⟨k, hk, rfl⟩ := List.getElem_of_mem hx
    have := h k hk
    rwa [gnth_eq _ _ _ hk] at this
set_option maxRecDepth 100000 in
set_option maxHeartbeats 1600000 in
theorem vgIndex_any {lo hi : Nat} (v : Value) (f : List Vx) (gb : Nat) (ga : Option Addr) (L gc : Nat) (w : World) (hL : L ≤ 1048576) (hn : totVx f ≤ 1048576) (hv : GVx w lo hi v f) (hg : w.cell? ⟨gb, 0, none⟩ = some (.slice ga L gc)) (hgb : gb < w.heap.size) :
    Calls Try.prog 57 #[v, .func (.func 26) #[] #[.pointer (some ⟨gb, 0, none⟩)]] w fun e w' => ∃ r : Int, e = .returned (.int .i64 r) ∧ decide (0 ≤ r) = !f.all (vxOk L) ∧ Below w.heap.size w w' := by
  have HV := Lib.hid hv
  obtain ⟨a, cap, rfl, hcap, hm⟩ := Rws.slice hv
  unfold maxLen at hm
  unfold totVx at hn
  have hln : f.length ≤ 1048576 := by omega
  have Hwt : Hid (∀ i, i < f.length → wtVx (gnth vx0 f i) ≤ 1048576) := Lib.hid (fun i hi => by
    have h : wtVx (gnth vx0 f i) ≤ _ := sumTo_le (fun i => wtVx (gnth vx0 f i)) hi
    omega)
  obtain ⟨n, hxn⟩ : ∃ n, n = f.length := ⟨_, rfl⟩
  rw [← hxn] at hcap HV hln
  have Hxn := Lib.hid hxn
  rw [← hxn]
  clear hxn hn hv
  go_enter Try.func57, Try.ntmps57
  go_wp2_with fail
  go_loopw [8] (fun si wr => ∃ k : Nat, k ≤ n ∧ si = .int .i64 k ∧ Hid (∀ i, i < k → vxOk L (gnth vx0 f i) = true) ∧ Below w.heap.size w wr) (fun si _ => n - (intOf si).toNat)
  case atStart => exact ⟨0, Nat.zero_le _, rfl, Lib.hid fun i h => absurd h (by omega), Below.refl _ _⟩
  case round =>
    obtain ⟨k, hk, rfl, HL, hbl⟩ := hrel
    by_cases hlt : k < n
    · have hkf : k < f.length := by rw [← Hxn.out]; exact hlt
      obtain ⟨b, o, rfl, hb, g0, g1, ca, cc, g2, gG⟩ := GVx.cells HV.out hkf
      have q0 := (hbl.cell (by exact hb)).trans g0
      have q1 := (hbl.cell (by exact hb)).trans g1
      have q2 := (hbl.cell (by exact hb)).trans g2
      have qg := (hbl.cell (p := ⟨gb, 0, none⟩) hgb).trans hg
      obtain ⟨Y, hY⟩ : ∃ Y, Y = gnth vx0 f k := ⟨_, rfl⟩
      have hwk := Hwt.out k hkf
      rw [← hY] at q0 q1 q2 gG hwk
      have HG := Lib.hid gG
      have HY := Lib.hid hY
      have hgw : gb < wr.heap.size := Nat.lt_of_lt_of_le hgb hbl.size
      clear g0 g1 g2 gG hY
      cases hp : badV L Y with
      | true =>
        have HF : Hid (f.all (vxOk L) = false) := Lib.hid (all_hitV hkf (by rw [← HY.out]; unfold badV at hp; simpa using hp))
        go_wp2_with fail
        refine (vg1_any Y ca cc gb ga L gc _ hL hwk (HG.out.keep (Keep.of_below _ _ hbl)) qg hgw).mono ?_
        rw [hp]
        rintro e w1 ⟨rfl, hb1⟩
        go_wp2_with fail
        go_ret
        exact ⟨k, rfl, by rw [HF.out]; exact decide_eq_true (by omega), below_trans' hbl hb1⟩
      | false =>
        have HN : Hid (∀ i, i < k + 1 → vxOk L (gnth vx0 f i) = true) := Lib.hid (ris_next HL.out (by rw [← HY.out]; unfold badV at hp; simpa using hp))
        go_wp2_with fail
        refine (vg1_any Y ca cc gb ga L gc _ hL hwk (HG.out.keep (Keep.of_below _ _ hbl)) qg hgw).mono ?_
        rw [hp]
        rintro e w1 ⟨rfl, hb1⟩
        go_wp2_with fail
        go_roundw
        case rel => exact ⟨k + 1, by omega, by go_num, HN, below_trans' hbl hb1⟩
        case measure => simp [intOf]; omega
    · obtain rfl : k = n := by omega
      have HG : Hid (f.all (vxOk L) = true) := Lib.hid (all_goodV fun i hi => HL.out i (by rw [Hxn.out]; exact hi))
      go_wp2_with fail
      go_ret
      exact ⟨-1, rfl, by rw [HG.out]; rfl, hbl⟩
theorem vgContains_any {lo hi : Nat} (v : Value) (f : List Vx) (gb : Nat) (ga : Option Addr) (L gc : Nat) (w : World) (hL : L ≤ 1048576) (hn : totVx f ≤ 1048576) (hv : GVx w lo hi v f) (hg : w.cell? ⟨gb, 0, none⟩ = some (.slice ga L gc)) (hgb : gb < w.heap.size) :
    Calls Try.prog 25 #[v, .func (.func 26) #[] #[.pointer (some ⟨gb, 0, none⟩)]] w fun e w' => e = .returned (.bool (!f.all (vxOk L))) ∧ Below w.heap.size w w' := by
  have HV := Lib.hid hv
  obtain ⟨a, cap, rfl, _, _⟩ := Rws.slice hv
  clear hv
  go_enter Try.func25, Try.ntmps25
  go_wp2_with fail
  refine (vgIndex_any _ f gb ga L gc _ hL hn HV.out hg hgb).mono ?_
  rintro e w1 ⟨r, rfl, hr, hb1⟩
  go_wp2_with fail
  go_ret
  exact ⟨by rw [← hr]; rfl, hb1⟩
set_option maxRecDepth 100000 in
set_option maxHeartbeats 800000 in
theorem ValidGame_any {lo hi : Nat} (v : Value) (f : List Vx) (w : World) (hn : totVx f ≤ 1048576) (hv : GVx w lo hi v f) :
    Calls Try.prog 9 #[v] w fun e w' => e = .returned (.bool (gameB f)) ∧ Below w.heap.size w w' := by
  have HV := Lib.hid hv
  obtain ⟨a, cap, rfl, _, _⟩ := Rws.slice hv
  have hln : f.length ≤ 1048576 := by unfold totVx at hn; omega
  obtain ⟨n, hxn⟩ : ∃ n, n = f.length := ⟨_, rfl⟩
  rw [← hxn] at HV hln
  have HW : Hid (inR (n : Int) 1 120 = decide (1 ≤ f.length ∧ f.length ≤ 120)) := Lib.hid (by
    rw [← hxn]
    by_cases h : 1 ≤ n ∧ n ≤ 120
    · rw [decide_eq_true h]; simp [inR]; omega
    · rw [decide_eq_false h]; simp [inR]; omega)
  have Hxn := Lib.hid hxn
  rw [← hxn]
  clear hxn hv
  have hb0 : ∀ x : Obj, Below w.heap.size w (w.alloc x) := fun x => (Below.refl _ w).alloc (Nat.le_refl _) _
  have HA : Hid (gameB f = (inR (n : Int) 1 120 && f.all (vxOk n))) := Lib.hid (by unfold gameB; rw [HW.out, ← Hxn.out])
  cases hw : inR (n : Int) 1 120 with
  | false =>
    have HF : Hid (gameB f = false) := Lib.hid (by rw [HA.out, hw]; rfl)
    rw [HF.out]
    go_enter Try.func9, Try.ntmps9
    go_wp2_with fail
    refine (within_any (n : Int) 1 120 _).mono ?_
    rw [hw]
    rintro e w' ⟨rfl, rfl⟩
    go_wp2_with fail
    go_ret
    exact ⟨rfl, hb0 _⟩
  | true =>
    have HF : Hid (gameB f = f.all (vxOk n)) := Lib.hid (by rw [HA.out, hw]; rfl)
    rw [HF.out]
    obtain ⟨R, hR⟩ : ∃ R, R = f.all (vxOk n) := ⟨_, rfl⟩
    have HR := Lib.hid hR
    rw [← hR]
    clear hR
    go_enter Try.func9, Try.ntmps9
    go_wp2_with fail
    refine (within_any (n : Int) 1 120 _).mono ?_
    rw [hw]
    rintro e w' ⟨rfl, rfl⟩
    go_wp2_with fail
    refine (vgContains_any _ f w.heap.size a n cap _ hln hn (HV.out.keep (Keep.of_below _ _ (hb0 _))) ?hc ?hl).mono ?_
    case hc => exact (cell_of_row _ _ _ _ _ _ (heap_alloc_new w _)).trans rfl
    case hl => simp
    rw [← HR.out]
    rintro e w1 ⟨rfl, hb1⟩
    go_wp2_with fail
    go_ret
    exact ⟨by simp, (hb0 _).trans (hb1.mono (hb0 _).size)⟩
set_option maxRecDepth 100000 in
set_option maxHeartbeats 1600000 in
theorem l00Rises_any (v : Value) (xs : List Int) (h : Int) (w : World) (hn : xs.length ≤ 1048576) (hv : RdI w v xs) :
    Calls Try.prog 55 #[v, .int .i64 0, .int .i64 h] w fun e w' => e = .returned (.bool (risB xs h)) ∧ ∃ m, w' = w.drewN m := by
  have HV := Lib.hid (RdI.gi hv)
  obtain ⟨a, cap, rfl, hcap, hm, _⟩ := hv
  unfold maxLen at hm
  obtain ⟨n, hxn⟩ : ∃ n, n = xs.length := ⟨_, rfl⟩
  rw [← hxn] at hcap hn HV
  have Hxn := Lib.hid hxn
  rw [← hxn]
  clear hxn
  go_enter Try.func55, Try.ntmps55
  go_wp2_with fail
  go_loopw [7] (fun si wr => ∃ k : Nat, k ≤ n ∧ si = .int .i64 k ∧ Hid (∀ i, i < k → risAt xs h i = true) ∧ ∃ m, wr = w.drewN m) (fun si _ => n - (intOf si).toNat)
  case atStart => exact ⟨0, Nat.zero_le _, rfl, Lib.hid fun i h => absurd h (by omega), 0, rfl⟩
  case round =>
    obtain ⟨k, hk, rfl, HL, hmm⟩ := hrel
    have hbl : Below w.heap.size w wr := by obtain ⟨m, e⟩ := hmm; rw [e]; exact ⟨rfl, rfl, rfl, Nat.le_refl _, fun _ _ => rfl⟩
    have Hmm := Lib.hid hmm
    clear hmm
    by_cases hlt : k < n
    · have hkf : k < xs.length := by rw [← Hxn.out]; exact hlt
      obtain ⟨b, o, rfl, hb, g0⟩ := GI.cells HV.out hkf
      replace g0 := (hbl.cell (by exact hb)).trans g0
      cases hr : inR (nth xs k) 0 h with
      | false =>
        have HF := Lib.hid (ris_hit hkf (ris_out hr))
        obtain ⟨Y, hY⟩ : ∃ Y, Y = nth xs k := ⟨_, rfl⟩
        rw [← hY] at g0 hr
        clear hY
        have HC : Hid (∀ q, Calls Try.prog 54 #[.int .i64 Y, .int .i64 0, .int .i64 h] (wr.drewN q) fun e w' => e = .returned (.bool false) ∧ w' = wr.drewN q) := Lib.hid fun q => (l00In_any Y 0 h _).mono fun e w' hh => ⟨by rw [hh.1, hr], hh.2.symm⟩
        go_wp2_with fail
        go_quiet ((go_at_call 54; exact Calls.quiet_of_same (HC.out _)))
        go_wp2_with fail
        go_ret
        rw [HF.out]
        exact ⟨rfl, by obtain ⟨m, e⟩ := Hmm.out; exact ⟨m + nq, by rw [e]; exact World.drewN_drewN _ _ _⟩⟩
      | true =>
        cases k with
        | zero =>
          have HN := Lib.hid (ris_next HL.out (ris_zero hr))
          obtain ⟨Y, hY⟩ : ∃ Y, Y = nth xs 0 := ⟨_, rfl⟩
          rw [Nat.add_zero] at g0
          rw [← hY] at g0 hr
          clear hY
          have HC : Hid (∀ q, Calls Try.prog 54 #[.int .i64 Y, .int .i64 0, .int .i64 h] (wr.drewN q) fun e w' => e = .returned (.bool true) ∧ w' = wr.drewN q) := Lib.hid fun q => (l00In_any Y 0 h _).mono fun e w' hh => ⟨by rw [hh.1, hr], hh.2.symm⟩
          go_wp2_with fail
          go_quiet ((go_at_call 54; exact Calls.quiet_of_same (HC.out _)))
          go_wp2_with fail
          go_roundw
          case rel => exact ⟨1, by omega, by go_num, HN, by obtain ⟨m, e⟩ := Hmm.out; exact ⟨m + nq, by rw [e]; exact World.drewN_drewN _ _ _⟩⟩
          case measure => simp [intOf]; omega
        | succ k =>
          obtain ⟨b', o', e', _, g1⟩ := GI.cells HV.out (show k < xs.length by omega)
          cases e'
          replace g1 := (hbl.cell (by exact hb)).trans g1
          have hk1 : (((k + 1 : Nat) : Int) - 1) = (k : Int) := by omega
          have hkn : k < n := by omega
          obtain ⟨Y, hY⟩ : ∃ Y, Y = nth xs (k + 1) := ⟨_, rfl⟩
          obtain ⟨Z, hZ⟩ : ∃ Z, Z = nth xs k := ⟨_, rfl⟩
          have HN : Hid (Z < Y → ∀ i, i < k + 1 + 1 → risAt xs h i = true) := Lib.hid fun hup => ris_next HL.out (ris_up hr (by rw [← hY, ← hZ]; exact hup))
          have HF : Hid (¬ Z < Y → risB xs h = false) := Lib.hid fun hup => ris_hit hkf (ris_down (h := h) (by rw [← hY, ← hZ]; exact hup))
          rw [← hY] at g0 hr
          rw [← hZ] at g1
          clear hY hZ
          have HC : Hid (∀ q, Calls Try.prog 54 #[.int .i64 Y, .int .i64 0, .int .i64 h] (wr.drewN q) fun e w' => e = .returned (.bool true) ∧ w' = wr.drewN q) := Lib.hid fun q => (l00In_any Y 0 h _).mono fun e w' hh => ⟨by rw [hh.1, hr], hh.2.symm⟩
          obtain ⟨K, hK⟩ : ∃ K, K = k + 1 := ⟨_, rfl⟩
          rw [← hK] at hlt hk hk1 g0 HN ⊢
          have hkw : IntKind.i64.wrap ((K : Int) - 1) = (k : Int) := by rw [IntKind.wrap_i64]; omega
          have hK0 : 0 < K := by omega
          have hKd : decide (0 < K) = true := decide_eq_true hK0
          clear hK
          by_cases hup : Z < Y
          · have HN2 := Lib.hid (HN.out hup)
            have hnl : ¬ Y ≤ Z := by omega
            have hnd : decide (Y ≤ Z) = false := decide_eq_false hnl
            clear HN HF hup
            go_wp2_with fail
            go_quiet ((go_at_call 54; exact Calls.quiet_of_same (HC.out _)))
            go_wp2_with fail
            go_roundw
            case rel => exact ⟨K + 1, by omega, by go_num, HN2, by obtain ⟨m, e⟩ := Hmm.out; exact ⟨m + nq, by rw [e]; exact World.drewN_drewN _ _ _⟩⟩
            case measure => simp [intOf]; omega
          · have HF2 := Lib.hid (HF.out hup)
            have hnl : Y ≤ Z := by omega
            have hnd : decide (Y ≤ Z) = true := decide_eq_true hnl
            clear HN HF hup
            go_wp2_with fail
            go_quiet ((go_at_call 54; exact Calls.quiet_of_same (HC.out _)))
            go_wp2_with fail
            go_ret
            rw [HF2.out]
            exact ⟨rfl, by obtain ⟨m, e⟩ := Hmm.out; exact ⟨m + nq, by rw [e]; exact World.drewN_drewN _ _ _⟩⟩
    · obtain rfl : k = n := by omega
      have HG := Lib.hid (ris_good (h := h) fun i hi => HL.out i (by rw [Hxn.out]; exact hi))
      go_wp2_with fail
      go_ret
      exact ⟨by rw [HG.out]; rfl, Hmm.out⟩
set_option maxRecDepth 100000 in
set_option maxHeartbeats 1600000 in
theorem l23Is_any {lo hi : Nat} (v : Value) (f : List Vx) (w : World) (hn : totVx f ≤ 1048576) (hv : GVx w lo hi v f) :
    Calls Try.prog 22 #[v] w fun e w' => e = .returned (.bool (gameB f)) ∧ ∃ m, w' = w.drewN m := by
  have HV := Lib.hid hv
  obtain ⟨a, cap, rfl, hcap, hm⟩ := Rws.slice hv
  unfold maxLen at hm
  unfold totVx at hn
  have hln : f.length ≤ 1048576 := by omega
  have Hwt : Hid (∀ i, i < f.length → wtVx (gnth vx0 f i) ≤ 1048576) := Lib.hid (fun i hi => by
    have h : wtVx (gnth vx0 f i) ≤ _ := sumTo_le (fun i => wtVx (gnth vx0 f i)) hi
    omega)
  obtain ⟨n, hxn⟩ : ∃ n, n = f.length := ⟨_, rfl⟩
  rw [← hxn] at hcap HV hln
  have Hxn := Lib.hid hxn
  rw [← hxn]
  clear hxn hn hv
  by_cases hw : 1 ≤ n ∧ n ≤ 120
  case neg =>
    have HF : Hid (gameB f = false) := Lib.hid (by unfold gameB; rw [← Hxn.out, decide_eq_false hw]; rfl)
    rw [HF.out]
    by_cases h0 : n = 0
    · subst h0
      clear hw
      go_enter Try.func22, Try.ntmps22
      go_wp2_with fail
      go_ret
      exact ⟨rfl, 0, rfl⟩
    · have h1 : ((n : Int) == 0) = false := by simp; omega
      have h2 : (120 : Int) < (n : Int) := by omega
      clear hw h0
      go_enter Try.func22, Try.ntmps22
      go_wp2_with fail
      go_ret
      exact ⟨rfl, 0, rfl⟩
  have HA : Hid (gameB f = f.all (vxOk n)) := Lib.hid (by unfold gameB; rw [← Hxn.out, decide_eq_true hw]; rfl)
  rw [HA.out]
  have h1 : ((n : Int) == 0) = false := by simp; omega
  have h2 : ¬ (120 : Int) < (n : Int) := by omega
  have hnw : IntKind.i64.wrap ((n : Int) - 1) = (n : Int) - 1 := by rw [IntKind.wrap_i64]; omega
  clear hw
  go_enter Try.func22, Try.ntmps22
  go_wp2_with fail
  go_loopw [3] (fun si wr => ∃ k : Nat, k ≤ n ∧ si = .int .i64 k ∧ Hid (∀ i, i < k → vxOk n (gnth vx0 f i) = true) ∧ ∃ m, wr = w.drewN m) (fun si _ => n - (intOf si).toNat)
  case atStart => exact ⟨0, Nat.zero_le _, rfl, Lib.hid fun i h => absurd h (by omega), 0, rfl⟩
  case round =>
    obtain ⟨k, hk, rfl, HL, hmm⟩ := hrel
    have hbl : Below w.heap.size w wr := by obtain ⟨m, e⟩ := hmm; rw [e]; exact ⟨rfl, rfl, rfl, Nat.le_refl _, fun _ _ => rfl⟩
    have Hmm := Lib.hid hmm
    clear hmm
    by_cases hlt : k < n
    · have hkf : k < f.length := by rw [← Hxn.out]; exact hlt
      obtain ⟨b, o, rfl, hb, g0, g1, ca, cc, g2, gG⟩ := GVx.cells HV.out hkf
      have q0 := (hbl.cell (by exact hb)).trans g0
      have q1 := (hbl.cell (by exact hb)).trans g1
      have q2 := (hbl.cell (by exact hb)).trans g2
      obtain ⟨Y, hY⟩ : ∃ Y, Y = gnth vx0 f k := ⟨_, rfl⟩
      have hwk := Hwt.out k hkf
      rw [← hY] at q0 q1 q2 gG hwk
      have hyl : Y.nxt.length ≤ 1048576 := hwk
      have HG := Lib.hid gG
      have HY := Lib.hid hY
      have HV2 : Hid (vxOk n Y = (inR Y.own 0 1 && inR Y.pri 0 9 && risB Y.nxt ((n : Int) - 1))) := Lib.hid rfl
      clear g0 g1 g2 gG hY hwk
      have HF : Hid (vxOk n Y = false → f.all (vxOk n) = false) := Lib.hid fun h => all_hitV hkf (by rw [← HY.out]; exact h)
      cases h0 : inR Y.own 0 1 with
      | false =>
        have HF2 := Lib.hid (HF.out (by rw [HV2.out, h0]; rfl))
        go_wp2_with fail
        refine (l00In_any Y.own 0 1 _).mono ?_
        rw [h0]
        rintro e w' ⟨rfl, rfl⟩
        go_wp2_with fail
        go_ret
        exact ⟨by rw [HF2.out]; rfl, Hmm.out⟩
      | true =>
        cases h1' : inR Y.pri 0 9 with
        | false =>
          have HF2 := Lib.hid (HF.out (by rw [HV2.out, h0, h1']; rfl))
          go_wp2_with fail
          refine (l00In_any Y.own 0 1 _).mono ?_
          rw [h0]
          rintro e w' ⟨rfl, rfl⟩
          go_wp2_with fail
          refine (l00In_any Y.pri 0 9 _).mono ?_
          rw [h1']
          rintro e w' ⟨rfl, rfl⟩
          go_wp2_with fail
          go_ret
          exact ⟨by rw [HF2.out]; rfl, Hmm.out⟩
        | true =>
          cases h2' : risB Y.nxt ((n : Int) - 1) with
          | false =>
            have HF2 := Lib.hid (HF.out (by rw [HV2.out, h0, h1', h2']; rfl))
            go_wp2_with fail
            refine (l00In_any Y.own 0 1 _).mono ?_
            rw [h0]
            rintro e w' ⟨rfl, rfl⟩
            go_wp2_with fail
            refine (l00In_any Y.pri 0 9 _).mono ?_
            rw [h1']
            rintro e w' ⟨rfl, rfl⟩
            go_wp2_with fail
            refine (l00Rises_any _ Y.nxt _ _ hyl (HG.out.keep (Keep.of_below _ _ hbl)).rd).mono ?_
            rw [h2']
            rintro e w' ⟨rfl, m2, rfl⟩
            go_wp2_with fail
            go_ret
            exact ⟨by rw [HF2.out]; rfl, by obtain ⟨m, e⟩ := Hmm.out; exact ⟨m + m2, by rw [e]; exact World.drewN_drewN _ _ _⟩⟩
          | true =>
            have HN : Hid (∀ i, i < k + 1 → vxOk n (gnth vx0 f i) = true) := Lib.hid (ris_next HL.out (by rw [← HY.out, HV2.out, h0, h1', h2']; rfl))
            go_wp2_with fail
            refine (l00In_any Y.own 0 1 _).mono ?_
            rw [h0]
            rintro e w' ⟨rfl, rfl⟩
            go_wp2_with fail
            refine (l00In_any Y.pri 0 9 _).mono ?_
            rw [h1']
            rintro e w' ⟨rfl, rfl⟩
            go_wp2_with fail
            refine (l00Rises_any _ Y.nxt _ _ hyl (HG.out.keep (Keep.of_below _ _ hbl)).rd).mono ?_
            rw [h2']
            rintro e w' ⟨rfl, m2, rfl⟩
            go_wp2_with fail
            go_roundw
            case rel => exact ⟨k + 1, by omega, by go_num, HN, by obtain ⟨m, e⟩ := Hmm.out; exact ⟨m + m2, by rw [e]; exact World.drewN_drewN _ _ _⟩⟩
            case measure => simp [intOf]; omega
    · obtain rfl : k = n := by omega
      have HG : Hid (f.all (vxOk k) = true) := Lib.hid (all_goodV fun i hi => HL.out i (by rw [Hxn.out]; exact hi))
      go_wp2_with fail
      go_ret
      exact ⟨by rw [HG.out]; rfl, Hmm.out⟩
theorem spec_ValidGame_any {lo hi : Nat} (v : Value) (f : List Vx) (w : World) (hn : totVx f ≤ 1048576) (hv : GVx w lo hi v f) :
    Calls Try.prog 7 #[v] w fun e w' => e = .returned (.bool (gameB f)) ∧ Below w.heap.size w w' := by
  go_enter Try.func7, Try.ntmps7
  go_wp2_with fail
  refine (calls_below (l23Is_any v f _ hn hv)).mono ?_
  rintro e w1 ⟨rfl, hb1⟩
  go_wp2_with fail
  go_ret
  exact ⟨rfl, hb1⟩
end Go.Proofs.Ytdlldgenkmngiaa
