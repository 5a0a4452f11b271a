/- Contracts: words of a regular expression, by the program: labels, and the test of a place. -/
import Derived.Test.YtcakmchefbohoaaGreatDoorProg
import Derived.Test.YtcakmchefbohoaaGreatDoorMem
import Derived.Test.YtcakmchefbohoaaGreatDoorMath
import Derived.Test.YtcakmchefbohoaaGreatDoorBasics
import Derived.Test.YtcakmchefbohoaaGreatDoorOpenI
import Derived.Test.YtcakmchefbohoaaGreatDoorHelpI
import Derived.Test.YtcakmchefbohoaaGreatDoorGrid
import Derived.Test.YtcakmchefbohoaaGreatDoorLab
import Derived.Test.YtcakmchefbohoaaGreatDoorEnv
import Derived.Test.YtcakmchefbohoaaGreatDoorRLab
import Derived.Test.YtcakmchefbohoaaGreatDoorDec
import Derived.Test.YtcakmchefbohoaaGreatDoorReg
import Derived.Test.YtcakmchefbohoaaGreatDoorVReg
import Derived.Test.YtcakmchefbohoaaGreatDoorTreeR
import Derived.Test.YtcakmchefbohoaaGreatDoorConc
import Derived.Test.YtcakmchefbohoaaGreatDoorEmp
import Derived.Test.YtcakmchefbohoaaGreatDoorPart
import Derived.Test.YtcakmchefbohoaaGreatDoorSel
import Derived.Test.YtcakmchefbohoaaGreatDoorMwP
import Derived.Test.YtcakmchefbohoaaGreatDoorMwS
import Derived.Test.YtcakmchefbohoaaGreatDoorRgs
import Derived.WalkKit
import Derived.BigQuiet
import Derived.BigRegion
import Derived.Deep.QuietTactic
import Derived.Deep.RegionHeld3
import Derived.Deep.RegionLaw
import Derived.Deep.AppendLies
import Derived.Maps.AppendAt
import Derived.Laws.OwnMore
import Derived.Lib.SliceRun
import Derived.Lib.Hide
import Derived.Outline
set_option linter.unusedVariables false
set_option linter.unusedSimpArgs false
namespace Go.Proofs.YtcakmchefbohoaaGreatDoor
open Go.RowKit

theorem drw (w : World) : Below w.heap.size w w.drew := ⟨rfl, rfl, rfl, Nat.le_refl _, fun _ _ => rfl⟩
theorem alc (w : World) (o : Obj) : Below w.heap.size w (w.alloc o) := (Below.refl _ _).alloc (Nat.le_refl _) _
theorem cell_up {w w' : World} {b o : Nat} {v : Value} (h : w.cell? ⟨b, o, none⟩ = some v) (hb : Below w.heap.size w w') : w'.cell? ⟨b, o, none⟩ = some v := (hb.cell (p := ⟨b, o, none⟩) (World.block_lt_of_cell? w ⟨b, o, none⟩ h)).trans h
theorem sall_next {p : ByteArray → Bool} {xs : List ByteArray} {k : Nat} (h : k < xs.length) (h0 : (xs.take k).all p = true) (hp : p (snth xs k) = true) : (xs.take (k + 1)).all p = true := by
  rw [take_snth xs k h, List.all_append, h0]
  simp [hp]
theorem sall_hit {p : ByteArray → Bool} {xs : List ByteArray} {k : Nat} (h : k < xs.length) (hp : p (snth xs k) = false) : xs.all p = false := by
  rw [List.all_eq_false]
  exact ⟨snth xs k, by rw [snth_eq xs k h]; exact List.getElem_mem h, by rw [hp]; decide⟩
theorem areLab1_any (s : ByteArray) (w : World) (hs : s.size ≤ 1048576) (hT : Env w) : Calls Tryz.prog 82 #[.string s] w fun e w' => e = .returned (.bool (!labOk s)) ∧ Below w.heap.size w w' := by
  go_enter Tryz.func82, Tryz.ntmps82
  go_wp2_with fail
  refine (IsLabel_any s _ hs hT).mono ?_
  rintro e w1 ⟨rfl, hb⟩
  go_wp2_with fail
  go_ret
  exact ⟨rfl, hb⟩
set_option maxRecDepth 100000 in
set_option maxHeartbeats 1600000 in
theorem areLab_index (v : Value) (L : List ByteArray) (w : World) (hn : L.length ≤ 1048576) (hls : ∀ i, i < L.length → (snth L i).size ≤ 1048576) (hT : Env w) (hv : RdS w v L) :
    Calls Tryz.prog 124 #[v, .func (.func 82) #[] #[]] w fun e w' => ∃ r : Int, e = .returned (.int .i64 r) ∧ decide (0 ≤ r) = !L.all labOk ∧ Below w.heap.size w w' := by
  have HLS := Lib.hid hls
  have HT := Lib.hid hT
  obtain ⟨a, cap, rfl, hcap, hm, hv⟩ := hv
  obtain ⟨n, hxn⟩ : ∃ n, n = L.length := ⟨_, rfl⟩
  rw [← hxn] at hcap hv hn ⊢
  have Hxn := Lib.hid hxn
  clear hxn hls hT
  go_enter Tryz.func124, Tryz.ntmps124
  go_wp2_with fail
  go_loopw [8] (fun si wr => ∃ k : Nat, k ≤ n ∧ si = .int .i64 k ∧ Hid ((L.take k).all labOk = true) ∧ Below w.heap.size w wr) (fun si _ => n - (intOf si).toNat)
  case atStart => exact ⟨0, Nat.zero_le _, rfl, Lib.hid rfl, Below.refl _ _⟩
  case round =>
    obtain ⟨k, hk, rfl, HL, hbl⟩ := hrel
    by_cases hlt : k < n
    · obtain ⟨b, o, rfl, hb, hc⟩ := hv (by omega)
      have hg : wr.cell? ⟨b, o + k, none⟩ = some (.string (snth L k)) := (hbl.cell (by exact hb)).trans (hc k (by omega))
      have hkL : k < L.length := by rw [← Hxn.out]; exact hlt
      clear hc
      cases hp : labOk (snth L k) with
      | true =>
        have H2 := Lib.hid (sall_next hkL HL.out hp)
        go_wp2_with fail
        refine (areLab1_any _ _ (HLS.out k hkL) (HT.out.below hbl)).mono ?_
        rw [hp]
        rintro e w1 ⟨rfl, hb1⟩
        have hbl1 := below_trans' hbl hb1
        clear HL hp hg hbl
        go_wp2_with fail
        go_roundw
        case rel => exact ⟨k + 1, by omega, by go_num, H2, hbl1⟩
        case measure => simp [intOf] <;> omega
      | false =>
        have H2 := Lib.hid (sall_hit hkL hp)
        go_wp2_with fail
        refine (areLab1_any _ _ (HLS.out k hkL) (HT.out.below hbl)).mono ?_
        rw [hp]
        rintro e w1 ⟨rfl, hb1⟩
        have hbl1 := below_trans' hbl hb1
        clear HL hp hg hbl
        go_wp2_with fail
        go_ret
        exact ⟨k, rfl, by rw [H2.out]; exact decide_eq_true (by omega), hbl1⟩
    · obtain rfl : k = n := by omega
      have H2 : Hid (L.all labOk = true) := Lib.hid (by have := HL.out; rwa [List.take_of_length_le (by rw [Hxn.out]; exact Nat.le_refl _)] at this)
      go_wp2_with fail
      go_ret
      exact ⟨-1, rfl, by rw [H2.out]; rfl, hbl⟩
theorem areLab_contains (v : Value) (L : List ByteArray) (w : World) (hn : L.length ≤ 1048576) (hls : ∀ i, i < L.length → (snth L i).size ≤ 1048576) (hT : Env w) (hv : RdS w v L) :
    Calls Tryz.prog 81 #[v, .func (.func 82) #[] #[]] w fun e w' => e = .returned (.bool (!L.all labOk)) ∧ Below w.heap.size w w' := by
  obtain ⟨a, cap, rfl⟩ := hv.slice
  have HV := Lib.hid hv
  have HLS := Lib.hid hls
  have HT := Lib.hid hT
  clear hv hls hT
  go_enter Tryz.func81, Tryz.ntmps81
  go_wp2_with fail
  refine (areLab_index _ L _ hn HLS.out HT.out HV.out).mono ?_
  rintro e w1 ⟨r, rfl, hr, hb⟩
  go_wp2_with fail
  go_ret
  exact ⟨by rw [← hr]; rfl, hb⟩
theorem areLabels_any (v : Value) (L : List ByteArray) (w : World) (hn : L.length ≤ 1048576) (hls : ∀ i, i < L.length → (snth L i).size ≤ 1048576) (hT : Env w) (hv : RdS w v L) :
    Calls Tryz.prog 48 #[v] w fun e w' => e = .returned (.bool (L.all labOk)) ∧ Below w.heap.size w w' := by
  obtain ⟨a, cap, rfl⟩ := hv.slice
  have HV := Lib.hid hv
  have HLS := Lib.hid hls
  have HT := Lib.hid hT
  clear hv hls hT
  cases hq : L.all labOk with
  | true =>
    go_enter Tryz.func48, Tryz.ntmps48
    go_wp2_with fail
    refine (areLab_contains _ L _ hn HLS.out HT.out HV.out).mono ?_
    rw [hq]
    rintro e w1 ⟨rfl, hb⟩
    go_wp2_with fail
    go_ret
    exact ⟨rfl, hb⟩
  | false =>
    go_enter Tryz.func48, Tryz.ntmps48
    go_wp2_with fail
    refine (areLab_contains _ L _ hn HLS.out HT.out HV.out).mono ?_
    rw [hq]
    rintro e w1 ⟨rfl, hb⟩
    go_wp2_with fail
    go_ret
    exact ⟨rfl, hb⟩
/-- What the test closes over: how many labels there are, and the labels. -/
structure Capt (w : World) (bn bl : Nat) (vl : Value) (L : List ByteArray) : Prop where
  cn : w.cell? ⟨bn, 0, none⟩ = some (.int .i64 L.length)
  cl : w.cell? ⟨bl, 0, none⟩ = some vl
  rd : RdS w vl L
theorem Capt.below {w w' : World} {bn bl : Nat} {vl : Value} {L : List ByteArray} (h : Capt w bn bl vl L) (hb : Below w.heap.size w w') : Capt w' bn bl vl L :=
  ⟨(hb.cell (p := ⟨bn, 0, none⟩) (World.block_lt_of_cell? w ⟨bn, 0, none⟩ h.cn)).trans h.cn, (hb.cell (p := ⟨bl, 0, none⟩) (World.block_lt_of_cell? w ⟨bl, 0, none⟩ h.cl)).trans h.cl, h.rd.below hb⟩
set_option maxRecDepth 100000 in
set_option maxHeartbeats 1600000 in
theorem word1_any (x : Rg) (L : List ByteArray) (l : List Int) (vf vl : Value) (bn bl : Nat) (w : World) (hx : x.lab.size ≤ 1048576) (hn : L.length ≤ 1048576) (hls : ∀ i, i < L.length → (snth L i).size ≤ 1048576) (hln : l.length ≤ 1048576) (hl : ∀ z ∈ l, 0 ≤ z ∧ z ≤ 1048576) (hT : Env w) (hv : RdI w vf l) (hC : Capt w bn bl vl L) :
    Calls Tryz.prog 51 #[.agg #[.int .i64 0, .int .i64 0, .string x.lab, .bool x.neg], vf, .pointer (some ⟨bn, 0, none⟩), .pointer (some ⟨bl, 0, none⟩)] w fun e w' => ∃ u, e = .returned u ∧ OwI w' w.heap.size u (tstL L x l) ∧ Below w.heap.size w w' := by
  have HV := Lib.hid hv
  have HLS := Lib.hid hls
  have HLB := Lib.hid hl
  have HT := Lib.hid hT
  have HC := Lib.hid hC
  obtain ⟨a, cap, rfl, hcap, hcm, _⟩ := hv
  obtain ⟨al, capl, rfl⟩ := hC.rd.slice
  obtain ⟨n, hxn⟩ : ∃ n, n = l.length := ⟨_, rfl⟩
  rw [← hxn] at hcap HV hln ⊢
  have Hxn := Lib.hid hxn
  unfold maxLen at hcm
  obtain ⟨i0, hi, hz0, hz1, hz2⟩ := info_parts infoI64
  have hbA : Below w.heap.size w (w.alloc (.cells #[.int .i64 0, .int .i64 0, .string x.lab, .bool x.neg] 65)) := (Below.refl _ _).alloc (Nat.le_refl _) _
  clear hxn hls hl hT hC
  go_enter Tryz.func51, Tryz.ntmps51
  go_wp2_with fail
  obtain ⟨wA, hwA⟩ : ∃ wA, wA = w.alloc (.cells #[.int .i64 0, .int .i64 0, .string x.lab, .bool x.neg] 65) := ⟨_, rfl⟩
  have hsA : wA.heap.size = w.heap.size + 1 := by rw [hwA]; simp
  have hk : ∀ j u, (#[.int .i64 0, .int .i64 0, .string x.lab, .bool x.neg] : Array Value)[j]? = some u → wA.cell? ⟨w.heap.size, j, none⟩ = some u := fun j u h => by
    rw [hwA, cell_of_row _ _ _ _ _ _ (heap_alloc_new w _)]; exact h
  have n0 := hk 0 _ rfl
  have n1 := hk 1 _ rfl
  have n2 := hk 2 _ rfl
  have n3 := hk 3 _ rfl
  rw [← hwA]
  rw [← hwA] at hbA
  have HVA : Hid (RdI wA (.slice a n cap) l) := Lib.hid (HV.out.below hbA)
  have HCA := Lib.hid (HC.out.below hbA)
  have HTA := Lib.hid (HT.out.below hbA)
  obtain ⟨m, hm⟩ : ∃ m, m = L.length := ⟨_, rfl⟩
  have Hm := Lib.hid hm
  rw [← hm] at hn
  clear HV HC HT hk hwA hm
  go_loopw [7, 12] (fun so si wr => ∃ k D : Nat, k ≤ n ∧ D ≤ k ∧ si = .int .i64 k ∧ Hid (D = (tstL L x (l.take k)).length) ∧ Hid (wr.ownsRow wA.heap.size 2 1 so D ((tstL L x (l.take k)).map (Value.int .i64))) ∧ Below wA.heap.size wA wr) (fun _ si _ => n - (intOf si).toNat)
  case atStart => exact ⟨0, 0, Nat.zero_le _, Nat.le_refl _, rfl, Lib.hid rfl, Lib.hid (World.ownsRow_nil _ _ _ _), Below.refl _ _⟩
  case round =>
    obtain ⟨k, D, hk, hDk, rfl, HD, HO, hbl⟩ := hrel
    obtain ⟨a5, c5, rfl⟩ := owned_slice HO.out
    by_cases hlt : k < n
    · have hkl : k < l.length := by rw [← Hxn.out]; exact hlt
      obtain ⟨a', cap', e', _, _, h3'⟩ := HVA.out
      cases e'
      obtain ⟨b, o, rfl, hb, hc⟩ := h3' (by omega)
      obtain ⟨kz, hkz⟩ : ∃ kz : Nat, nth l k = (kz : Int) := ⟨(nth l k).toNat, by have := (HLB.out (nth l k) (by rw [nth_eq l k hkl]; exact List.getElem_mem hkl)).1; omega⟩
      have hzb := (HLB.out (nth l k) (by rw [nth_eq l k hkl]; exact List.getElem_mem hkl)).2
      rw [hkz] at hzb
      have hg : wr.cell? ⟨b, o + k, none⟩ = some (.int .i64 (kz : Int)) := (hbl.cell (by exact hb)).trans (by have := hc k (by omega); rw [this]; unfold ic; rw [hkz])
      have Htk : Hid (tstL L x (l.take (k + 1)) = tstL L x (l.take k) ++ tstF L x (kz : Int)) := Lib.hid (by rw [tstL_take L x l k hkl, hkz])
      have HCr := HCA.out.below hbl
      have cN := HCr.cn
      have cL := HCr.cl
      rw [← Hm.out] at cN
      obtain ⟨T, hT⟩ : ∃ T, T = tstL L x (l.take k) := ⟨_, rfl⟩
      rw [← hT] at HO HD Htk
      clear h3' hc hT
      by_cases hzm : kz < m
      · have hd : decide ((kz : Int) < (m : Int)) = true := decide_eq_true (by omega)
        obtain ⟨al', cl', el, _, _, hl3⟩ := HCr.rd
        cases el
        obtain ⟨b3, o3, rfl, hb3, hc3⟩ := hl3 (by have := Hm.out; omega)
        have r3 : wr.cell? ⟨b3, o3 + kz, none⟩ = some (.string (snth L kz)) := hc3 kz (by have := Hm.out; omega)
        have q0 := (hbl.cell (p := ⟨w.heap.size, 0, none⟩) (by rw [hsA]; exact Nat.lt_succ_self _)).trans n0
        have q1 := (hbl.cell (p := ⟨w.heap.size, 1, none⟩) (by rw [hsA]; exact Nat.lt_succ_self _)).trans n1
        have q2 := (hbl.cell (p := ⟨w.heap.size, 2, none⟩) (by rw [hsA]; exact Nat.lt_succ_self _)).trans n2
        have q3 := (hbl.cell (p := ⟨w.heap.size, 3, none⟩) (by rw [hsA]; exact Nat.lt_succ_self _)).trans n3
        have hsl := HLS.out kz (by have := Hm.out; omega)
        have HTr := HTA.out.below hbl
        rw [← Hm.out] at cL
        clear hl3 hc3 HCr
        have hbD := drw wr
        cases hsel : selB x.lab x.neg (snth L kz) with
        | true =>
          go_wp2_with fail
          go_region_held3 (fun W => Below wr.heap.size wr W ∧ W.cell? ⟨bn, 0, none⟩ = some (.int .i64 (m : Int)) ∧ W.cell? ⟨bl, 0, none⟩ = some (.slice (some ⟨b3, o3, none⟩) m capl) ∧ W.cell? ⟨w.heap.size, 0, none⟩ = some (.int .i64 0) ∧ W.cell? ⟨w.heap.size, 1, none⟩ = some (.int .i64 0) ∧ W.cell? ⟨w.heap.size, 2, none⟩ = some (.string x.lab) ∧ W.cell? ⟨w.heap.size, 3, none⟩ = some (.bool x.neg) ∧ W.cell? ⟨b3, o3 + kz, none⟩ = some (.string (snth L kz))) ((first | exact hS2 | exact ⟨hbD, cell_up cN hbD, cell_up cL hbD, cell_up q0 hbD, cell_up q1 hbD, cell_up q2 hbD, cell_up q3 hbD, cell_up r3 hbD⟩)) ((first | (go_at_call 52; refine (selects_any 0 0 x.lab x.neg (snth L kz) _ hx hsl (HTr.below hbD)).mono ?_; rw [hsel]; rintro e w2 ⟨rfl, hb2⟩; have hb2r := below_trans' hbD hb2; have hS2 : (fun W => Below wr.heap.size wr W ∧ W.cell? ⟨bn, 0, none⟩ = some (.int .i64 (m : Int)) ∧ W.cell? ⟨bl, 0, none⟩ = some (.slice (some ⟨b3, o3, none⟩) m capl) ∧ W.cell? ⟨w.heap.size, 0, none⟩ = some (.int .i64 0) ∧ W.cell? ⟨w.heap.size, 1, none⟩ = some (.int .i64 0) ∧ W.cell? ⟨w.heap.size, 2, none⟩ = some (.string x.lab) ∧ W.cell? ⟨w.heap.size, 3, none⟩ = some (.bool x.neg) ∧ W.cell? ⟨b3, o3 + kz, none⟩ = some (.string (snth L kz))) w2 := ⟨hb2r, cell_up cN hb2r, cell_up cL hb2r, cell_up q0 hb2r, cell_up q1 hb2r, cell_up q2 hb2r, cell_up q3 hb2r, cell_up r3 hb2r⟩) | fail))
          have hbl2 := hbl.trans (hb2r.mono hbl.size)
          have HX : Hid (tstF L x (kz : Int) = [(kz : Int) + 1]) := Lib.hid (tstF_hit (by have := Hm.out; omega) (by simpa using hsel))
          have HO2 := Lib.hid (ownsRow_below HO.out hb2r)
          have hs2 := hbl2.size
          clear hS2 hbl hb2r hb2 hbD cN cL q0 q1 q2 q3 r3 hsel HTr HO
          go_wp2_with (at_builtin; refine wpList_append_own_at _ rfl _ _ 47 rfl wA.heap.size 2 i0 (.int .i64 0) 1 8 Tryz.underlying47 hi hz0 hz1 hz2 rfl (by decide) _ D (T.map (Value.int .i64)) rfl (HO2.out.alloc _) ⟨_, 0, none⟩ 1 1 [.int .i64 ((kz : Int) + 1)] rfl rfl (new_cell _ _ _ _ (by simp)) (by intro u hu; simp at hu; subst hu; rfl) ?c2 ?c3 ?c4 ?_)
          case c2 => unfold maxLen; omega
          case c3 => omega
          case c4 => simp; omega
          intro v' w5 hown' hgrow hnil hloc
          have hbl5 : Below wA.heap.size wA w5 := (hbl2.alloc hs2 _).grown hgrow (by simp; omega) (fun j hj => (HO2.out.lt j hj).1)
          have HO5 : Hid (w5.ownsRow wA.heap.size 2 1 v' (D + 1) ((tstL L x (l.take (k + 1))).map (Value.int .i64))) := Lib.hid (by
            rw [Htk.out, HX.out, List.map_append, hsA]
            exact hown')
          have HD5 : Hid (D + 1 = (tstL L x (l.take (k + 1))).length) := Lib.hid (by rw [Htk.out, HX.out, List.length_append, ← HD.out]; rfl)
          clear hown' hgrow hnil hloc HO2
          go_wp2_with fail
          go_roundw
          case rel => exact ⟨k + 1, D + 1, by omega, by omega, by go_num, HD5, HO5, hbl5⟩
          case measure => simp [intOf] <;> omega
        | false =>
          go_wp2_with fail
          go_region_held3 (fun W => Below wr.heap.size wr W ∧ W.cell? ⟨bn, 0, none⟩ = some (.int .i64 (m : Int)) ∧ W.cell? ⟨bl, 0, none⟩ = some (.slice (some ⟨b3, o3, none⟩) m capl) ∧ W.cell? ⟨w.heap.size, 0, none⟩ = some (.int .i64 0) ∧ W.cell? ⟨w.heap.size, 1, none⟩ = some (.int .i64 0) ∧ W.cell? ⟨w.heap.size, 2, none⟩ = some (.string x.lab) ∧ W.cell? ⟨w.heap.size, 3, none⟩ = some (.bool x.neg) ∧ W.cell? ⟨b3, o3 + kz, none⟩ = some (.string (snth L kz))) ((first | exact hS2 | exact ⟨hbD, cell_up cN hbD, cell_up cL hbD, cell_up q0 hbD, cell_up q1 hbD, cell_up q2 hbD, cell_up q3 hbD, cell_up r3 hbD⟩)) ((first | (go_at_call 52; refine (selects_any 0 0 x.lab x.neg (snth L kz) _ hx hsl (HTr.below hbD)).mono ?_; rw [hsel]; rintro e w2 ⟨rfl, hb2⟩; have hb2r := below_trans' hbD hb2; have hS2 : (fun W => Below wr.heap.size wr W ∧ W.cell? ⟨bn, 0, none⟩ = some (.int .i64 (m : Int)) ∧ W.cell? ⟨bl, 0, none⟩ = some (.slice (some ⟨b3, o3, none⟩) m capl) ∧ W.cell? ⟨w.heap.size, 0, none⟩ = some (.int .i64 0) ∧ W.cell? ⟨w.heap.size, 1, none⟩ = some (.int .i64 0) ∧ W.cell? ⟨w.heap.size, 2, none⟩ = some (.string x.lab) ∧ W.cell? ⟨w.heap.size, 3, none⟩ = some (.bool x.neg) ∧ W.cell? ⟨b3, o3 + kz, none⟩ = some (.string (snth L kz))) w2 := ⟨hb2r, cell_up cN hb2r, cell_up cL hb2r, cell_up q0 hb2r, cell_up q1 hb2r, cell_up q2 hb2r, cell_up q3 hb2r, cell_up r3 hb2r⟩) | fail))
          have hbl2 := hbl.trans (hb2r.mono hbl.size)
          have HX : Hid (tstF L x (kz : Int) = []) := Lib.hid (tstF_miss (by simpa using hsel))
          have HO2 : Hid (w2.ownsRow wA.heap.size 2 1 (.slice a5 D c5) D ((tstL L x (l.take (k + 1))).map (Value.int .i64))) := Lib.hid (by rw [Htk.out, HX.out, List.append_nil]; exact ownsRow_below HO.out hb2r)
          have HD2 : Hid (D = (tstL L x (l.take (k + 1))).length) := Lib.hid (by rw [Htk.out, HX.out, List.append_nil]; exact HD.out)
          clear hS2 hbl hb2r hb2 hbD cN cL q0 q1 q2 q3 r3 hsel HTr HO
          go_wp2_with fail
          go_roundw
          case rel => exact ⟨k + 1, D, by omega, by omega, by go_num, HD2, HO2, hbl2⟩
          case measure => simp [intOf] <;> omega
      · have hd : decide ((kz : Int) < (m : Int)) = false := decide_eq_false (by omega)
        have HX : Hid (tstF L x (kz : Int) = []) := Lib.hid (tstF_far (by have := Hm.out; omega))
        clear HCr cL
        go_wp2_with fail
        go_region
        go_wp2_with fail
        go_roundw
        case rel => exact ⟨k + 1, D, by omega, by omega, by go_num, Lib.hid (by rw [Htk.out, HX.out, List.append_nil]; exact HD.out), Lib.hid (by rw [Htk.out, HX.out, List.append_nil]; exact ownsRow_below HO.out (drew_below _)), hbl.drew⟩
        case measure => simp [intOf] <;> omega
    · obtain rfl : k = n := by omega
      have HR : Hid (OwI wr w.heap.size (.slice a5 D c5) (tstL L x l)) := Lib.hid (by
        have h := HO.out
        rw [List.take_of_length_le (by rw [Hxn.out]; exact Nat.le_refl _)] at h
        exact (ownsRow_owI h).mono' (by omega))
      have hb := hbA.trans (hbl.mono (by omega))
      go_wp2_with fail
      go_ret
      exact ⟨_, rfl, HR.out, hb⟩
end Go.Proofs.YtcakmchefbohoaaGreatDoor
