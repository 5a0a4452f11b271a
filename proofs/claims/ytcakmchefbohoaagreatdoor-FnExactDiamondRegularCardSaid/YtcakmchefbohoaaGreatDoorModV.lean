/- Contracts: the replacement of a regular modality, by the reference: a star. -/
import Derived.Test.YtcakmchefbohoaaGreatDoorProg
import Derived.Test.YtcakmchefbohoaaGreatDoorMem
import Derived.Test.YtcakmchefbohoaaGreatDoorMath
import Derived.Test.YtcakmchefbohoaaGreatDoorBasics
import Derived.Test.YtcakmchefbohoaaGreatDoorOpenI
import Derived.Test.YtcakmchefbohoaaGreatDoorHelpI
import Derived.Test.YtcakmchefbohoaaGreatDoorGrid
import Derived.Test.YtcakmchefbohoaaGreatDoorLab
import Derived.Test.YtcakmchefbohoaaGreatDoorDec
import Derived.Test.YtcakmchefbohoaaGreatDoorEnv
import Derived.Test.YtcakmchefbohoaaGreatDoorNode
import Derived.Test.YtcakmchefbohoaaGreatDoorNodeW
import Derived.Test.YtcakmchefbohoaaGreatDoorReg
import Derived.Test.YtcakmchefbohoaaGreatDoorVReg
import Derived.Test.YtcakmchefbohoaaGreatDoorTreeR
import Derived.Test.YtcakmchefbohoaaGreatDoorConc
import Derived.Test.YtcakmchefbohoaaGreatDoorNds
import Derived.Test.YtcakmchefbohoaaGreatDoorInst
import Derived.Test.YtcakmchefbohoaaGreatDoorModP
import Derived.Test.YtcakmchefbohoaaGreatDoorModE
import Derived.Test.YtcakmchefbohoaaGreatDoorModJ
import Derived.Test.YtcakmchefbohoaaGreatDoorModB
import Derived.Test.YtcakmchefbohoaaGreatDoorModS
import Derived.Test.YtcakmchefbohoaaGreatDoorModU
import Derived.WalkKit
import Derived.BigQuiet
import Derived.BigRegion
import Derived.Deep.QuietTactic
import Derived.Deep.RegionHeld3
import Derived.Deep.RegionLawGrows
import Derived.Deep.AppendLies
import Derived.Maps.AppendAt
import Derived.Deep.RegionLaw
import Derived.ArgAppend
import Derived.Laws.OwnMore
import Derived.Lib.SliceRun
import Derived.Lib.Hide
import Derived.Outline
set_option linter.unusedVariables false
set_option linter.unusedSimpArgs false
namespace Go.Proofs.YtcakmchefbohoaaGreatDoor
open Go.RowKit

theorem lone_news {W : World} {n : Nat} {x : Value} (h : W.cell? ⟨n, 0, none⟩ = some x) : ∀ j u, [x][j]? = some u → W.cell? ((⟨n, 0, none⟩ : Addr).add j) = some u := by
  intro j u hj
  match j, hj with
  | 0, hj =>
    simp at hj
    subst hj
    simpa [Addr.add] using h
theorem lone_new {W : World} {n : Nat} {x : Value} {T : Nat} (hn : n = W.heap.size) : (W.alloc (.cells #[x] T)).cell? ⟨n, 0, none⟩ = some x := by
  subst hn
  rw [cell_of_row _ _ _ _ _ _ (heap_alloc_new W _)]; rfl
theorem lone_drew {W : World} {n : Nat} {x : Value} (h : W.cell? ⟨n, 0, none⟩ = some x) : W.drew.cell? ⟨n, 0, none⟩ = some x := h
theorem lone_alloc {W : World} {n : Nat} {x : Value} {o : Obj} (h : W.cell? ⟨n, 0, none⟩ = some x) : (W.alloc o).cell? ⟨n, 0, none⟩ = some x := (World.cell?_alloc_lt _ _ _ (World.block_lt_of_cell? W ⟨n, 0, none⟩ h)).trans h
theorem lone_call {W W' : World} {n : Nat} {x : Value} (h : W.cell? ⟨n, 0, none⟩ = some x) (hb : Below W.heap.size W W') : W'.cell? ⟨n, 0, none⟩ = some x := (hb.cell (p := ⟨n, 0, none⟩) (World.block_lt_of_cell? W ⟨n, 0, none⟩ h)).trans h
theorem nod_new {W : World} {n T : Nat} {v : Int} {s : ByteArray} (hn : n = W.heap.size) (hs : s = ByteArray.empty) : RdNd (W.alloc (.cells #[.int .i64 6, .int .i64 v, .string s, .bool false] T)) (.slice (some ⟨n, 0, none⟩) 1 1) [⟨6, v, ByteArray.empty, false⟩] := by
  subst hn
  subst hs
  exact rd_one W ⟨6, v, ByteArray.empty, false⟩ T
theorem nod_drew {W : World} {v : Value} {f : List Nd} (h : RdNd W v f) : RdNd W.drew v f := h.below ⟨rfl, rfl, rfl, Nat.le_refl _, fun _ _ => rfl⟩
theorem nod_alloc {W : World} {v : Value} {f : List Nd} {o : Obj} (h : RdNd W v f) : RdNd (W.alloc o) v f := h.below ((Below.refl _ _).alloc (Nat.le_refl _) _)
theorem nod_append {W W' : World} {n c q : Nat} {f : List Nd} {row : Option Nat} (h : RdNd W (.slice (some ⟨n, 0, none⟩) c q) f) (hg : W.grownBy W' row) (hne : row ≠ some n) : RdNd W' (.slice (some ⟨n, 0, none⟩) c q) f := by
  obtain ⟨a, cap, e, h1, h2, h3⟩ := h
  refine ⟨a, cap, e, h1, h2, fun h0 => ?_⟩
  obtain ⟨b, o, rfl, hb, hc⟩ := h3 h0
  cases e
  exact ⟨n, 0, rfl, Nat.lt_of_lt_of_le hb hg.size, fun i hi => (World.cell?_of_block (a := ⟨n, 0 + i, none⟩) (hg.block n hb fun e => hne e.symm)).trans (hc i hi)⟩
theorem rd_nds (w : World) (f : List Nd) (cs : Array Value) (T : Nat) (hcs : cs.toList = ndCells f) (hl : f.length ≤ maxLen) : RdNd (w.alloc (.cells cs T)) (.slice (some ⟨w.heap.size, 0, none⟩) f.length f.length) f := by
  refine ⟨_, f.length, rfl, Nat.le_refl _, hl, fun h0 => ⟨_, 0, rfl, by simp, fun i hi => ?_⟩⟩
  rw [cell_of_row _ _ _ _ _ _ (heap_alloc_new w _), Nat.zero_add, ← Array.getElem?_toList, hcs]
  exact ndCells_get f hi
/-- A copy of the numbers in use, in the midst of a drawn region. -/
theorem own_call {B : Nat} {w W : World} {v : Value} {d : Nat} (hd : d ≤ 3) (hv : RdI w v (upto d)) (h : Below w.heap.size w W) : Calls Tryz.prog 73 #[v] W fun e w' => ∃ u, e = .returned u ∧ w'.ownsRow w.heap.size 2 1 u d (uptoV d) ∧ Below W.heap.size W w' ∧ Below w.heap.size w w' ∧ (∀ c, u.ownBlock = some c → W.heap.size ≤ c ∧ c < w'.heap.size) := by
  refine (l00OwnRow_any v (upto d) W (by rw [upto_len]; omega) (hv.below h)).mono ?_
  rintro e w' ⟨u, rfl, ho, hb⟩
  rw [upto_len] at ho
  exact ⟨u, rfl, own_up ho h.size, hb, below_trans' h hb, fun c hc => ho.lt c hc⟩
theorem grow_below {w W W' : World} {u : Value} {B : Nat} (h : Below w.heap.size w W) (hg : W.grownBy W' u.ownBlock) (hu : ∀ c, u.ownBlock = some c → B ≤ c ∧ c < W'.heap.size) (hB : w.heap.size ≤ B) : Below w.heap.size w W' := h.grown hg h.size fun k hk => Nat.le_trans hB (hu k hk).1
theorem ret_bool3 {u : Value} {R : Option (List Nd)} {l : List Nd} {p : Prop} [Decidable p] (hR : R = gate l) (h : p ↔ l.length ≤ 30) : Ending.returned (.tuple #[u, .bool (decide p)]) = Ending.returned (.tuple #[u, .bool R.isSome]) := by rw [hR, gate_isSome, decide_eq_decide.2 h]
theorem up_rd {w : World} {base d : Nat} {v : Value} (h : w.ownsRow base 2 1 v (d + 1) (uptoV d ++ [.int .i64 (d : Int)])) : RdI w v (upto (d + 1)) := by
  rw [← uptoV_succ] at h
  exact (ownsRow_owI (zs := upto (d + 1)) h).rd
set_option maxRecDepth 100000 in
set_option maxHeartbeats 1600000 in
theorem modS_star (box : Bool) (x y1 : Rg) (k1 : FRg) (hk0 : x.kind = 3) (hlen : (x :: (FRg.cons y1 k1 .nil).flat).length ≤ 1048576) (h1 : Mod1 box y1 k1) : Mod1 box x (.cons y1 k1 .nil) := by
  intro v vf vb f d w hv hvf hvb hf hd
  have HVF := Lib.hid hvf
  have HVB := Lib.hid hvb
  have H1 := Lib.hid h1
  obtain ⟨i0, hi, hz0, hz1, hz2⟩ := info_parts infoNd
  obtain ⟨j0, hj, hy0, hy1, hy2⟩ := info_parts infoI64
  obtain ⟨a, cap, rfl, hcap, hcm, hv'⟩ := id hv
  obtain ⟨b, o, rfl, hb, g0, g1, g2⟩ := RdRg.cells hv (i := 0) (by simp)
  have e0 : rgnth (x :: (FRg.cons y1 k1 .nil).flat) 0 = x := rfl
  rw [e0] at g0
  rw [Nat.zero_mul, Nat.add_zero] at g0
  rw [hk0] at g0
  have HS1 : Hid (RdRg w (.slice (some ⟨b, o + 3, none⟩) ((x :: (FRg.cons y1 k1 .nil).flat).length - 1) (cap - 1)) (y1 :: k1.flat)) := Lib.hid (by
    have h := hv.tail
    have e : (FRg.cons y1 k1 .nil).flat = y1 :: k1.flat := by simp [FRg.flat]
    rwa [e] at h ⊢)
  obtain ⟨n, hn⟩ : ∃ n, n = (x :: (FRg.cons y1 k1 .nil).flat).length := ⟨_, rfl⟩
  have hn1 : 1 < n := by rw [hn]; simp [FRg.flat]
  rw [← hn] at hcap HS1 ⊢
  have hc1 : 1 < cap := by omega
  have hn2 : 1 ≤ n := by omega
  have hI1 : (1 : Int) ≤ (n : Int) := by omega
  have hI2 : (n : Int) ≤ (cap : Int) := by omega
  have hI3 : (1 : Int) ≤ (cap : Int) := by omega
  have hI4 : (1 : Int) < (cap : Int) := by omega
  obtain ⟨E1, hE1⟩ : ∃ E, E = opMS box y1 (FRg.fold (opMS box) k1) (mVar d) (d + 1) := ⟨_, rfl⟩
  have HE : opMS box x (FRg.fold (opMS box) (.cons y1 k1 .nil)) f d = if 3 ≤ d then none else E1.bind fun z => gate (mStar box d f z) := by rw [opMS_star hk0, hE1]; rfl
  obtain ⟨R, hR⟩ : ∃ R, R = opMS box x (FRg.fold (opMS box) (.cons y1 k1 .nil)) f d := ⟨_, rfl⟩
  rw [← hR]
  rw [HE] at hR
  have HR := Lib.hid hR
  clear hR
  have HE1 := Lib.hid hE1
  have HSH1 : Hid (∀ y, E1 = some y → y.length ≤ 30) := Lib.hid (fun y h => opMS_short box (.cons y1 k1 .nil) 0 (mVar d) (d + 1) y (by rw [← h, hE1]; rfl))
  clear hE1 HE hv hv' hn e0 hk0 hvf hvb h1 g1 g2 hlen
  cases box with
  | true =>
    go_enter Tryz.func38, Tryz.ntmps38
    go_wp2_with fail
    have hbA : Below w.heap.size w (w.alloc (.cells #[] 65)) := (Below.refl _ _).alloc (Nat.le_refl _) _
    go_loop [22] (fun sv => ∃ k : Nat, k ≤ d ∧ sv = .int .i64 k) (fun sv => d - (intOf sv).toNat)
    case atStart => exact ⟨0, Nat.zero_le _, rfl⟩
    case round =>
      obtain ⟨k, hk, rfl⟩ := hrel
      by_cases hlt : k < d
      · go_wp2_with fail
        refine (l00Has_any _ (upto d) k _ (HVB.out.below hbA)).mono ?_
        rw [hasI_lt hlt]
        rintro e w' ⟨rfl, rfl⟩
        go_wp2_with fail
        go_round
        case rel => exact ⟨k + 1, by omega, by go_num⟩
        case measure => simp [intOf]; omega
      · obtain rfl : k = d := by omega
        go_wp2_with fail
        refine (l00Has_any _ (upto k) k _ (HVB.out.below hbA)).mono ?_
        rw [hasI_ge (Nat.le_refl _)]
        rintro e w' ⟨rfl, rfl⟩
        by_cases h3 : 3 ≤ k
        · have h3b : decide ((3 : Int) ≤ (k : Int)) = true := decide_eq_true (by omega)
          have hRn : R = none := by rw [HR.out, if_pos h3]
          subst hRn
          go_wp2_with fail
          go_ret2
          exact ⟨_, rfl, (fun l hl => by cases hl), hbA⟩
        · have h3b : decide ((3 : Int) ≤ (k : Int)) = false := decide_eq_false (by omega)
          have HR2 : Hid (R = E1.bind fun z => gate (mStar true k f z)) := Lib.hid (by rw [HR.out, if_neg h3])
          have hk2 : k < 3 := by omega
          clear hlt hk
          go_wp2_with fail
          have hbD : Below w.heap.size w (w.alloc (.cells #[] 65)).drew := hbA.drew
          go_region_held3 (fun W => Below w.heap.size w W) ((first | exact hbD | exact hS5 | exact hS4 | exact hS3 | exact Below.alloc (by assumption) (Below.size (by assumption : Below w.heap.size w _)) _)) ((first | (go_at_call 38; refine (H1.out _ _ _ (mVar k) (k + 1) _ (HS1.out.below (by assumption)) (by unfold mVar; repeat (first | with_reducible exact nod_new (by simp) rfl | with_reducible refine nod_drew ?_ | with_reducible refine RdNd.below ?_ hb3 | with_reducible refine nod_append ?_ hgrow4 (fun e => by have h1 := hoc _ e; have h2 := hb3.size; first | omega | (simp at h1; done) | (simp at h1; omega) | (simp at h1 h2; omega)) | with_reducible refine nod_alloc ?_)) (by first | with_reducible exact up_rd hown4 | with_reducible exact up_rd (hown4.alloc _)) (by simp [mVar]) (by omega)).mono ?_; rw [← HE1.out]; rintro e w5 ⟨u5, rfl, hO5, hb5⟩; have hS5 : Below w.heap.size w w5 := below_trans' (by assumption) hb5) | (go_at_call 73; refine (own_call (B := 0) hd HVB.out (by assumption)).mono ?_; rintro e w3 ⟨u3, rfl, hu3, hb3, hS3, hoc⟩) | (refine step_append_lies _ (by rfl) _ _ _ (by rfl) w.heap.size 2 j0 (.int .i64 0) 1 8 Tryz.underlying47 hj hy0 hy1 hy2 rfl (by decide) u3 k (uptoV k) (by first | rfl | simp [Act.eval, Act.put]) (by first | with_reducible exact hu3 | with_reducible exact hu3.alloc _ | with_reducible exact (hu3.alloc _).alloc _) ⟨_, 0, none⟩ 1 1 [.int .i64 (k : Int)] (by first | rfl | simp [Act.eval, Act.put]) rfl (by refine lone_news ?_; repeat (first | with_reducible exact lone_new (by simp) | with_reducible refine lone_drew ?_ | with_reducible refine lone_call ?_ hb3 | with_reducible refine lone_alloc ?_)) (by simp [Value.oneCell']) (by decide) (by unfold maxLen; omega) (by omega) (Below.size (by assumption : Below w.heap.size w _)) _ rfl ?_; intro g4 q4 w4 hown4 hgrow4 hloc4 hlt4; have hS4 : Below w.heap.size w w4 := Below.grown (by assumption : Below w.heap.size w _) hgrow4 (Below.size (by assumption : Below w.heap.size w _)) (fun c hc => (hu3.lt c hc).1)) | fail))
          all_goals
            have hbl5 := hS5
            have HO5 := Lib.hid hO5
            clear hS5 hS4 hS3 hb3 hb5 hown4 hgrow4 hloc4 hlt4 hu3 hoc hO5 HE1 H1 hbD
            cases E1 with
            | none =>
              have hRn : R = none := by rw [HR2.out]; rfl
              subst hRn
              go_wp2_with fail
              go_ret2
              exact ⟨_, rfl, (fun l hl => by cases hl), hbl5⟩
            | some z =>
              have hz := HSH1.out z rfl
              have HZ : Hid (RdNd w5 u5 z) := Lib.hid (OwNd.rd (HO5.out z rfl))
              have HF5 : Hid (RdNd w5 vf f) := Lib.hid (HVF.out.below hbl5)
              obtain ⟨au5, cu5, rfl⟩ := HZ.out.slice
              obtain ⟨Y, hY⟩ : ∃ Y : List Nd, Y = [(⟨8, (k : Int), ByteArray.empty, false⟩ : Nd), ⟨2, 0, ByteArray.empty, false⟩] := ⟨_, rfl⟩
              have hYl : Y.length = 2 := by rw [hY]; rfl
              have HRR : Hid (R = gate ((Y ++ f) ++ z)) := Lib.hid (by rw [HR2.out, hY]; rfl)
              have hba5 : Below w5.heap.size w5 (w5.alloc (.cells #[.int .i64 8, .int .i64 (k : Int), .string ByteArray.empty, .bool false, .int .i64 2, .int .i64 0, .string ByteArray.empty, .bool false] 65)) := (Below.refl _ _).alloc (Nat.le_refl _) _
              have HY1 : Hid (RdNd (w5.alloc (.cells #[.int .i64 8, .int .i64 (k : Int), .string ByteArray.empty, .bool false, .int .i64 2, .int .i64 0, .string ByteArray.empty, .bool false] 65)) (.slice (some ⟨w5.heap.size, 0, none⟩) 2 2) Y) := Lib.hid (by rw [hY]; exact rd_nds w5 [(⟨8, (k : Int), ByteArray.empty, false⟩ : Nd), ⟨2, 0, ByteArray.empty, false⟩] _ _ (by simp [ndCells, List.range, List.range.loop, ndc, ndv, ndnth]) (by unfold maxLen; simp))
              have hs5 := hba5.size
              clear hY HO5 HSH1 HR2 HR
              go_wp2_with (at_builtin; refine wpList_start_nd rfl _ _ rfl _ _ Y rfl rfl HY1.out (by omega) (by omega) w5.heap.size w5 hba5 hs5 ?_)
              intro v6 w6 hO6 hb6
              (try rw [hYl] at hO6)
              obtain ⟨a6, c6, rfl⟩ := owned_slice hO6.out
              have hs6 := hb6.size
              go_wp2_with (at_builtin; refine wpList_append_nd rfl _ _ rfl w5.heap.size _ _ 2 Y f hYl.symm rfl rfl hO6.out (HF5.out.below hb6) (by omega) hs6 w5.heap.size w5 hb6 (Nat.le_refl _) ?_)
              intro v7 w7 hO7 hb7
              obtain ⟨a7, c7, rfl⟩ := owned_slice hO7.out
              have hs7 := hb7.size
              go_wp2_with (at_builtin; refine wpList_append_nd rfl _ _ rfl w5.heap.size _ _ (2 + f.length) (Y ++ f) z (by rw [List.length_append, hYl]) rfl rfl hO7.out (HZ.out.below hb7) (by rw [List.length_append]; omega) hs7 w5.heap.size w5 hb7 (Nat.le_refl _) ?_)
              intro v8 w8 hO8 hb8
              obtain ⟨a8, c8, rfl⟩ := owned_slice hO8.out
              go_wp2_with fail
              go_ret2
              refine ⟨_, ret_bool3 HRR.out (by simp only [List.length_append]; omega), (fun l hl => ?_), below_trans' hbl5 hb8⟩
              rw [HRR.out] at hl
              obtain ⟨rfl, _⟩ := gate_some hl
              have h8 := (own_nd hO8.out).mono hbl5.size
              first | exact h8 | (rw [List.append_assoc]; exact h8)
  | false =>
    go_enter Tryz.func38, Tryz.ntmps38
    go_wp2_with fail
    have hbA : Below w.heap.size w (w.alloc (.cells #[] 65)) := (Below.refl _ _).alloc (Nat.le_refl _) _
    go_loop [22] (fun sv => ∃ k : Nat, k ≤ d ∧ sv = .int .i64 k) (fun sv => d - (intOf sv).toNat)
    case atStart => exact ⟨0, Nat.zero_le _, rfl⟩
    case round =>
      obtain ⟨k, hk, rfl⟩ := hrel
      by_cases hlt : k < d
      · go_wp2_with fail
        refine (l00Has_any _ (upto d) k _ (HVB.out.below hbA)).mono ?_
        rw [hasI_lt hlt]
        rintro e w' ⟨rfl, rfl⟩
        go_wp2_with fail
        go_round
        case rel => exact ⟨k + 1, by omega, by go_num⟩
        case measure => simp [intOf]; omega
      · obtain rfl : k = d := by omega
        go_wp2_with fail
        refine (l00Has_any _ (upto k) k _ (HVB.out.below hbA)).mono ?_
        rw [hasI_ge (Nat.le_refl _)]
        rintro e w' ⟨rfl, rfl⟩
        by_cases h3 : 3 ≤ k
        · have h3b : decide ((3 : Int) ≤ (k : Int)) = true := decide_eq_true (by omega)
          have hRn : R = none := by rw [HR.out, if_pos h3]
          subst hRn
          go_wp2_with fail
          go_ret2
          exact ⟨_, rfl, (fun l hl => by cases hl), hbA⟩
        · have h3b : decide ((3 : Int) ≤ (k : Int)) = false := decide_eq_false (by omega)
          have HR2 : Hid (R = E1.bind fun z => gate (mStar false k f z)) := Lib.hid (by rw [HR.out, if_neg h3])
          have hk2 : k < 3 := by omega
          clear hlt hk
          go_wp2_with fail
          have hbD : Below w.heap.size w (w.alloc (.cells #[] 65)).drew := hbA.drew
          go_region_held3 (fun W => Below w.heap.size w W) ((first | exact hbD | exact hS5 | exact hS4 | exact hS3 | exact Below.alloc (by assumption) (Below.size (by assumption : Below w.heap.size w _)) _)) ((first | (go_at_call 38; refine (H1.out _ _ _ (mVar k) (k + 1) _ (HS1.out.below (by assumption)) (by unfold mVar; repeat (first | with_reducible exact nod_new (by simp) rfl | with_reducible refine nod_drew ?_ | with_reducible refine RdNd.below ?_ hb3 | with_reducible refine nod_append ?_ hgrow4 (fun e => by have h1 := hoc _ e; have h2 := hb3.size; first | omega | (simp at h1; done) | (simp at h1; omega) | (simp at h1 h2; omega)) | with_reducible refine nod_alloc ?_)) (by first | with_reducible exact up_rd hown4 | with_reducible exact up_rd (hown4.alloc _)) (by simp [mVar]) (by omega)).mono ?_; rw [← HE1.out]; rintro e w5 ⟨u5, rfl, hO5, hb5⟩; have hS5 : Below w.heap.size w w5 := below_trans' (by assumption) hb5) | (go_at_call 73; refine (own_call (B := 0) hd HVB.out (by assumption)).mono ?_; rintro e w3 ⟨u3, rfl, hu3, hb3, hS3, hoc⟩) | (refine step_append_lies _ (by rfl) _ _ _ (by rfl) w.heap.size 2 j0 (.int .i64 0) 1 8 Tryz.underlying47 hj hy0 hy1 hy2 rfl (by decide) u3 k (uptoV k) (by first | rfl | simp [Act.eval, Act.put]) (by first | with_reducible exact hu3 | with_reducible exact hu3.alloc _ | with_reducible exact (hu3.alloc _).alloc _) ⟨_, 0, none⟩ 1 1 [.int .i64 (k : Int)] (by first | rfl | simp [Act.eval, Act.put]) rfl (by refine lone_news ?_; repeat (first | with_reducible exact lone_new (by simp) | with_reducible refine lone_drew ?_ | with_reducible refine lone_call ?_ hb3 | with_reducible refine lone_alloc ?_)) (by simp [Value.oneCell']) (by decide) (by unfold maxLen; omega) (by omega) (Below.size (by assumption : Below w.heap.size w _)) _ rfl ?_; intro g4 q4 w4 hown4 hgrow4 hloc4 hlt4; have hS4 : Below w.heap.size w w4 := Below.grown (by assumption : Below w.heap.size w _) hgrow4 (Below.size (by assumption : Below w.heap.size w _)) (fun c hc => (hu3.lt c hc).1)) | fail))
          all_goals
            have hbl5 := hS5
            have HO5 := Lib.hid hO5
            clear hS5 hS4 hS3 hb3 hb5 hown4 hgrow4 hloc4 hlt4 hu3 hoc hO5 HE1 H1 hbD
            cases E1 with
            | none =>
              have hRn : R = none := by rw [HR2.out]; rfl
              subst hRn
              go_wp2_with fail
              go_ret2
              exact ⟨_, rfl, (fun l hl => by cases hl), hbl5⟩
            | some z =>
              have hz := HSH1.out z rfl
              have HZ : Hid (RdNd w5 u5 z) := Lib.hid (OwNd.rd (HO5.out z rfl))
              have HF5 : Hid (RdNd w5 vf f) := Lib.hid (HVF.out.below hbl5)
              obtain ⟨au5, cu5, rfl⟩ := HZ.out.slice
              obtain ⟨Y, hY⟩ : ∃ Y : List Nd, Y = [(⟨7, (k : Int), ByteArray.empty, false⟩ : Nd), ⟨3, 0, ByteArray.empty, false⟩] := ⟨_, rfl⟩
              have hYl : Y.length = 2 := by rw [hY]; rfl
              have HRR : Hid (R = gate ((Y ++ f) ++ z)) := Lib.hid (by rw [HR2.out, hY]; rfl)
              have hba5 : Below w5.heap.size w5 (w5.alloc (.cells #[.int .i64 7, .int .i64 (k : Int), .string ByteArray.empty, .bool false, .int .i64 3, .int .i64 0, .string ByteArray.empty, .bool false] 65)) := (Below.refl _ _).alloc (Nat.le_refl _) _
              have HY1 : Hid (RdNd (w5.alloc (.cells #[.int .i64 7, .int .i64 (k : Int), .string ByteArray.empty, .bool false, .int .i64 3, .int .i64 0, .string ByteArray.empty, .bool false] 65)) (.slice (some ⟨w5.heap.size, 0, none⟩) 2 2) Y) := Lib.hid (by rw [hY]; exact rd_nds w5 [(⟨7, (k : Int), ByteArray.empty, false⟩ : Nd), ⟨3, 0, ByteArray.empty, false⟩] _ _ (by simp [ndCells, List.range, List.range.loop, ndc, ndv, ndnth]) (by unfold maxLen; simp))
              have hs5 := hba5.size
              clear hY HO5 HSH1 HR2 HR
              go_wp2_with (at_builtin; refine wpList_start_nd rfl _ _ rfl _ _ Y rfl rfl HY1.out (by omega) (by omega) w5.heap.size w5 hba5 hs5 ?_)
              intro v6 w6 hO6 hb6
              (try rw [hYl] at hO6)
              obtain ⟨a6, c6, rfl⟩ := owned_slice hO6.out
              have hs6 := hb6.size
              go_wp2_with (at_builtin; refine wpList_append_nd rfl _ _ rfl w5.heap.size _ _ 2 Y f hYl.symm rfl rfl hO6.out (HF5.out.below hb6) (by omega) hs6 w5.heap.size w5 hb6 (Nat.le_refl _) ?_)
              intro v7 w7 hO7 hb7
              obtain ⟨a7, c7, rfl⟩ := owned_slice hO7.out
              have hs7 := hb7.size
              go_wp2_with (at_builtin; refine wpList_append_nd rfl _ _ rfl w5.heap.size _ _ (2 + f.length) (Y ++ f) z (by rw [List.length_append, hYl]) rfl rfl hO7.out (HZ.out.below hb7) (by rw [List.length_append]; omega) hs7 w5.heap.size w5 hb7 (Nat.le_refl _) ?_)
              intro v8 w8 hO8 hb8
              obtain ⟨a8, c8, rfl⟩ := owned_slice hO8.out
              go_wp2_with fail
              go_ret2
              refine ⟨_, ret_bool3 HRR.out (by simp only [List.length_append]; omega), (fun l hl => ?_), below_trans' hbl5 hb8⟩
              rw [HRR.out] at hl
              obtain ⟨rfl, _⟩ := gate_some hl
              have h8 := (own_nd hO8.out).mono hbl5.size
              first | exact h8 | (rw [List.append_assoc]; exact h8)
end Go.Proofs.YtcakmchefbohoaaGreatDoor
