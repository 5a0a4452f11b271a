/- Contracts: a fixed point with its variable replaced, of the program and of the reference. -/
import Derived.Test.YtmaadfoiaegdjaaGreatDoorProg
import Derived.Test.YtmaadfoiaegdjaaGreatDoorMem
import Derived.Test.YtmaadfoiaegdjaaGreatDoorMath
import Derived.Test.YtmaadfoiaegdjaaGreatDoorBasics
import Derived.Test.YtmaadfoiaegdjaaGreatDoorOpenI
import Derived.Test.YtmaadfoiaegdjaaGreatDoorHelpI
import Derived.Test.YtmaadfoiaegdjaaGreatDoorGrid
import Derived.Test.YtmaadfoiaegdjaaGreatDoorLab
import Derived.Test.YtmaadfoiaegdjaaGreatDoorDec
import Derived.Test.YtmaadfoiaegdjaaGreatDoorEnv
import Derived.Test.YtmaadfoiaegdjaaGreatDoorNode
import Derived.Test.YtmaadfoiaegdjaaGreatDoorNodeW
import Derived.Test.YtmaadfoiaegdjaaGreatDoorVMod
import Derived.Test.YtmaadfoiaegdjaaGreatDoorEnd
import Derived.Test.YtmaadfoiaegdjaaGreatDoorBind
import Derived.Test.YtmaadfoiaegdjaaGreatDoorVFor
import Derived.Test.YtmaadfoiaegdjaaGreatDoorConc
import Derived.Test.YtmaadfoiaegdjaaGreatDoorNds
import Derived.Test.YtmaadfoiaegdjaaGreatDoorFreq
import Derived.WalkKit
import Derived.BigQuiet
import Derived.Maps.AppendAt
import Derived.Laws.OwnMore
import Derived.Lib.Hide
import Derived.Outline
set_option linter.unusedVariables false
set_option linter.unusedSimpArgs false
namespace Go.Proofs.YtmaadfoiaegdjaaGreatDoor
open Go.RowKit

def putHit (f : List Nd) (k : Nat) : Bool := decide ((ndnth f k).kind = 6) && decide (bindN f k = 0)
def putTo (f g : List Nd) : Nat → List Nd
  | 0 => []
  | k + 1 => putTo f g k ++ (if k = 0 then [] else if putHit f k = true then g else [ndnth f k])
def putN (f g : List Nd) : List Nd := putTo f g f.length
theorem putTo_one (f g : List Nd) : putTo f g 1 = [] := rfl
theorem putTo_hit {f g : List Nd} {k : Nat} (h1 : 1 ≤ k) (h : putHit f k = true) : putTo f g (k + 1) = putTo f g k ++ g := by
  rw [putTo, if_neg (by omega), if_pos h]
theorem putTo_miss {f g : List Nd} {k : Nat} (h1 : 1 ≤ k) (h : putHit f k = false) : putTo f g (k + 1) = putTo f g k ++ [ndnth f k] := by
  rw [putTo, if_neg (by omega), if_neg (by rw [h]; decide)]
theorem rd_one (w : World) (x : Nd) (T : Nat) : RdNd (w.alloc (.cells #[.int .i64 x.kind, .int .i64 x.var, .string x.lab, .bool x.neg] T)) (.slice (some ⟨w.heap.size, 0, none⟩) 1 1) [x] := by
  refine ⟨_, 1, rfl, Nat.le_refl _, by unfold maxLen; omega, fun h0 => ⟨_, 0, rfl, by simp, fun i hi => ?_⟩⟩
  rw [cell_of_row _ _ _ _ _ _ (heap_alloc_new w _), Nat.zero_add]
  have h1 := ndCells_get [x] hi
  rw [ndCells_single] at h1
  simpa using h1
theorem own_still {w w' : World} {base n : Nat} {v : Value} {xs : List Value} (h : w.ownsRow base 49 4 v n xs) (hb : Below w.heap.size w w') : w'.ownsRow base 49 4 v n xs := ownsRow_below h hb
set_option maxRecDepth 100000 in
set_option maxHeartbeats 4000000 in
theorem instance_any (v vb : Value) (f g : List Nd) (w : World) (hn1 : 1 ≤ f.length) (hn : f.length ≤ 30) (hg : g.length ≤ 30) (hs : shapeN f = true) (hv : RdNd w v f) (hvb : RdNd w vb g) :
    Calls Tryz.prog 92 #[v, vb] w fun e w' => ∃ u, e = .returned u ∧ OwNd w' w.heap.size u (putN f g) ∧ Below w.heap.size w w' := by
  have HV := Lib.hid hv
  have HG := Lib.hid hvb
  have HS := Lib.hid hs
  obtain ⟨a, cap, rfl, hcap, hcm, _⟩ := hv
  obtain ⟨ab, cb, rfl⟩ := hvb.slice
  unfold maxLen at hcm
  obtain ⟨n, hxn⟩ : ∃ n, n = f.length := ⟨_, rfl⟩
  rw [← hxn] at hcap HV hn hn1
  rw [← hxn]
  have Hxn := Lib.hid hxn
  clear hxn hvb hs
  go_enter Tryz.func92, Tryz.ntmps92
  go_wp2_with fail
  go_loopw [5, 6] (fun so si wr => ∃ k D : Nat, 1 ≤ k ∧ k ≤ n ∧ si = .int .i64 k ∧ Hid (D = (putTo f g k).length) ∧ D ≤ k * 31 ∧ Hid (wr.ownsRow w.heap.size 49 4 so D (ndCells (putTo f g k))) ∧ Below w.heap.size w wr) (fun _ si _ => n - (intOf si).toNat)
  case atStart => exact ⟨1, 0, Nat.le_refl _, hn1, rfl, Lib.hid rfl, by omega, Lib.hid (World.ownsRow_nil _ _ _ _), Below.refl _ _⟩
  case round =>
    obtain ⟨k, D, hk1, hk, rfl, HD, hDk, HO, hbl⟩ := hrel
    obtain ⟨a5, c5, rfl⟩ := owned_slice HO.out
    by_cases hlt : k < n
    · have hkf : k < f.length := by rw [← Hxn.out]; exact hlt
      obtain ⟨b, o, rfl, hb, g0, g1, g2, g3⟩ := RdNd.cells HV.out hkf
      have q0 := (hbl.cell (by exact hb)).trans g0
      have hwl := hbl.size
      have HHit : Hid (putHit f k = true → putTo f g (k + 1) = putTo f g k ++ g) := Lib.hid fun h => putTo_hit hk1 h
      have HMiss : Hid (putHit f k = false → putTo f g (k + 1) = putTo f g k ++ [ndnth f k]) := Lib.hid fun h => putTo_miss hk1 h
      have HP : Hid (putHit f k = (decide ((ndnth f k).kind = 6) && decide (bindN f k = 0))) := Lib.hid rfl
      obtain ⟨Y, hY⟩ : ∃ Y, Y = ndnth f k := ⟨_, rfl⟩
      obtain ⟨F, hF⟩ : ∃ F, F = putTo f g k := ⟨_, rfl⟩
      rw [← hY] at q0 g0 g1 g2 g3 HMiss HP
      rw [← hF] at HO HD HHit HMiss
      clear hY hF
      by_cases h6 : Y.kind = 6
      · have hkb : (Y.kind == 6) = true := by simpa using h6
        obtain ⟨r, hr⟩ : ∃ r, r = bindN f k := ⟨_, rfl⟩
        rw [← hr] at HP
        have Hr := Lib.hid hr
        have HP2 : Hid (putHit f k = decide (r = 0)) := Lib.hid (by rw [HP.out, decide_eq_true h6]; rfl)
        clear h6 hr
        by_cases hr0 : r = 0
        · have HM := Lib.hid (HHit.out (by rw [HP2.out, decide_eq_true hr0]))
          have hrb : (r == 0) = true := by simpa using hr0
          clear hr0
          go_wp2_with fail
          refine (binder_any _ f k _ (by have := Hxn.out; omega) HS.out hkf (HV.out.below hbl)).mono ?_
          rw [← Hr.out]
          rintro e w4 ⟨rfl, hb4⟩
          have hbl4 := below_trans' hbl hb4
          have HO4 : Hid (w4.ownsRow w.heap.size 49 4 (.slice a5 D c5) D (ndCells F)) := Lib.hid (own_still HO.out hb4)
          have p0 := (hbl4.cell (by exact hb)).trans g0
          have p1 := (hbl4.cell (by exact hb)).trans g1
          have p2 := (hbl4.cell (by exact hb)).trans g2
          have p3 := (hbl4.cell (by exact hb)).trans g3
          have hwl4 := hbl4.size
          have HG4 := Lib.hid (HG.out.below hbl4)
          go_wp2_with (at_builtin; refine wpList_append_nd rfl _ _ rfl w.heap.size _ _ D F g HD.out rfl rfl HO4.out HG4.out (by have := HD.out; omega) hwl4 w.heap.size w hbl4 (Nat.le_refl _) ?_; intro v' w5 hown' hbl5; obtain ⟨a6, c6, rfl⟩ := owned_slice hown'.out)
          have HO5 : Hid (w5.ownsRow w.heap.size 49 4 (.slice a6 (D + g.length) c6) (D + g.length) (ndCells (putTo f g (k + 1)))) := Lib.hid (by rw [HM.out]; exact hown'.out)
          have HD5 : Hid (D + g.length = (putTo f g (k + 1)).length) := Lib.hid (by rw [HM.out, List.length_append, ← HD.out])
          clear hown'
          go_roundw
          case rel => exact ⟨k + 1, D + g.length, by omega, by omega, by go_num, HD5, by omega, HO5, hbl5⟩
          case measure => simp [intOf] <;> omega
        · have HM := Lib.hid (HMiss.out (by rw [HP2.out, decide_eq_false hr0]))
          have hrb : (r == 0) = false := by simpa using hr0
          clear hr0
          go_wp2_with fail
          refine (binder_any _ f k _ (by have := Hxn.out; omega) HS.out hkf (HV.out.below hbl)).mono ?_
          rw [← Hr.out]
          rintro e w4 ⟨rfl, hb4⟩
          have hbl4 := below_trans' hbl hb4
          have HO4 : Hid (w4.ownsRow w.heap.size 49 4 (.slice a5 D c5) D (ndCells F)) := Lib.hid (own_still HO.out hb4)
          have p0 := (hbl4.cell (by exact hb)).trans g0
          have p1 := (hbl4.cell (by exact hb)).trans g1
          have p2 := (hbl4.cell (by exact hb)).trans g2
          have p3 := (hbl4.cell (by exact hb)).trans g3
          have hwl4 := hbl4.size
          have H1 := Lib.hid (rd_one w4 Y 49)
          have HOa := Lib.hid (own_still HO4.out ((Below.refl _ w4).alloc (Nat.le_refl _) (.cells #[.int .i64 Y.kind, .int .i64 Y.var, .string Y.lab, .bool Y.neg] 49)))
          have hba : Below w.heap.size w (w4.alloc (.cells #[.int .i64 Y.kind, .int .i64 Y.var, .string Y.lab, .bool Y.neg] 49)) := hbl4.alloc hwl4 _
          go_wp2_with (at_builtin; refine wpList_append_nd rfl _ _ rfl w.heap.size _ _ D F [Y] HD.out rfl rfl HOa.out H1.out (by have := HD.out; simp; omega) (by simp; omega) w.heap.size w hba (Nat.le_refl _) ?_; intro v' w5 hown' hbl5; obtain ⟨a6, c6, rfl⟩ := owned_slice hown'.out)
          have HO5 : Hid (w5.ownsRow w.heap.size 49 4 (.slice a6 (D + 1) c6) (D + 1) (ndCells (putTo f g (k + 1)))) := Lib.hid (by rw [HM.out]; exact hown'.out)
          have HD5 : Hid (D + 1 = (putTo f g (k + 1)).length) := Lib.hid (by rw [HM.out, List.length_append, ← HD.out]; rfl)
          clear hown'
          go_roundw
          case rel => exact ⟨k + 1, D + 1, by omega, by omega, by go_num, HD5, by omega, HO5, hbl5⟩
          case measure => simp [intOf] <;> omega
      · have hkb : (Y.kind == 6) = false := by simpa using h6
        have HM := Lib.hid (HMiss.out (by rw [HP.out, decide_eq_false h6]; rfl))
        have q1 := (hbl.cell (by exact hb)).trans g1
        have q2 := (hbl.cell (by exact hb)).trans g2
        have q3 := (hbl.cell (by exact hb)).trans g3
        clear h6
        have H1 := Lib.hid (rd_one wr Y 49)
        have HOa := Lib.hid (own_still HO.out ((Below.refl _ wr).alloc (Nat.le_refl _) (.cells #[.int .i64 Y.kind, .int .i64 Y.var, .string Y.lab, .bool Y.neg] 49)))
        have hba : Below w.heap.size w (wr.alloc (.cells #[.int .i64 Y.kind, .int .i64 Y.var, .string Y.lab, .bool Y.neg] 49)) := hbl.alloc hwl _
        go_wp2_with (at_builtin; refine wpList_append_nd rfl _ _ rfl w.heap.size _ _ D F [Y] HD.out rfl rfl HOa.out H1.out (by have := HD.out; simp; omega) (by simp; omega) w.heap.size w hba (Nat.le_refl _) ?_; intro v' w5 hown' hbl5; obtain ⟨a6, c6, rfl⟩ := owned_slice hown'.out)
        have HO5 : Hid (w5.ownsRow w.heap.size 49 4 (.slice a6 (D + 1) c6) (D + 1) (ndCells (putTo f g (k + 1)))) := Lib.hid (by rw [HM.out]; exact hown'.out)
        have HD5 : Hid (D + 1 = (putTo f g (k + 1)).length) := Lib.hid (by rw [HM.out, List.length_append, ← HD.out]; rfl)
        clear hown'
        go_roundw
        case rel => exact ⟨k + 1, D + 1, by omega, by omega, by go_num, HD5, by omega, HO5, hbl5⟩
        case measure => simp [intOf] <;> omega
    · obtain rfl : k = n := by omega
      have HR : Hid (OwNd wr w.heap.size (.slice a5 D c5) (putN f g)) := Lib.hid (by unfold putN; rw [← Hxn.out]; exact own_nd HO.out)
      go_wp2_with fail
      go_ret
      exact ⟨_, rfl, HR.out, hbl⟩
set_option maxRecDepth 100000 in
set_option maxHeartbeats 4000000 in
theorem l19Put_any (v vb : Value) (f g : List Nd) (w : World) (hn1 : 1 ≤ f.length) (hn : f.length ≤ 30) (hg : g.length ≤ 30) (hs : shapeN f = true) (hkd : ∀ i, i < f.length → inR (ndnth f i).kind 0 8 = true) (hv : RdNd w v f) (hvb : RdNd w vb g) :
    Calls Tryz.prog 91 #[v, vb] w fun e w' => ∃ u, e = .returned u ∧ OwNd w' w.heap.size u (putN f g) ∧ Below w.heap.size w w' := by
  have HV := Lib.hid hv
  have HG := Lib.hid hvb
  have HS := Lib.hid hs
  have HK := Lib.hid hkd
  clear hkd
  obtain ⟨a, cap, rfl, hcap, hcm, _⟩ := hv
  obtain ⟨ab, cb, rfl⟩ := hvb.slice
  unfold maxLen at hcm
  obtain ⟨n, hxn⟩ : ∃ n, n = f.length := ⟨_, rfl⟩
  rw [← hxn] at hcap HV hn hn1
  rw [← hxn]
  have Hxn := Lib.hid hxn
  clear hxn hvb hs
  go_enter Tryz.func91, Tryz.ntmps91
  go_wp2_with fail
  go_loopw [5, 6] (fun so si wr => ∃ k D : Nat, 1 ≤ k ∧ k ≤ n ∧ si = .int .i64 k ∧ Hid (D = (putTo f g k).length) ∧ D ≤ k * 31 ∧ Hid (wr.ownsRow w.heap.size 49 4 so D (ndCells (putTo f g k))) ∧ Below w.heap.size w wr) (fun _ si _ => n - (intOf si).toNat)
  case atStart => exact ⟨1, 0, Nat.le_refl _, hn1, rfl, Lib.hid rfl, by omega, Lib.hid (own_nd_nil _ (Nat.le_refl _)), (Below.refl _ _).alloc (Nat.le_refl _) _⟩
  case round =>
    obtain ⟨k, D, hk1, hk, rfl, HD, hDk, HO, hbl⟩ := hrel
    obtain ⟨a5, c5, rfl⟩ := owned_slice HO.out
    by_cases hlt : k < n
    · have hkf : k < f.length := by rw [← Hxn.out]; exact hlt
      obtain ⟨b, o, rfl, hb, g0, g1, g2, g3⟩ := RdNd.cells HV.out hkf
      have q0 := (hbl.cell (by exact hb)).trans g0
      have hwl := hbl.size
      have HHit : Hid (putHit f k = true → putTo f g (k + 1) = putTo f g k ++ g) := Lib.hid fun h => putTo_hit hk1 h
      have HMiss : Hid (putHit f k = false → putTo f g (k + 1) = putTo f g k ++ [ndnth f k]) := Lib.hid fun h => putTo_miss hk1 h
      have HP : Hid (putHit f k = (decide ((ndnth f k).kind = 6) && decide (bindN f k = 0))) := Lib.hid rfl
      obtain ⟨Y, hY⟩ : ∃ Y, Y = ndnth f k := ⟨_, rfl⟩
      obtain ⟨F, hF⟩ : ∃ F, F = putTo f g k := ⟨_, rfl⟩
      rw [← hY] at q0 g0 g1 g2 g3 HMiss HP
      rw [← hF] at HO HD HHit HMiss
      clear hY hF
      by_cases h6 : Y.kind = 6
      · have hkb : (Y.kind == 6) = true := by simpa using h6
        obtain ⟨r, hr⟩ : ∃ r, r = bindN f k := ⟨_, rfl⟩
        rw [← hr] at HP
        have Hr := Lib.hid hr
        have HP2 : Hid (putHit f k = decide (r = 0)) := Lib.hid (by rw [HP.out, decide_eq_true h6]; rfl)
        clear h6 hr
        by_cases hr0 : r = 0
        · have HM := Lib.hid (HHit.out (by rw [HP2.out, decide_eq_true hr0]))
          have hrb : (r == 0) = true := by simpa using hr0
          clear hr0
          go_wp2_with fail
          refine (l19Binder_any _ f k _ (by have := Hxn.out; omega) HS.out HK.out hkf (HV.out.below hbl)).mono ?_
          rw [← Hr.out]
          rintro e w4 ⟨rfl, hb4⟩
          have hbl4 := below_trans' hbl hb4
          have HO4 : Hid (w4.ownsRow w.heap.size 49 4 (.slice a5 D c5) D (ndCells F)) := Lib.hid (own_still HO.out hb4)
          have p0 := (hbl4.cell (by exact hb)).trans g0
          have p1 := (hbl4.cell (by exact hb)).trans g1
          have p2 := (hbl4.cell (by exact hb)).trans g2
          have p3 := (hbl4.cell (by exact hb)).trans g3
          have hwl4 := hbl4.size
          have HG4 := Lib.hid (HG.out.below hbl4)
          go_wp2_with (at_builtin; refine wpList_append_nd rfl _ _ rfl w.heap.size _ _ D F g HD.out rfl rfl HO4.out HG4.out (by have := HD.out; omega) hwl4 w.heap.size w hbl4 (Nat.le_refl _) ?_; intro v' w5 hown' hbl5; obtain ⟨a6, c6, rfl⟩ := owned_slice hown'.out)
          have HO5 : Hid (w5.ownsRow w.heap.size 49 4 (.slice a6 (D + g.length) c6) (D + g.length) (ndCells (putTo f g (k + 1)))) := Lib.hid (by rw [HM.out]; exact hown'.out)
          have HD5 : Hid (D + g.length = (putTo f g (k + 1)).length) := Lib.hid (by rw [HM.out, List.length_append, ← HD.out])
          clear hown'
          go_roundw
          case rel => exact ⟨k + 1, D + g.length, by omega, by omega, by go_num, HD5, by omega, HO5, hbl5⟩
          case measure => simp [intOf] <;> omega
        · have HM := Lib.hid (HMiss.out (by rw [HP2.out, decide_eq_false hr0]))
          have hrb : (r == 0) = false := by simpa using hr0
          clear hr0
          go_wp2_with fail
          refine (l19Binder_any _ f k _ (by have := Hxn.out; omega) HS.out HK.out hkf (HV.out.below hbl)).mono ?_
          rw [← Hr.out]
          rintro e w4 ⟨rfl, hb4⟩
          have hbl4 := below_trans' hbl hb4
          have HO4 : Hid (w4.ownsRow w.heap.size 49 4 (.slice a5 D c5) D (ndCells F)) := Lib.hid (own_still HO.out hb4)
          have p0 := (hbl4.cell (by exact hb)).trans g0
          have p1 := (hbl4.cell (by exact hb)).trans g1
          have p2 := (hbl4.cell (by exact hb)).trans g2
          have p3 := (hbl4.cell (by exact hb)).trans g3
          have hwl4 := hbl4.size
          have H1 := Lib.hid (rd_one w4 Y 49)
          have HOa := Lib.hid (own_still HO4.out ((Below.refl _ w4).alloc (Nat.le_refl _) (.cells #[.int .i64 Y.kind, .int .i64 Y.var, .string Y.lab, .bool Y.neg] 49)))
          have hba : Below w.heap.size w (w4.alloc (.cells #[.int .i64 Y.kind, .int .i64 Y.var, .string Y.lab, .bool Y.neg] 49)) := hbl4.alloc hwl4 _
          go_wp2_with (at_builtin; refine wpList_append_nd rfl _ _ rfl w.heap.size _ _ D F [Y] HD.out rfl rfl HOa.out H1.out (by have := HD.out; simp; omega) (by simp; omega) w.heap.size w hba (Nat.le_refl _) ?_; intro v' w5 hown' hbl5; obtain ⟨a6, c6, rfl⟩ := owned_slice hown'.out)
          have HO5 : Hid (w5.ownsRow w.heap.size 49 4 (.slice a6 (D + 1) c6) (D + 1) (ndCells (putTo f g (k + 1)))) := Lib.hid (by rw [HM.out]; exact hown'.out)
          have HD5 : Hid (D + 1 = (putTo f g (k + 1)).length) := Lib.hid (by rw [HM.out, List.length_append, ← HD.out]; rfl)
          clear hown'
          go_roundw
          case rel => exact ⟨k + 1, D + 1, by omega, by omega, by go_num, HD5, by omega, HO5, hbl5⟩
          case measure => simp [intOf] <;> omega
      · have hkb : (Y.kind == 6) = false := by simpa using h6
        have HM := Lib.hid (HMiss.out (by rw [HP.out, decide_eq_false h6]; rfl))
        have q1 := (hbl.cell (by exact hb)).trans g1
        have q2 := (hbl.cell (by exact hb)).trans g2
        have q3 := (hbl.cell (by exact hb)).trans g3
        clear h6
        have H1 := Lib.hid (rd_one wr Y 49)
        have HOa := Lib.hid (own_still HO.out ((Below.refl _ wr).alloc (Nat.le_refl _) (.cells #[.int .i64 Y.kind, .int .i64 Y.var, .string Y.lab, .bool Y.neg] 49)))
        have hba : Below w.heap.size w (wr.alloc (.cells #[.int .i64 Y.kind, .int .i64 Y.var, .string Y.lab, .bool Y.neg] 49)) := hbl.alloc hwl _
        go_wp2_with (at_builtin; refine wpList_append_nd rfl _ _ rfl w.heap.size _ _ D F [Y] HD.out rfl rfl HOa.out H1.out (by have := HD.out; simp; omega) (by simp; omega) w.heap.size w hba (Nat.le_refl _) ?_; intro v' w5 hown' hbl5; obtain ⟨a6, c6, rfl⟩ := owned_slice hown'.out)
        have HO5 : Hid (w5.ownsRow w.heap.size 49 4 (.slice a6 (D + 1) c6) (D + 1) (ndCells (putTo f g (k + 1)))) := Lib.hid (by rw [HM.out]; exact hown'.out)
        have HD5 : Hid (D + 1 = (putTo f g (k + 1)).length) := Lib.hid (by rw [HM.out, List.length_append, ← HD.out]; rfl)
        clear hown'
        go_roundw
        case rel => exact ⟨k + 1, D + 1, by omega, by omega, by go_num, HD5, by omega, HO5, hbl5⟩
        case measure => simp [intOf] <;> omega
    · obtain rfl : k = n := by omega
      have HR : Hid (OwNd wr w.heap.size (.slice a5 D c5) (putN f g)) := Lib.hid (by unfold putN; rw [← Hxn.out]; exact own_nd HO.out)
      go_wp2_with fail
      go_ret
      exact ⟨_, rfl, HR.out, hbl⟩
end Go.Proofs.YtmaadfoiaegdjaaGreatDoor
