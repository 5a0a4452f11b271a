/- FnExactSameSystem: the program and the reference answer alike, for every two arguments. No condition. -/
import Derived.Test.YtdlldgenkmngiaaRows
import Derived.Test.YtdlldgenkmngiaaSt
import Derived.Test.YtdlldgenkmngiaaStSz
import Derived.Test.YtdlldgenkmngiaaStTo
import Derived.Test.YtdlldgenkmngiaaStEq
import Derived.Test.YtdlldgenkmngiaaStI
import Derived.Test.YtdlldgenkmngiaaStY
import Derived.WalkKit
import Derived.BigQuiet
import Derived.Deep.RegionHeld3
import Derived.ProofKit
import Derived.OpenShut
import Derived.ShutString
import Derived.ChangeOld
import Derived.Below
set_option linter.unusedVariables false
set_option linter.unusedSimpArgs false
namespace Go.Proofs.Ytdlldgenkmngiaa.fnExactSameSystem
open Go.ChangeShapes Go.WideShapes Go.ChangeAt Go.RowKit
open Go.ChangeMaps (open_string shut_string)

theorem held {wr W W1 : World} {x y : Nat} {v0 v1 v2 v3 v4 v5 v6 v7 v8 v9 : Value} (hS : Below wr.heap.size wr W ∧ W.cell? ⟨x, 0, none⟩ = some v0 ∧ W.cell? ⟨x, 1, none⟩ = some v1 ∧ W.cell? ⟨x, 2, none⟩ = some v2 ∧ W.cell? ⟨x, 3, none⟩ = some v3 ∧ W.cell? ⟨x, 4, none⟩ = some v4 ∧ W.cell? ⟨y, 0, none⟩ = some v5 ∧ W.cell? ⟨y, 1, none⟩ = some v6 ∧ W.cell? ⟨y, 2, none⟩ = some v7 ∧ W.cell? ⟨y, 3, none⟩ = some v8 ∧ W.cell? ⟨y, 4, none⟩ = some v9) (hb : Below W.heap.size W W1) (hx : x < wr.heap.size) (hy : y < wr.heap.size) : Below wr.heap.size wr W1 ∧ W1.cell? ⟨x, 0, none⟩ = some v0 ∧ W1.cell? ⟨x, 1, none⟩ = some v1 ∧ W1.cell? ⟨x, 2, none⟩ = some v2 ∧ W1.cell? ⟨x, 3, none⟩ = some v3 ∧ W1.cell? ⟨x, 4, none⟩ = some v4 ∧ W1.cell? ⟨y, 0, none⟩ = some v5 ∧ W1.cell? ⟨y, 1, none⟩ = some v6 ∧ W1.cell? ⟨y, 2, none⟩ = some v7 ∧ W1.cell? ⟨y, 3, none⟩ = some v8 ∧ W1.cell? ⟨y, 4, none⟩ = some v9 := by
  obtain ⟨h0, h1, h2, h3, h4, h5, h6, h7, h8, h9, h10⟩ := hS
  have hz := h0.size
  exact ⟨below_trans' h0 hb, (hb.cell (show x < W.heap.size by omega)).trans h1, (hb.cell (show x < W.heap.size by omega)).trans h2, (hb.cell (show x < W.heap.size by omega)).trans h3, (hb.cell (show x < W.heap.size by omega)).trans h4, (hb.cell (show x < W.heap.size by omega)).trans h5, (hb.cell (show y < W.heap.size by omega)).trans h6, (hb.cell (show y < W.heap.size by omega)).trans h7, (hb.cell (show y < W.heap.size by omega)).trans h8, (hb.cell (show y < W.heap.size by omega)).trans h9, (hb.cell (show y < W.heap.size by omega)).trans h10⟩
set_option maxRecDepth 100000 in
set_option maxHeartbeats 8000000 in
theorem walk (v0 : Value) (a : Sy) (v1 : Value) (b : Sy) (w : World) (hA : AtSy w v0 a) (hB : AtSy w v1 b) :
    Calls Try.prog 5 #[v0, v1] w fun e w' => e = .returned (.bool true) ∧ Below w.heap.size w w' := by
  obtain ⟨sa0, sa1, sa2, sa3, sa4, sc0, sc1, sc2, sc3, sc4, rfl, hs0, hs1, hs2, hs3, hs4, hea⟩ := hA
  obtain ⟨ta0, ta1, ta2, ta3, ta4, tc0, tc1, tc2, tc3, tc4, rfl, ht0, ht1, ht2, ht3, ht4, heb⟩ := hB
  have Hs0 := Lib.hid hs0
  have Ht0 := Lib.hid ht0
  have Hs1 := Lib.hid hs1
  have Ht1 := Lib.hid ht1
  have Hs2 := Lib.hid hs2
  have Ht2 := Lib.hid ht2
  have Hs3 := Lib.hid hs3
  have Ht3 := Lib.hid ht3
  have Hs4 := Lib.hid hs4
  have Ht4 := Lib.hid ht4
  clear hs0 ht0 hs1 ht1 hs2 ht2 hs3 ht3 hs4 ht4
  have Hea := Lib.hid hea
  have Heb := Lib.hid heb
  clear hea heb
  have hB0 : ∀ x y : Obj, Below w.heap.size w ((w.alloc x).alloc y) := fun x y => ((Below.refl _ w).alloc (Nat.le_refl _) _).alloc (by simp) _
  by_cases z0 : (wtSy a : Int) ≤ 1048576
  case neg =>
    go_enter Try.func5, Try.ntmps5
    go_wp2_with fail
    refine (szSye_any a _ _ (by decide) (by decide) Hea.out (Hs0.out.keep (Keep.of_below _ _ (hB0 _ _))) (Hs1.out.keep (Keep.of_below _ _ (hB0 _ _))) (Hs2.out.keep (Keep.of_below _ _ (hB0 _ _))) (Hs3.out.keep (Keep.of_below _ _ (hB0 _ _))) (Hs4.out.keep (Keep.of_below _ _ (hB0 _ _)))).mono ?_
    rw [cut_no (by omega)]
    rintro e w1 ⟨rfl, hb1⟩
    go_wp2_with fail
    go_ret
    exact ⟨rfl, (hB0 _ _).trans (hb1.mono (hB0 _ _).size)⟩
  by_cases z1 : (wtSy b : Int) ≤ 1048576 - (wtSy a : Int)
  case neg =>
    go_enter Try.func5, Try.ntmps5
    go_wp2_with fail
    refine (szSye_any a _ _ (by decide) (by decide) Hea.out (Hs0.out.keep (Keep.of_below _ _ (hB0 _ _))) (Hs1.out.keep (Keep.of_below _ _ (hB0 _ _))) (Hs2.out.keep (Keep.of_below _ _ (hB0 _ _))) (Hs3.out.keep (Keep.of_below _ _ (hB0 _ _))) (Hs4.out.keep (Keep.of_below _ _ (hB0 _ _)))).mono ?_
    rw [cut_yes z0]
    rintro e w1 ⟨rfl, hb1⟩
    have e1 := box_one hb1
    have e2 := box_two hb1
    have B1 : Below w.heap.size w w1 := (hB0 _ _).trans (hb1.mono (hB0 _ _).size)
    have p0 : w1.cell? ⟨w.heap.size, 0, none⟩ = some (.slice sa0 a.defs.length sc0) := by simp [World.cell?, e1]
    have q0 : w1.cell? ⟨w.heap.size + 1, 0, none⟩ = some (.slice ta0 b.defs.length tc0) := by simp [World.cell?, e2]
    have p1 : w1.cell? ⟨w.heap.size, 1, none⟩ = some (.slice sa1 a.comps.length sc1) := by simp [World.cell?, e1]
    have q1 : w1.cell? ⟨w.heap.size + 1, 1, none⟩ = some (.slice ta1 b.comps.length tc1) := by simp [World.cell?, e2]
    have p2 : w1.cell? ⟨w.heap.size, 2, none⟩ = some (.slice sa2 a.meets.length sc2) := by simp [World.cell?, e1]
    have q2 : w1.cell? ⟨w.heap.size + 1, 2, none⟩ = some (.slice ta2 b.meets.length tc2) := by simp [World.cell?, e2]
    have p3 : w1.cell? ⟨w.heap.size, 3, none⟩ = some (.slice sa3 a.allow.length sc3) := by simp [World.cell?, e1]
    have q3 : w1.cell? ⟨w.heap.size + 1, 3, none⟩ = some (.slice ta3 b.allow.length tc3) := by simp [World.cell?, e2]
    have p4 : w1.cell? ⟨w.heap.size, 4, none⟩ = some (.slice sa4 a.hide.length sc4) := by simp [World.cell?, e1]
    have q4 : w1.cell? ⟨w.heap.size + 1, 4, none⟩ = some (.slice ta4 b.hide.length tc4) := by simp [World.cell?, e2]
    have hnn : ¬ (1048576 - (wtSy a : Int) < 0) := by omega
    go_wp2_with fail
    refine (szSye_any b _ _ (by omega) (by omega) Heb.out (Ht0.out.keep (Keep.of_below _ _ B1)) (Ht1.out.keep (Keep.of_below _ _ B1)) (Ht2.out.keep (Keep.of_below _ _ B1)) (Ht3.out.keep (Keep.of_below _ _ B1)) (Ht4.out.keep (Keep.of_below _ _ B1))).mono ?_
    rw [cut_no (by omega)]
    rintro e w2 ⟨rfl, hb2⟩
    go_wp2_with fail
    go_ret
    exact ⟨rfl, below_trans' B1 hb2⟩
  have hna : wtSy a ≤ 1048576 := by omega
  have hnb : wtSy b ≤ 1048576 := by omega
  go_enter Try.func5, Try.ntmps5
  go_wp2_with fail
  refine (szSye_any a _ _ (by decide) (by decide) Hea.out (Hs0.out.keep (Keep.of_below _ _ (hB0 _ _))) (Hs1.out.keep (Keep.of_below _ _ (hB0 _ _))) (Hs2.out.keep (Keep.of_below _ _ (hB0 _ _))) (Hs3.out.keep (Keep.of_below _ _ (hB0 _ _))) (Hs4.out.keep (Keep.of_below _ _ (hB0 _ _)))).mono ?_
  rw [cut_yes z0]
  rintro e w1 ⟨rfl, hb1⟩
  have e1 := box_one hb1
  have e2 := box_two hb1
  have B1 : Below w.heap.size w w1 := (hB0 _ _).trans (hb1.mono (hB0 _ _).size)
  have p0 : w1.cell? ⟨w.heap.size, 0, none⟩ = some (.slice sa0 a.defs.length sc0) := by simp [World.cell?, e1]
  have q0 : w1.cell? ⟨w.heap.size + 1, 0, none⟩ = some (.slice ta0 b.defs.length tc0) := by simp [World.cell?, e2]
  have p1 : w1.cell? ⟨w.heap.size, 1, none⟩ = some (.slice sa1 a.comps.length sc1) := by simp [World.cell?, e1]
  have q1 : w1.cell? ⟨w.heap.size + 1, 1, none⟩ = some (.slice ta1 b.comps.length tc1) := by simp [World.cell?, e2]
  have p2 : w1.cell? ⟨w.heap.size, 2, none⟩ = some (.slice sa2 a.meets.length sc2) := by simp [World.cell?, e1]
  have q2 : w1.cell? ⟨w.heap.size + 1, 2, none⟩ = some (.slice ta2 b.meets.length tc2) := by simp [World.cell?, e2]
  have p3 : w1.cell? ⟨w.heap.size, 3, none⟩ = some (.slice sa3 a.allow.length sc3) := by simp [World.cell?, e1]
  have q3 : w1.cell? ⟨w.heap.size + 1, 3, none⟩ = some (.slice ta3 b.allow.length tc3) := by simp [World.cell?, e2]
  have p4 : w1.cell? ⟨w.heap.size, 4, none⟩ = some (.slice sa4 a.hide.length sc4) := by simp [World.cell?, e1]
  have q4 : w1.cell? ⟨w.heap.size + 1, 4, none⟩ = some (.slice ta4 b.hide.length tc4) := by simp [World.cell?, e2]
  have hnn : ¬ (1048576 - (wtSy a : Int) < 0) := by omega
  go_wp2_with fail
  refine (szSye_any b _ _ (by omega) (by omega) Heb.out (Ht0.out.keep (Keep.of_below _ _ B1)) (Ht1.out.keep (Keep.of_below _ _ B1)) (Ht2.out.keep (Keep.of_below _ _ B1)) (Ht3.out.keep (Keep.of_below _ _ B1)) (Ht4.out.keep (Keep.of_below _ _ B1))).mono ?_
  rw [cut_yes z1]
  rintro e w2 ⟨rfl, hb2⟩
  have B2 := below_trans' B1 hb2
  replace e1 := (hb2.block _ (lt_of_some e1)).trans e1
  replace e2 := (hb2.block _ (lt_of_some e2)).trans e2
  have l1 := lt_of_some e1
  have l2 := lt_of_some e2
  have hnn2 : ¬ (1048576 - (wtSy a : Int) - (wtSy b : Int) < 0) := by omega
  have p0 : w2.cell? ⟨w.heap.size, 0, none⟩ = some (.slice sa0 a.defs.length sc0) := by simp [World.cell?, e1]
  have q0 : w2.cell? ⟨w.heap.size + 1, 0, none⟩ = some (.slice ta0 b.defs.length tc0) := by simp [World.cell?, e2]
  have p1 : w2.cell? ⟨w.heap.size, 1, none⟩ = some (.slice sa1 a.comps.length sc1) := by simp [World.cell?, e1]
  have q1 : w2.cell? ⟨w.heap.size + 1, 1, none⟩ = some (.slice ta1 b.comps.length tc1) := by simp [World.cell?, e2]
  have p2 : w2.cell? ⟨w.heap.size, 2, none⟩ = some (.slice sa2 a.meets.length sc2) := by simp [World.cell?, e1]
  have q2 : w2.cell? ⟨w.heap.size + 1, 2, none⟩ = some (.slice ta2 b.meets.length tc2) := by simp [World.cell?, e2]
  have p3 : w2.cell? ⟨w.heap.size, 3, none⟩ = some (.slice sa3 a.allow.length sc3) := by simp [World.cell?, e1]
  have q3 : w2.cell? ⟨w.heap.size + 1, 3, none⟩ = some (.slice ta3 b.allow.length tc3) := by simp [World.cell?, e2]
  have p4 : w2.cell? ⟨w.heap.size, 4, none⟩ = some (.slice sa4 a.hide.length sc4) := by simp [World.cell?, e1]
  have q4 : w2.cell? ⟨w.heap.size + 1, 4, none⟩ = some (.slice ta4 b.hide.length tc4) := by simp [World.cell?, e2]
  clear hb1 hb2 B1 z0 z1
  go_wp2_with fail
  have hd0 : Below w2.heap.size w2 w2.drew := Below.drew (Below.refl _ _)
  go_region_held3 (fun W => Below w2.heap.size w2 W ∧ W.cell? ⟨w.heap.size, 0, none⟩ = some (.slice sa0 a.defs.length sc0) ∧ W.cell? ⟨w.heap.size, 1, none⟩ = some (.slice sa1 a.comps.length sc1) ∧ W.cell? ⟨w.heap.size, 2, none⟩ = some (.slice sa2 a.meets.length sc2) ∧ W.cell? ⟨w.heap.size, 3, none⟩ = some (.slice sa3 a.allow.length sc3) ∧ W.cell? ⟨w.heap.size, 4, none⟩ = some (.slice sa4 a.hide.length sc4) ∧ W.cell? ⟨(w.heap.size + 1), 0, none⟩ = some (.slice ta0 b.defs.length tc0) ∧ W.cell? ⟨(w.heap.size + 1), 1, none⟩ = some (.slice ta1 b.comps.length tc1) ∧ W.cell? ⟨(w.heap.size + 1), 2, none⟩ = some (.slice ta2 b.meets.length tc2) ∧ W.cell? ⟨(w.heap.size + 1), 3, none⟩ = some (.slice ta3 b.allow.length tc3) ∧ W.cell? ⟨(w.heap.size + 1), 4, none⟩ = some (.slice ta4 b.hide.length tc4)) ((first | exact ⟨hd0, p0, p1, p2, p3, p4, q0, q1, q2, q3, q4⟩ | exact held (by assumption) (by assumption) l1 l2)) ((first | (have _h := hb4; (go_at_call 17; refine (spec_SameSystem_any a b _ hna (ug0.keep (Keep.of_below _ _ hb4)) (ug1.keep (Keep.of_below _ _ hb4)) (ug2.keep (Keep.of_below _ _ hb4)) (ug3.keep (Keep.of_below _ _ hb4)) (ug4.keep (Keep.of_below _ _ hb4)) xg0 xg1 xg2 xg3 xg4).mono ?_; rintro e w5 ⟨rfl, hb5⟩)) | (have _h := hb3; (go_at_call 18; refine (toSye_any b _ hnb (Ht0.out.keep (Keep.of_below _ _ (below_trans' B2 (by assumption : Below w2.heap.size w2 _ ∧ _).1))) (Ht1.out.keep (Keep.of_below _ _ (below_trans' B2 (by assumption : Below w2.heap.size w2 _ ∧ _).1))) (Ht2.out.keep (Keep.of_below _ _ (below_trans' B2 (by assumption : Below w2.heap.size w2 _ ∧ _).1))) (Ht3.out.keep (Keep.of_below _ _ (below_trans' B2 (by assumption : Below w2.heap.size w2 _ ∧ _).1))) (Ht4.out.keep (Keep.of_below _ _ (below_trans' B2 (by assumption : Below w2.heap.size w2 _ ∧ _).1)))).mono ?_; rintro e w4 ⟨xa0, xc0, xa1, xc1, xa2, xc2, xa3, xc3, xa4, xc4, rfl, xg0, xg1, xg2, xg3, xg4, hb4⟩)) | (go_at_call 18; refine (toSye_any a _ hna (Hs0.out.keep (Keep.of_below _ _ (below_trans' B2 (by assumption : Below w2.heap.size w2 _ ∧ _).1))) (Hs1.out.keep (Keep.of_below _ _ (below_trans' B2 (by assumption : Below w2.heap.size w2 _ ∧ _).1))) (Hs2.out.keep (Keep.of_below _ _ (below_trans' B2 (by assumption : Below w2.heap.size w2 _ ∧ _).1))) (Hs3.out.keep (Keep.of_below _ _ (below_trans' B2 (by assumption : Below w2.heap.size w2 _ ∧ _).1))) (Hs4.out.keep (Keep.of_below _ _ (below_trans' B2 (by assumption : Below w2.heap.size w2 _ ∧ _).1)))).mono ?_; rintro e w3 ⟨ua0, uc0, ua1, uc1, ua2, uc2, ua3, uc3, ua4, uc4, rfl, ug0, ug1, ug2, ug3, ug4, hb3⟩) | fail))
  have hH : Below w2.heap.size w2 w5 := (by assumption : Below w2.heap.size w2 w5 ∧ _).1
  have B5 := below_trans' B2 hH
  replace e1 := (hH.block _ (lt_of_some e1)).trans e1
  replace e2 := (hH.block _ (lt_of_some e2)).trans e2
  clear hd0 hH
  have p0 : w5.cell? ⟨w.heap.size, 0, none⟩ = some (.slice sa0 a.defs.length sc0) := by simp [World.cell?, e1]
  have q0 : w5.cell? ⟨w.heap.size + 1, 0, none⟩ = some (.slice ta0 b.defs.length tc0) := by simp [World.cell?, e2]
  have p1 : w5.cell? ⟨w.heap.size, 1, none⟩ = some (.slice sa1 a.comps.length sc1) := by simp [World.cell?, e1]
  have q1 : w5.cell? ⟨w.heap.size + 1, 1, none⟩ = some (.slice ta1 b.comps.length tc1) := by simp [World.cell?, e2]
  have p2 : w5.cell? ⟨w.heap.size, 2, none⟩ = some (.slice sa2 a.meets.length sc2) := by simp [World.cell?, e1]
  have q2 : w5.cell? ⟨w.heap.size + 1, 2, none⟩ = some (.slice ta2 b.meets.length tc2) := by simp [World.cell?, e2]
  have p3 : w5.cell? ⟨w.heap.size, 3, none⟩ = some (.slice sa3 a.allow.length sc3) := by simp [World.cell?, e1]
  have q3 : w5.cell? ⟨w.heap.size + 1, 3, none⟩ = some (.slice ta3 b.allow.length tc3) := by simp [World.cell?, e2]
  have p4 : w5.cell? ⟨w.heap.size, 4, none⟩ = some (.slice sa4 a.hide.length sc4) := by simp [World.cell?, e1]
  have q4 : w5.cell? ⟨w.heap.size + 1, 4, none⟩ = some (.slice ta4 b.hide.length tc4) := by simp [World.cell?, e2]
  go_wp2_with fail
  refine (toSye_any a _ hna (Hs0.out.keep (Keep.of_below _ _ B5)) (Hs1.out.keep (Keep.of_below _ _ B5)) (Hs2.out.keep (Keep.of_below _ _ B5)) (Hs3.out.keep (Keep.of_below _ _ B5)) (Hs4.out.keep (Keep.of_below _ _ B5))).mono ?_
  rintro e w6 ⟨fa0, fc0, fa1, fc1, fa2, fc2, fa3, fc3, fa4, fc4, rfl, fg0, fg1, fg2, fg3, fg4, hb6⟩
  have B6 := below_trans' B5 hb6
  replace e1 := (hb6.block _ (lt_of_some e1)).trans e1
  replace e2 := (hb6.block _ (lt_of_some e2)).trans e2
  have b6 : Below w6.heap.size w6 (w6.alloc (.cells #[.slice fa0 a.defs.length fc0, .slice fa1 a.comps.length fc1, .slice fa2 a.meets.length fc2, .slice fa3 a.allow.length fc3, .slice fa4 a.hide.length fc4] 51)) := (Below.refl _ _).alloc (Nat.le_refl _) _
  have B7 := below_trans' B6 b6
  have f1 := (b6.block _ (lt_of_some e1)).trans e1
  have f2 := (b6.block _ (lt_of_some e2)).trans e2
  have r0 : (w6.alloc (.cells #[.slice fa0 a.defs.length fc0, .slice fa1 a.comps.length fc1, .slice fa2 a.meets.length fc2, .slice fa3 a.allow.length fc3, .slice fa4 a.hide.length fc4] 51)).cell? ⟨w.heap.size + 1, 0, none⟩ = some (.slice ta0 b.defs.length tc0) := by simp [World.cell?, f2]
  have r1 : (w6.alloc (.cells #[.slice fa0 a.defs.length fc0, .slice fa1 a.comps.length fc1, .slice fa2 a.meets.length fc2, .slice fa3 a.allow.length fc3, .slice fa4 a.hide.length fc4] 51)).cell? ⟨w.heap.size + 1, 1, none⟩ = some (.slice ta1 b.comps.length tc1) := by simp [World.cell?, f2]
  have r2 : (w6.alloc (.cells #[.slice fa0 a.defs.length fc0, .slice fa1 a.comps.length fc1, .slice fa2 a.meets.length fc2, .slice fa3 a.allow.length fc3, .slice fa4 a.hide.length fc4] 51)).cell? ⟨w.heap.size + 1, 2, none⟩ = some (.slice ta2 b.meets.length tc2) := by simp [World.cell?, f2]
  have r3 : (w6.alloc (.cells #[.slice fa0 a.defs.length fc0, .slice fa1 a.comps.length fc1, .slice fa2 a.meets.length fc2, .slice fa3 a.allow.length fc3, .slice fa4 a.hide.length fc4] 51)).cell? ⟨w.heap.size + 1, 3, none⟩ = some (.slice ta3 b.allow.length tc3) := by simp [World.cell?, f2]
  have r4 : (w6.alloc (.cells #[.slice fa0 a.defs.length fc0, .slice fa1 a.comps.length fc1, .slice fa2 a.meets.length fc2, .slice fa3 a.allow.length fc3, .slice fa4 a.hide.length fc4] 51)).cell? ⟨w.heap.size + 1, 4, none⟩ = some (.slice ta4 b.hide.length tc4) := by simp [World.cell?, f2]
  go_wp2_with fail
  refine (toSye_any b _ hnb (Ht0.out.keep (Keep.of_below _ _ B7)) (Ht1.out.keep (Keep.of_below _ _ B7)) (Ht2.out.keep (Keep.of_below _ _ B7)) (Ht3.out.keep (Keep.of_below _ _ B7)) (Ht4.out.keep (Keep.of_below _ _ B7))).mono ?_
  rintro e w8 ⟨ga0, gc0, ga1, gc1, ga2, gc2, ga3, gc3, ga4, gc4, rfl, gg0, gg1, gg2, gg3, gg4, hb8⟩
  have B8 := below_trans' B7 hb8
  have e3 := box_only hb8
  replace f1 := (hb8.block _ (lt_of_some f1)).trans f1
  replace f2 := (hb8.block _ (lt_of_some f2)).trans f2
  have hk6 : Below w6.heap.size w6 w8 := b6.trans (hb8.mono b6.size)
  replace fg0 := (fg0.keep (Keep.of_below _ _ hk6))
  replace fg1 := (fg1.keep (Keep.of_below _ _ hk6))
  replace fg2 := (fg2.keep (Keep.of_below _ _ hk6))
  replace fg3 := (fg3.keep (Keep.of_below _ _ hk6))
  replace fg4 := (fg4.keep (Keep.of_below _ _ hk6))
  clear b6 hb8 hb6
  have b8 : Below w8.heap.size w8 (w8.alloc (.cells #[.slice ga0 b.defs.length gc0, .slice ga1 b.comps.length gc1, .slice ga2 b.meets.length gc2, .slice ga3 b.allow.length gc3, .slice ga4 b.hide.length gc4] 51)) := (Below.refl _ _).alloc (Nat.le_refl _) _
  have e4 : (w8.alloc (.cells #[.slice ga0 b.defs.length gc0, .slice ga1 b.comps.length gc1, .slice ga2 b.meets.length gc2, .slice ga3 b.allow.length gc3, .slice ga4 b.hide.length gc4] 51)).heap[w8.heap.size]? = some (.cells #[.slice ga0 b.defs.length gc0, .slice ga1 b.comps.length gc1, .slice ga2 b.meets.length gc2, .slice ga3 b.allow.length gc3, .slice ga4 b.hide.length gc4] 51) := by
    show (w8.heap.push _)[w8.heap.size]? = some _
    rw [Array.getElem?_push, if_pos rfl]
  have B9 := below_trans' B8 b8
  replace e3 := (b8.block _ (lt_of_some e3)).trans e3
  replace f1 := (b8.block _ (lt_of_some f1)).trans f1
  replace f2 := (b8.block _ (lt_of_some f2)).trans f2
  replace fg0 := (fg0.keep (Keep.of_below _ _ b8))
  replace gg0 := (gg0.keep (Keep.of_below _ _ b8))
  replace fg1 := (fg1.keep (Keep.of_below _ _ b8))
  replace gg1 := (gg1.keep (Keep.of_below _ _ b8))
  replace fg2 := (fg2.keep (Keep.of_below _ _ b8))
  replace gg2 := (gg2.keep (Keep.of_below _ _ b8))
  replace fg3 := (fg3.keep (Keep.of_below _ _ b8))
  replace gg3 := (gg3.keep (Keep.of_below _ _ b8))
  replace fg4 := (fg4.keep (Keep.of_below _ _ b8))
  replace gg4 := (gg4.keep (Keep.of_below _ _ b8))
  have s0 : (w8.alloc (.cells #[.slice ga0 b.defs.length gc0, .slice ga1 b.comps.length gc1, .slice ga2 b.meets.length gc2, .slice ga3 b.allow.length gc3, .slice ga4 b.hide.length gc4] 51)).cell? ⟨w6.heap.size, 0, none⟩ = some (.slice fa0 a.defs.length fc0) := (cell_of_row _ _ _ _ _ _ e3).trans rfl
  have s1 : (w8.alloc (.cells #[.slice ga0 b.defs.length gc0, .slice ga1 b.comps.length gc1, .slice ga2 b.meets.length gc2, .slice ga3 b.allow.length gc3, .slice ga4 b.hide.length gc4] 51)).cell? ⟨w6.heap.size, 1, none⟩ = some (.slice fa1 a.comps.length fc1) := (cell_of_row _ _ _ _ _ _ e3).trans rfl
  have s2 : (w8.alloc (.cells #[.slice ga0 b.defs.length gc0, .slice ga1 b.comps.length gc1, .slice ga2 b.meets.length gc2, .slice ga3 b.allow.length gc3, .slice ga4 b.hide.length gc4] 51)).cell? ⟨w6.heap.size, 2, none⟩ = some (.slice fa2 a.meets.length fc2) := (cell_of_row _ _ _ _ _ _ e3).trans rfl
  have s3 : (w8.alloc (.cells #[.slice ga0 b.defs.length gc0, .slice ga1 b.comps.length gc1, .slice ga2 b.meets.length gc2, .slice ga3 b.allow.length gc3, .slice ga4 b.hide.length gc4] 51)).cell? ⟨w6.heap.size, 3, none⟩ = some (.slice fa3 a.allow.length fc3) := (cell_of_row _ _ _ _ _ _ e3).trans rfl
  have s4 : (w8.alloc (.cells #[.slice ga0 b.defs.length gc0, .slice ga1 b.comps.length gc1, .slice ga2 b.meets.length gc2, .slice ga3 b.allow.length gc3, .slice ga4 b.hide.length gc4] 51)).cell? ⟨w6.heap.size, 4, none⟩ = some (.slice fa4 a.hide.length fc4) := (cell_of_row _ _ _ _ _ _ e3).trans rfl
  have t0 : (w8.alloc (.cells #[.slice ga0 b.defs.length gc0, .slice ga1 b.comps.length gc1, .slice ga2 b.meets.length gc2, .slice ga3 b.allow.length gc3, .slice ga4 b.hide.length gc4] 51)).cell? ⟨w8.heap.size, 0, none⟩ = some (.slice ga0 b.defs.length gc0) := (cell_of_row _ _ _ _ _ _ e4).trans rfl
  have t1 : (w8.alloc (.cells #[.slice ga0 b.defs.length gc0, .slice ga1 b.comps.length gc1, .slice ga2 b.meets.length gc2, .slice ga3 b.allow.length gc3, .slice ga4 b.hide.length gc4] 51)).cell? ⟨w8.heap.size, 1, none⟩ = some (.slice ga1 b.comps.length gc1) := (cell_of_row _ _ _ _ _ _ e4).trans rfl
  have t2 : (w8.alloc (.cells #[.slice ga0 b.defs.length gc0, .slice ga1 b.comps.length gc1, .slice ga2 b.meets.length gc2, .slice ga3 b.allow.length gc3, .slice ga4 b.hide.length gc4] 51)).cell? ⟨w8.heap.size, 2, none⟩ = some (.slice ga2 b.meets.length gc2) := (cell_of_row _ _ _ _ _ _ e4).trans rfl
  have t3 : (w8.alloc (.cells #[.slice ga0 b.defs.length gc0, .slice ga1 b.comps.length gc1, .slice ga2 b.meets.length gc2, .slice ga3 b.allow.length gc3, .slice ga4 b.hide.length gc4] 51)).cell? ⟨w8.heap.size, 3, none⟩ = some (.slice ga3 b.allow.length gc3) := (cell_of_row _ _ _ _ _ _ e4).trans rfl
  have t4 : (w8.alloc (.cells #[.slice ga0 b.defs.length gc0, .slice ga1 b.comps.length gc1, .slice ga2 b.meets.length gc2, .slice ga3 b.allow.length gc3, .slice ga4 b.hide.length gc4] 51)).cell? ⟨w8.heap.size, 4, none⟩ = some (.slice ga4 b.hide.length gc4) := (cell_of_row _ _ _ _ _ _ e4).trans rfl
  obtain ⟨d, hd⟩ : ∃ d, d = decide (a = b) := ⟨_, rfl⟩
  rw [← hd]
  go_wp2_with fail
  refine (SameSystem_any a b _ hna fg0 fg1 fg2 fg3 fg4 gg0 gg1 gg2 gg3 gg4).mono ?_
  rw [← hd]
  rintro e w10 ⟨rfl, hb10⟩
  clear hd
  have hdd : (d != d) = false := by simp
  have B10 := below_trans' B9 hb10
  replace e3 := (hb10.block _ (lt_of_some e3)).trans e3
  replace e4 := (hb10.block _ (lt_of_some e4)).trans e4
  replace f1 := (hb10.block _ (lt_of_some f1)).trans f1
  replace f2 := (hb10.block _ (lt_of_some f2)).trans f2
  replace fg0 := (fg0.keep (Keep.of_below _ _ hb10))
  replace gg0 := (gg0.keep (Keep.of_below _ _ hb10))
  replace fg1 := (fg1.keep (Keep.of_below _ _ hb10))
  replace gg1 := (gg1.keep (Keep.of_below _ _ hb10))
  replace fg2 := (fg2.keep (Keep.of_below _ _ hb10))
  replace gg2 := (gg2.keep (Keep.of_below _ _ hb10))
  replace fg3 := (fg3.keep (Keep.of_below _ _ hb10))
  replace gg3 := (gg3.keep (Keep.of_below _ _ hb10))
  replace fg4 := (fg4.keep (Keep.of_below _ _ hb10))
  replace gg4 := (gg4.keep (Keep.of_below _ _ hb10))
  have l3 := lt_of_some e3
  have l4 := lt_of_some e4
  replace l1 := lt_of_some f1
  replace l2 := lt_of_some f2
  clear B5 B6 B7 B8 B9 hk6 b8
  have s0 : w10.cell? ⟨w6.heap.size, 0, none⟩ = some (.slice fa0 a.defs.length fc0) := (cell_of_row _ _ _ _ _ _ e3).trans rfl
  have s1 : w10.cell? ⟨w6.heap.size, 1, none⟩ = some (.slice fa1 a.comps.length fc1) := (cell_of_row _ _ _ _ _ _ e3).trans rfl
  have s2 : w10.cell? ⟨w6.heap.size, 2, none⟩ = some (.slice fa2 a.meets.length fc2) := (cell_of_row _ _ _ _ _ _ e3).trans rfl
  have s3 : w10.cell? ⟨w6.heap.size, 3, none⟩ = some (.slice fa3 a.allow.length fc3) := (cell_of_row _ _ _ _ _ _ e3).trans rfl
  have s4 : w10.cell? ⟨w6.heap.size, 4, none⟩ = some (.slice fa4 a.hide.length fc4) := (cell_of_row _ _ _ _ _ _ e3).trans rfl
  have p0 : w10.cell? ⟨w.heap.size, 0, none⟩ = some (.slice sa0 a.defs.length sc0) := (cell_of_row _ _ _ _ _ _ f1).trans rfl
  have p1 : w10.cell? ⟨w.heap.size, 1, none⟩ = some (.slice sa1 a.comps.length sc1) := (cell_of_row _ _ _ _ _ _ f1).trans rfl
  have p2 : w10.cell? ⟨w.heap.size, 2, none⟩ = some (.slice sa2 a.meets.length sc2) := (cell_of_row _ _ _ _ _ _ f1).trans rfl
  have p3 : w10.cell? ⟨w.heap.size, 3, none⟩ = some (.slice sa3 a.allow.length sc3) := (cell_of_row _ _ _ _ _ _ f1).trans rfl
  have p4 : w10.cell? ⟨w.heap.size, 4, none⟩ = some (.slice sa4 a.hide.length sc4) := (cell_of_row _ _ _ _ _ _ f1).trans rfl
  go_wp2_with fail
  have hd1 : Below w10.heap.size w10 w10.drew := Below.drew (Below.refl _ _)
  go_region_held3 (fun W => Below w10.heap.size w10 W ∧ W.cell? ⟨w6.heap.size, 0, none⟩ = some (.slice fa0 a.defs.length fc0) ∧ W.cell? ⟨w6.heap.size, 1, none⟩ = some (.slice fa1 a.comps.length fc1) ∧ W.cell? ⟨w6.heap.size, 2, none⟩ = some (.slice fa2 a.meets.length fc2) ∧ W.cell? ⟨w6.heap.size, 3, none⟩ = some (.slice fa3 a.allow.length fc3) ∧ W.cell? ⟨w6.heap.size, 4, none⟩ = some (.slice fa4 a.hide.length fc4) ∧ W.cell? ⟨w.heap.size, 0, none⟩ = some (.slice sa0 a.defs.length sc0) ∧ W.cell? ⟨w.heap.size, 1, none⟩ = some (.slice sa1 a.comps.length sc1) ∧ W.cell? ⟨w.heap.size, 2, none⟩ = some (.slice sa2 a.meets.length sc2) ∧ W.cell? ⟨w.heap.size, 3, none⟩ = some (.slice sa3 a.allow.length sc3) ∧ W.cell? ⟨w.heap.size, 4, none⟩ = some (.slice sa4 a.hide.length sc4)) ((first | exact ⟨hd1, s0, s1, s2, s3, s4, p0, p1, p2, p3, p4⟩ | exact held (by assumption) (by assumption) l3 l1)) ((first | (have _h := hb11; go_at_call 20; refine (eqSye_any a a _ hna (fg0.keep (Keep.of_below _ _ (by assumption : Below w10.heap.size w10 _ ∧ _).1)) (fg1.keep (Keep.of_below _ _ (by assumption : Below w10.heap.size w10 _ ∧ _).1)) (fg2.keep (Keep.of_below _ _ (by assumption : Below w10.heap.size w10 _ ∧ _).1)) (fg3.keep (Keep.of_below _ _ (by assumption : Below w10.heap.size w10 _ ∧ _).1)) (fg4.keep (Keep.of_below _ _ (by assumption : Below w10.heap.size w10 _ ∧ _).1)) mg0 mg1 mg2 mg3 mg4).mono ?_; rw [decide_eq_true rfl]; rintro e w12 ⟨rfl, hb12⟩) | (go_at_call 18; refine (toSye_any a _ hna (Hs0.out.keep (Keep.of_below _ _ (below_trans' B10 (by assumption : Below w10.heap.size w10 _ ∧ _).1))) (Hs1.out.keep (Keep.of_below _ _ (below_trans' B10 (by assumption : Below w10.heap.size w10 _ ∧ _).1))) (Hs2.out.keep (Keep.of_below _ _ (below_trans' B10 (by assumption : Below w10.heap.size w10 _ ∧ _).1))) (Hs3.out.keep (Keep.of_below _ _ (below_trans' B10 (by assumption : Below w10.heap.size w10 _ ∧ _).1))) (Hs4.out.keep (Keep.of_below _ _ (below_trans' B10 (by assumption : Below w10.heap.size w10 _ ∧ _).1)))).mono ?_; rintro e w11 ⟨ma0, mc0, ma1, mc1, ma2, mc2, ma3, mc3, ma4, mc4, rfl, mg0, mg1, mg2, mg3, mg4, hb11⟩) | fail))
  have hH : Below w10.heap.size w10 w12 := (by assumption : Below w10.heap.size w10 w12 ∧ _).1
  have B12 := below_trans' B10 hH
  replace e4 := (hH.block _ (lt_of_some e4)).trans e4
  replace f2 := (hH.block _ (lt_of_some f2)).trans f2
  replace gg0 := (gg0.keep (Keep.of_below _ _ hH))
  replace gg1 := (gg1.keep (Keep.of_below _ _ hH))
  replace gg2 := (gg2.keep (Keep.of_below _ _ hH))
  replace gg3 := (gg3.keep (Keep.of_below _ _ hH))
  replace gg4 := (gg4.keep (Keep.of_below _ _ hH))
  replace l4 := lt_of_some e4
  replace l2 := lt_of_some f2
  clear hd1 hH e3 f1
  have t0 : w12.cell? ⟨w8.heap.size, 0, none⟩ = some (.slice ga0 b.defs.length gc0) := (cell_of_row _ _ _ _ _ _ e4).trans rfl
  have t1 : w12.cell? ⟨w8.heap.size, 1, none⟩ = some (.slice ga1 b.comps.length gc1) := (cell_of_row _ _ _ _ _ _ e4).trans rfl
  have t2 : w12.cell? ⟨w8.heap.size, 2, none⟩ = some (.slice ga2 b.meets.length gc2) := (cell_of_row _ _ _ _ _ _ e4).trans rfl
  have t3 : w12.cell? ⟨w8.heap.size, 3, none⟩ = some (.slice ga3 b.allow.length gc3) := (cell_of_row _ _ _ _ _ _ e4).trans rfl
  have t4 : w12.cell? ⟨w8.heap.size, 4, none⟩ = some (.slice ga4 b.hide.length gc4) := (cell_of_row _ _ _ _ _ _ e4).trans rfl
  have q0 : w12.cell? ⟨w.heap.size + 1, 0, none⟩ = some (.slice ta0 b.defs.length tc0) := (cell_of_row _ _ _ _ _ _ f2).trans rfl
  have q1 : w12.cell? ⟨w.heap.size + 1, 1, none⟩ = some (.slice ta1 b.comps.length tc1) := (cell_of_row _ _ _ _ _ _ f2).trans rfl
  have q2 : w12.cell? ⟨w.heap.size + 1, 2, none⟩ = some (.slice ta2 b.meets.length tc2) := (cell_of_row _ _ _ _ _ _ f2).trans rfl
  have q3 : w12.cell? ⟨w.heap.size + 1, 3, none⟩ = some (.slice ta3 b.allow.length tc3) := (cell_of_row _ _ _ _ _ _ f2).trans rfl
  have q4 : w12.cell? ⟨w.heap.size + 1, 4, none⟩ = some (.slice ta4 b.hide.length tc4) := (cell_of_row _ _ _ _ _ _ f2).trans rfl
  go_wp2_with fail
  have hd2 : Below w12.heap.size w12 w12.drew := Below.drew (Below.refl _ _)
  go_region_held3 (fun W => Below w12.heap.size w12 W ∧ W.cell? ⟨w8.heap.size, 0, none⟩ = some (.slice ga0 b.defs.length gc0) ∧ W.cell? ⟨w8.heap.size, 1, none⟩ = some (.slice ga1 b.comps.length gc1) ∧ W.cell? ⟨w8.heap.size, 2, none⟩ = some (.slice ga2 b.meets.length gc2) ∧ W.cell? ⟨w8.heap.size, 3, none⟩ = some (.slice ga3 b.allow.length gc3) ∧ W.cell? ⟨w8.heap.size, 4, none⟩ = some (.slice ga4 b.hide.length gc4) ∧ W.cell? ⟨(w.heap.size + 1), 0, none⟩ = some (.slice ta0 b.defs.length tc0) ∧ W.cell? ⟨(w.heap.size + 1), 1, none⟩ = some (.slice ta1 b.comps.length tc1) ∧ W.cell? ⟨(w.heap.size + 1), 2, none⟩ = some (.slice ta2 b.meets.length tc2) ∧ W.cell? ⟨(w.heap.size + 1), 3, none⟩ = some (.slice ta3 b.allow.length tc3) ∧ W.cell? ⟨(w.heap.size + 1), 4, none⟩ = some (.slice ta4 b.hide.length tc4)) ((first | exact ⟨hd2, t0, t1, t2, t3, t4, q0, q1, q2, q3, q4⟩ | exact held (by assumption) (by assumption) l4 l2)) ((first | (have _h := hb13; go_at_call 20; refine (eqSye_any b b _ hnb (gg0.keep (Keep.of_below _ _ (by assumption : Below w12.heap.size w12 _ ∧ _).1)) (gg1.keep (Keep.of_below _ _ (by assumption : Below w12.heap.size w12 _ ∧ _).1)) (gg2.keep (Keep.of_below _ _ (by assumption : Below w12.heap.size w12 _ ∧ _).1)) (gg3.keep (Keep.of_below _ _ (by assumption : Below w12.heap.size w12 _ ∧ _).1)) (gg4.keep (Keep.of_below _ _ (by assumption : Below w12.heap.size w12 _ ∧ _).1)) ng0 ng1 ng2 ng3 ng4).mono ?_; rw [decide_eq_true rfl]; rintro e w14 ⟨rfl, hb14⟩) | (go_at_call 18; refine (toSye_any b _ hnb (Ht0.out.keep (Keep.of_below _ _ (below_trans' B12 (by assumption : Below w12.heap.size w12 _ ∧ _).1))) (Ht1.out.keep (Keep.of_below _ _ (below_trans' B12 (by assumption : Below w12.heap.size w12 _ ∧ _).1))) (Ht2.out.keep (Keep.of_below _ _ (below_trans' B12 (by assumption : Below w12.heap.size w12 _ ∧ _).1))) (Ht3.out.keep (Keep.of_below _ _ (below_trans' B12 (by assumption : Below w12.heap.size w12 _ ∧ _).1))) (Ht4.out.keep (Keep.of_below _ _ (below_trans' B12 (by assumption : Below w12.heap.size w12 _ ∧ _).1)))).mono ?_; rintro e w13 ⟨na0, nc0, na1, nc1, na2, nc2, na3, nc3, na4, nc4, rfl, ng0, ng1, ng2, ng3, ng4, hb13⟩) | fail))
  have hH : Below w12.heap.size w12 w14 := (by assumption : Below w12.heap.size w12 w14 ∧ _).1
  have B14 := below_trans' B12 hH
  go_wp2_with fail
  go_ret
  exact ⟨rfl, B14⟩
theorem own : ownKnob Try.prog.godebug = none := by kernel_rfl
theorem laidOut : laidOutB Try.prog = true := by kernel_rfl
set_option maxRecDepth 100000 in
theorem lifted (os : Os) (started : os.Started) (H : Type) (enc : TypeId × Value → H) :
    ReturnsInHanded {} Try.checked os 5 .any (Rows.fnExactSameSystemSpec.pre6 enc Try.prog Try.f5 Rows.fnExactSameSystemRow.domain false) (Rows.fnExactSameSystemSpec.post enc Try.prog Try.f5 false true false false) := by
  refine returnsInHanded_of_change (C := Try.checked) own started (by kernel_rfl) Try.func5
    (ChangeSpec.witness6 (enc := enc) (C := Try.checked) false ⟨#[], #[.agg #[.slice none 0 0, .slice none 0 0, .slice none 0 0, .slice none 0 0, .slice none 0 0], .agg #[.slice none 0 0, .slice none 0 0, .slice none 0 0, .slice none 0 0, .slice none 0 0]], []⟩ 8 (by kernel_rfl) (by kernel_rfl) (by kernel_rfl) (by kernel_rfl)) ?_
  intro W base args ds gs before hval0 hW hcnd _
  have hval : ∀ (j : Nat) t v, Try.f5.params[j]? = some t → args[j]? = some v → Value.okWide Try.prog W .any base t v := hval0
  have hW' := hW
  obtain ⟨p, q, hA0, hV, rfl, hfz, hnd⟩ := hW
  have hA : DataW.TrodAll enc Try.prog W 0 (fun _ => true) true Try.f5.params.toList args.toList ds p := hA0
  rw [Try.params5] at hA hval
  obtain ⟨v0, vs0, d0, ds0, p0, q0, hargs, rfl, rfl, h0, r0⟩ := trodAll_cons hA
  obtain ⟨v1, vs1, d1, ds1, p1, q1, rfl, rfl, rfl, h1, r1⟩ := trodAll_cons r0
  obtain ⟨rfl, rfl, rfl⟩ := trodAll_nil r1
  obtain rfl : args = #[v0, v1] := by cases args; simp_all
  obtain ⟨rfl, rfl⟩ := trodVars_none hV
  have k0 := h0
  have lt0 : ∀ x ∈ p0, x.block < W.heap.size := by obtain ⟨m, hm⟩ := k0; exact DataW.trod_lt m _ _ _ hm
  obtain ⟨z0, w0⟩ := openSystem (hval 0 44 v0 rfl rfl) h0 lt0
  have k1 := h1
  have lt1 : ∀ x ∈ p1, x.block < W.heap.size := by obtain ⟨m, hm⟩ := k1; exact DataW.trod_lt m _ _ _ hm
  obtain ⟨z1, w1⟩ := openSystem (hval 1 44 v1 rfl rfl) h1 lt1
  clear hA0 hval0
  refine (walk v0 z0 v1 z1 W w0 w1).mono fun e W' ⟨he, bel⟩ => ?_
  subst he
  exact ⟨_, rfl, _, _, _, [], _, [], hW', trodAll_mk1 (shut_bool Try.underlying4 _), (trodAll_cons_mk (Below.trod laidOut (by kernel_rfl) (of_decide_eq_true (by kernel_rfl)) k0 bel lt0) (trodAll_cons_mk (Below.trod laidOut (by kernel_rfl) (of_decide_eq_true (by kernel_rfl)) k1 bel lt1) trodAll_mk0)), rfl, bel.frame _, fun h => by cases h⟩
theorem over : Rows.fnExactSameSystemRow.holds Try.pinned (OpenSpec.ofChange Rows.fnExactSameSystemSpec) :=
  OpenClaim.holds_of_wide 5 Try.f5 rfl rfl rfl rfl rfl rfl rfl ⟨rfl, rfl, rfl, rfl, rfl⟩ rfl rfl rfl rfl rfl (by kernel_rfl) Try.func5 (by kernel_rfl)
    (of_decide_eq_true (by kernel_rfl)) (by unfold Func.isWrapper; first | (rw [if_pos (by decide +kernel)]; kernel_rfl) | (rw [if_neg (by decide +kernel)]; exact ⟨rfl, rfl⟩))
    (fun os started H enc _ => lifted os started H enc)
theorem proved : Rows.FnExactSameSystemSaid := over
end Go.Proofs.Ytdlldgenkmngiaa.fnExactSameSystem
