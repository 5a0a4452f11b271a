/- FnExactSameLts: the program and the reference answer alike, for every two arguments. No condition. -/
import Derived.Test.YtdlldgenkmngiaaRows
import Derived.Test.YtdlldgenkmngiaaSt
import Derived.Test.YtdlldgenkmngiaaStSz
import Derived.Test.YtdlldgenkmngiaaStTo
import Derived.Test.YtdlldgenkmngiaaStEq
import Derived.Test.YtdlldgenkmngiaaStI
import Derived.Test.YtdlldgenkmngiaaStL
import Derived.WalkKit
import Derived.BigQuiet
import Derived.Deep.RegionHeld3
import Derived.ProofKit
import Derived.OpenShut
import Derived.ShutString
import Derived.ChangeOld
import Derived.Below
set_option linter.unusedVariables false
set_option linter.unusedSimpArgs false
namespace Go.Proofs.Ytdlldgenkmngiaa.fnExactSameLts
open Go.ChangeShapes Go.WideShapes Go.ChangeAt Go.RowKit
open Go.ChangeMaps (open_string shut_string)

theorem held {wr W W1 : World} {x y : Nat} {v0 v1 v2 v3 v4 v5 v6 v7 : Value} (hS : Below wr.heap.size wr W ∧ W.cell? ⟨x, 0, none⟩ = some v0 ∧ W.cell? ⟨x, 1, none⟩ = some v1 ∧ W.cell? ⟨x, 2, none⟩ = some v2 ∧ W.cell? ⟨x, 3, none⟩ = some v3 ∧ W.cell? ⟨y, 0, none⟩ = some v4 ∧ W.cell? ⟨y, 1, none⟩ = some v5 ∧ W.cell? ⟨y, 2, none⟩ = some v6 ∧ W.cell? ⟨y, 3, none⟩ = some v7) (hb : Below W.heap.size W W1) (hx : x < wr.heap.size) (hy : y < wr.heap.size) : Below wr.heap.size wr W1 ∧ W1.cell? ⟨x, 0, none⟩ = some v0 ∧ W1.cell? ⟨x, 1, none⟩ = some v1 ∧ W1.cell? ⟨x, 2, none⟩ = some v2 ∧ W1.cell? ⟨x, 3, none⟩ = some v3 ∧ W1.cell? ⟨y, 0, none⟩ = some v4 ∧ W1.cell? ⟨y, 1, none⟩ = some v5 ∧ W1.cell? ⟨y, 2, none⟩ = some v6 ∧ W1.cell? ⟨y, 3, none⟩ = some v7 := by
  obtain ⟨h0, h1, h2, h3, h4, h5, h6, h7, h8⟩ := hS
  have hz := h0.size
  exact ⟨below_trans' h0 hb, (hb.cell (show x < W.heap.size by omega)).trans h1, (hb.cell (show x < W.heap.size by omega)).trans h2, (hb.cell (show x < W.heap.size by omega)).trans h3, (hb.cell (show x < W.heap.size by omega)).trans h4, (hb.cell (show y < W.heap.size by omega)).trans h5, (hb.cell (show y < W.heap.size by omega)).trans h6, (hb.cell (show y < W.heap.size by omega)).trans h7, (hb.cell (show y < W.heap.size by omega)).trans h8⟩
set_option maxRecDepth 100000 in
set_option maxHeartbeats 8000000 in
theorem walk (v0 : Value) (a : Lt) (v1 : Value) (b : Lt) (w : World) (hA : AtLt w v0 a) (hB : AtLt w v1 b) :
    Calls Try.prog 4 #[v0, v1] w fun e w' => e = .returned (.bool true) ∧ Below w.heap.size w w' := by
  obtain ⟨sa2, sa3, sc2, sc3, rfl, hs2, hs3, hea⟩ := hA
  obtain ⟨ta2, ta3, tc2, tc3, rfl, ht2, ht3, heb⟩ := hB
  have Hs2 := Lib.hid hs2
  have Ht2 := Lib.hid ht2
  have Hs3 := Lib.hid hs3
  have Ht3 := Lib.hid ht3
  clear hs2 ht2 hs3 ht3
  have Hea := Lib.hid hea
  have Heb := Lib.hid heb
  clear hea heb
  have hB0 : ∀ x y : Obj, Below w.heap.size w ((w.alloc x).alloc y) := fun x y => ((Below.refl _ w).alloc (Nat.le_refl _) _).alloc (by simp) _
  by_cases z0 : (wtLt a : Int) ≤ 1048576
  case neg =>
    go_enter Try.func4, Try.ntmps4
    go_wp2_with fail
    refine (szLte_any a _ _ (by decide) (by decide) Hea.out (Hs2.out.keep (Keep.of_below _ _ (hB0 _ _))) (Hs3.out.keep (Keep.of_below _ _ (hB0 _ _)))).mono ?_
    rw [cut_no (by omega)]
    rintro e w1 ⟨rfl, hb1⟩
    go_wp2_with fail
    go_ret
    exact ⟨rfl, (hB0 _ _).trans (hb1.mono (hB0 _ _).size)⟩
  by_cases z1 : (wtLt b : Int) ≤ 1048576 - (wtLt a : Int)
  case neg =>
    go_enter Try.func4, Try.ntmps4
    go_wp2_with fail
    refine (szLte_any a _ _ (by decide) (by decide) Hea.out (Hs2.out.keep (Keep.of_below _ _ (hB0 _ _))) (Hs3.out.keep (Keep.of_below _ _ (hB0 _ _)))).mono ?_
    rw [cut_yes z0]
    rintro e w1 ⟨rfl, hb1⟩
    have e1 := box_one hb1
    have e2 := box_two hb1
    have B1 : Below w.heap.size w w1 := (hB0 _ _).trans (hb1.mono (hB0 _ _).size)
    have p0 : w1.cell? ⟨w.heap.size, 0, none⟩ = some (.int .i64 a.st) := by simp [World.cell?, e1]
    have q0 : w1.cell? ⟨w.heap.size + 1, 0, none⟩ = some (.int .i64 b.st) := by simp [World.cell?, e2]
    have p1 : w1.cell? ⟨w.heap.size, 1, none⟩ = some (.int .i64 a.ini) := by simp [World.cell?, e1]
    have q1 : w1.cell? ⟨w.heap.size + 1, 1, none⟩ = some (.int .i64 b.ini) := by simp [World.cell?, e2]
    have p2 : w1.cell? ⟨w.heap.size, 2, none⟩ = some (.slice sa2 a.labs.length sc2) := by simp [World.cell?, e1]
    have q2 : w1.cell? ⟨w.heap.size + 1, 2, none⟩ = some (.slice ta2 b.labs.length tc2) := by simp [World.cell?, e2]
    have p3 : w1.cell? ⟨w.heap.size, 3, none⟩ = some (.slice sa3 a.edges.length sc3) := by simp [World.cell?, e1]
    have q3 : w1.cell? ⟨w.heap.size + 1, 3, none⟩ = some (.slice ta3 b.edges.length tc3) := by simp [World.cell?, e2]
    have hnn : ¬ (1048576 - (wtLt a : Int) < 0) := by omega
    go_wp2_with fail
    refine (szLte_any b _ _ (by omega) (by omega) Heb.out (Ht2.out.keep (Keep.of_below _ _ B1)) (Ht3.out.keep (Keep.of_below _ _ B1))).mono ?_
    rw [cut_no (by omega)]
    rintro e w2 ⟨rfl, hb2⟩
    go_wp2_with fail
    go_ret
    exact ⟨rfl, below_trans' B1 hb2⟩
  have hna : wtLt a ≤ 1048576 := by omega
  have hnb : wtLt b ≤ 1048576 := by omega
  go_enter Try.func4, Try.ntmps4
  go_wp2_with fail
  refine (szLte_any a _ _ (by decide) (by decide) Hea.out (Hs2.out.keep (Keep.of_below _ _ (hB0 _ _))) (Hs3.out.keep (Keep.of_below _ _ (hB0 _ _)))).mono ?_
  rw [cut_yes z0]
  rintro e w1 ⟨rfl, hb1⟩
  have e1 := box_one hb1
  have e2 := box_two hb1
  have B1 : Below w.heap.size w w1 := (hB0 _ _).trans (hb1.mono (hB0 _ _).size)
  have p0 : w1.cell? ⟨w.heap.size, 0, none⟩ = some (.int .i64 a.st) := by simp [World.cell?, e1]
  have q0 : w1.cell? ⟨w.heap.size + 1, 0, none⟩ = some (.int .i64 b.st) := by simp [World.cell?, e2]
  have p1 : w1.cell? ⟨w.heap.size, 1, none⟩ = some (.int .i64 a.ini) := by simp [World.cell?, e1]
  have q1 : w1.cell? ⟨w.heap.size + 1, 1, none⟩ = some (.int .i64 b.ini) := by simp [World.cell?, e2]
  have p2 : w1.cell? ⟨w.heap.size, 2, none⟩ = some (.slice sa2 a.labs.length sc2) := by simp [World.cell?, e1]
  have q2 : w1.cell? ⟨w.heap.size + 1, 2, none⟩ = some (.slice ta2 b.labs.length tc2) := by simp [World.cell?, e2]
  have p3 : w1.cell? ⟨w.heap.size, 3, none⟩ = some (.slice sa3 a.edges.length sc3) := by simp [World.cell?, e1]
  have q3 : w1.cell? ⟨w.heap.size + 1, 3, none⟩ = some (.slice ta3 b.edges.length tc3) := by simp [World.cell?, e2]
  have hnn : ¬ (1048576 - (wtLt a : Int) < 0) := by omega
  go_wp2_with fail
  refine (szLte_any b _ _ (by omega) (by omega) Heb.out (Ht2.out.keep (Keep.of_below _ _ B1)) (Ht3.out.keep (Keep.of_below _ _ B1))).mono ?_
  rw [cut_yes z1]
  rintro e w2 ⟨rfl, hb2⟩
  have B2 := below_trans' B1 hb2
  replace e1 := (hb2.block _ (lt_of_some e1)).trans e1
  replace e2 := (hb2.block _ (lt_of_some e2)).trans e2
  have l1 := lt_of_some e1
  have l2 := lt_of_some e2
  have hnn2 : ¬ (1048576 - (wtLt a : Int) - (wtLt b : Int) < 0) := by omega
  have p0 : w2.cell? ⟨w.heap.size, 0, none⟩ = some (.int .i64 a.st) := by simp [World.cell?, e1]
  have q0 : w2.cell? ⟨w.heap.size + 1, 0, none⟩ = some (.int .i64 b.st) := by simp [World.cell?, e2]
  have p1 : w2.cell? ⟨w.heap.size, 1, none⟩ = some (.int .i64 a.ini) := by simp [World.cell?, e1]
  have q1 : w2.cell? ⟨w.heap.size + 1, 1, none⟩ = some (.int .i64 b.ini) := by simp [World.cell?, e2]
  have p2 : w2.cell? ⟨w.heap.size, 2, none⟩ = some (.slice sa2 a.labs.length sc2) := by simp [World.cell?, e1]
  have q2 : w2.cell? ⟨w.heap.size + 1, 2, none⟩ = some (.slice ta2 b.labs.length tc2) := by simp [World.cell?, e2]
  have p3 : w2.cell? ⟨w.heap.size, 3, none⟩ = some (.slice sa3 a.edges.length sc3) := by simp [World.cell?, e1]
  have q3 : w2.cell? ⟨w.heap.size + 1, 3, none⟩ = some (.slice ta3 b.edges.length tc3) := by simp [World.cell?, e2]
  clear hb1 hb2 B1 z0 z1
  go_wp2_with fail
  have hd0 : Below w2.heap.size w2 w2.drew := Below.drew (Below.refl _ _)
  go_region_held3 (fun W => Below w2.heap.size w2 W ∧ W.cell? ⟨w.heap.size, 0, none⟩ = some (.int .i64 a.st) ∧ W.cell? ⟨w.heap.size, 1, none⟩ = some (.int .i64 a.ini) ∧ W.cell? ⟨w.heap.size, 2, none⟩ = some (.slice sa2 a.labs.length sc2) ∧ W.cell? ⟨w.heap.size, 3, none⟩ = some (.slice sa3 a.edges.length sc3) ∧ W.cell? ⟨(w.heap.size + 1), 0, none⟩ = some (.int .i64 b.st) ∧ W.cell? ⟨(w.heap.size + 1), 1, none⟩ = some (.int .i64 b.ini) ∧ W.cell? ⟨(w.heap.size + 1), 2, none⟩ = some (.slice ta2 b.labs.length tc2) ∧ W.cell? ⟨(w.heap.size + 1), 3, none⟩ = some (.slice ta3 b.edges.length tc3)) ((first | exact ⟨hd0, p0, p1, p2, p3, q0, q1, q2, q3⟩ | exact held (by assumption) (by assumption) l1 l2)) ((first | (have _h := hb4; (go_at_call 12; refine (spec_SameLts_any a b _ hna (ug2.keep (Keep.of_below _ _ hb4)) (ug3.keep (Keep.of_below _ _ hb4)) xg2 xg3).mono ?_; rintro e w5 ⟨rfl, hb5⟩)) | (have _h := hb3; (go_at_call 13; refine (toLte_any b _ hnb (Ht2.out.keep (Keep.of_below _ _ (below_trans' B2 (by assumption : Below w2.heap.size w2 _ ∧ _).1))) (Ht3.out.keep (Keep.of_below _ _ (below_trans' B2 (by assumption : Below w2.heap.size w2 _ ∧ _).1)))).mono ?_; rintro e w4 ⟨xa2, xc2, xa3, xc3, rfl, xg2, xg3, hb4⟩)) | (go_at_call 13; refine (toLte_any a _ hna (Hs2.out.keep (Keep.of_below _ _ (below_trans' B2 (by assumption : Below w2.heap.size w2 _ ∧ _).1))) (Hs3.out.keep (Keep.of_below _ _ (below_trans' B2 (by assumption : Below w2.heap.size w2 _ ∧ _).1)))).mono ?_; rintro e w3 ⟨ua2, uc2, ua3, uc3, rfl, ug2, ug3, hb3⟩) | fail))
  have hH : Below w2.heap.size w2 w5 := (by assumption : Below w2.heap.size w2 w5 ∧ _).1
  have B5 := below_trans' B2 hH
  replace e1 := (hH.block _ (lt_of_some e1)).trans e1
  replace e2 := (hH.block _ (lt_of_some e2)).trans e2
  clear hd0 hH
  have p0 : w5.cell? ⟨w.heap.size, 0, none⟩ = some (.int .i64 a.st) := by simp [World.cell?, e1]
  have q0 : w5.cell? ⟨w.heap.size + 1, 0, none⟩ = some (.int .i64 b.st) := by simp [World.cell?, e2]
  have p1 : w5.cell? ⟨w.heap.size, 1, none⟩ = some (.int .i64 a.ini) := by simp [World.cell?, e1]
  have q1 : w5.cell? ⟨w.heap.size + 1, 1, none⟩ = some (.int .i64 b.ini) := by simp [World.cell?, e2]
  have p2 : w5.cell? ⟨w.heap.size, 2, none⟩ = some (.slice sa2 a.labs.length sc2) := by simp [World.cell?, e1]
  have q2 : w5.cell? ⟨w.heap.size + 1, 2, none⟩ = some (.slice ta2 b.labs.length tc2) := by simp [World.cell?, e2]
  have p3 : w5.cell? ⟨w.heap.size, 3, none⟩ = some (.slice sa3 a.edges.length sc3) := by simp [World.cell?, e1]
  have q3 : w5.cell? ⟨w.heap.size + 1, 3, none⟩ = some (.slice ta3 b.edges.length tc3) := by simp [World.cell?, e2]
  go_wp2_with fail
  refine (toLte_any a _ hna (Hs2.out.keep (Keep.of_below _ _ B5)) (Hs3.out.keep (Keep.of_below _ _ B5))).mono ?_
  rintro e w6 ⟨fa2, fc2, fa3, fc3, rfl, fg2, fg3, hb6⟩
  have B6 := below_trans' B5 hb6
  replace e1 := (hb6.block _ (lt_of_some e1)).trans e1
  replace e2 := (hb6.block _ (lt_of_some e2)).trans e2
  have b6 : Below w6.heap.size w6 (w6.alloc (.cells #[.int .i64 a.st, .int .i64 a.ini, .slice fa2 a.labs.length fc2, .slice fa3 a.edges.length fc3] 37)) := (Below.refl _ _).alloc (Nat.le_refl _) _
  have B7 := below_trans' B6 b6
  have f1 := (b6.block _ (lt_of_some e1)).trans e1
  have f2 := (b6.block _ (lt_of_some e2)).trans e2
  have r0 : (w6.alloc (.cells #[.int .i64 a.st, .int .i64 a.ini, .slice fa2 a.labs.length fc2, .slice fa3 a.edges.length fc3] 37)).cell? ⟨w.heap.size + 1, 0, none⟩ = some (.int .i64 b.st) := by simp [World.cell?, f2]
  have r1 : (w6.alloc (.cells #[.int .i64 a.st, .int .i64 a.ini, .slice fa2 a.labs.length fc2, .slice fa3 a.edges.length fc3] 37)).cell? ⟨w.heap.size + 1, 1, none⟩ = some (.int .i64 b.ini) := by simp [World.cell?, f2]
  have r2 : (w6.alloc (.cells #[.int .i64 a.st, .int .i64 a.ini, .slice fa2 a.labs.length fc2, .slice fa3 a.edges.length fc3] 37)).cell? ⟨w.heap.size + 1, 2, none⟩ = some (.slice ta2 b.labs.length tc2) := by simp [World.cell?, f2]
  have r3 : (w6.alloc (.cells #[.int .i64 a.st, .int .i64 a.ini, .slice fa2 a.labs.length fc2, .slice fa3 a.edges.length fc3] 37)).cell? ⟨w.heap.size + 1, 3, none⟩ = some (.slice ta3 b.edges.length tc3) := by simp [World.cell?, f2]
  go_wp2_with fail
  refine (toLte_any b _ hnb (Ht2.out.keep (Keep.of_below _ _ B7)) (Ht3.out.keep (Keep.of_below _ _ B7))).mono ?_
  rintro e w8 ⟨ga2, gc2, ga3, gc3, rfl, gg2, gg3, hb8⟩
  have B8 := below_trans' B7 hb8
  have e3 := box_only hb8
  replace f1 := (hb8.block _ (lt_of_some f1)).trans f1
  replace f2 := (hb8.block _ (lt_of_some f2)).trans f2
  have hk6 : Below w6.heap.size w6 w8 := b6.trans (hb8.mono b6.size)
  replace fg2 := (fg2.keep (Keep.of_below _ _ hk6))
  replace fg3 := (fg3.keep (Keep.of_below _ _ hk6))
  clear b6 hb8 hb6
  have b8 : Below w8.heap.size w8 (w8.alloc (.cells #[.int .i64 b.st, .int .i64 b.ini, .slice ga2 b.labs.length gc2, .slice ga3 b.edges.length gc3] 37)) := (Below.refl _ _).alloc (Nat.le_refl _) _
  have e4 : (w8.alloc (.cells #[.int .i64 b.st, .int .i64 b.ini, .slice ga2 b.labs.length gc2, .slice ga3 b.edges.length gc3] 37)).heap[w8.heap.size]? = some (.cells #[.int .i64 b.st, .int .i64 b.ini, .slice ga2 b.labs.length gc2, .slice ga3 b.edges.length gc3] 37) := by
    show (w8.heap.push _)[w8.heap.size]? = some _
    rw [Array.getElem?_push, if_pos rfl]
  have B9 := below_trans' B8 b8
  replace e3 := (b8.block _ (lt_of_some e3)).trans e3
  replace f1 := (b8.block _ (lt_of_some f1)).trans f1
  replace f2 := (b8.block _ (lt_of_some f2)).trans f2
  replace fg2 := (fg2.keep (Keep.of_below _ _ b8))
  replace gg2 := (gg2.keep (Keep.of_below _ _ b8))
  replace fg3 := (fg3.keep (Keep.of_below _ _ b8))
  replace gg3 := (gg3.keep (Keep.of_below _ _ b8))
  have s0 : (w8.alloc (.cells #[.int .i64 b.st, .int .i64 b.ini, .slice ga2 b.labs.length gc2, .slice ga3 b.edges.length gc3] 37)).cell? ⟨w6.heap.size, 0, none⟩ = some (.int .i64 a.st) := (cell_of_row _ _ _ _ _ _ e3).trans rfl
  have s1 : (w8.alloc (.cells #[.int .i64 b.st, .int .i64 b.ini, .slice ga2 b.labs.length gc2, .slice ga3 b.edges.length gc3] 37)).cell? ⟨w6.heap.size, 1, none⟩ = some (.int .i64 a.ini) := (cell_of_row _ _ _ _ _ _ e3).trans rfl
  have s2 : (w8.alloc (.cells #[.int .i64 b.st, .int .i64 b.ini, .slice ga2 b.labs.length gc2, .slice ga3 b.edges.length gc3] 37)).cell? ⟨w6.heap.size, 2, none⟩ = some (.slice fa2 a.labs.length fc2) := (cell_of_row _ _ _ _ _ _ e3).trans rfl
  have s3 : (w8.alloc (.cells #[.int .i64 b.st, .int .i64 b.ini, .slice ga2 b.labs.length gc2, .slice ga3 b.edges.length gc3] 37)).cell? ⟨w6.heap.size, 3, none⟩ = some (.slice fa3 a.edges.length fc3) := (cell_of_row _ _ _ _ _ _ e3).trans rfl
  have t0 : (w8.alloc (.cells #[.int .i64 b.st, .int .i64 b.ini, .slice ga2 b.labs.length gc2, .slice ga3 b.edges.length gc3] 37)).cell? ⟨w8.heap.size, 0, none⟩ = some (.int .i64 b.st) := (cell_of_row _ _ _ _ _ _ e4).trans rfl
  have t1 : (w8.alloc (.cells #[.int .i64 b.st, .int .i64 b.ini, .slice ga2 b.labs.length gc2, .slice ga3 b.edges.length gc3] 37)).cell? ⟨w8.heap.size, 1, none⟩ = some (.int .i64 b.ini) := (cell_of_row _ _ _ _ _ _ e4).trans rfl
  have t2 : (w8.alloc (.cells #[.int .i64 b.st, .int .i64 b.ini, .slice ga2 b.labs.length gc2, .slice ga3 b.edges.length gc3] 37)).cell? ⟨w8.heap.size, 2, none⟩ = some (.slice ga2 b.labs.length gc2) := (cell_of_row _ _ _ _ _ _ e4).trans rfl
  have t3 : (w8.alloc (.cells #[.int .i64 b.st, .int .i64 b.ini, .slice ga2 b.labs.length gc2, .slice ga3 b.edges.length gc3] 37)).cell? ⟨w8.heap.size, 3, none⟩ = some (.slice ga3 b.edges.length gc3) := (cell_of_row _ _ _ _ _ _ e4).trans rfl
  obtain ⟨d, hd⟩ : ∃ d, d = decide (a = b) := ⟨_, rfl⟩
  rw [← hd]
  go_wp2_with fail
  refine (SameLts_any a b _ hna fg2 fg3 gg2 gg3).mono ?_
  rw [← hd]
  rintro e w10 ⟨rfl, hb10⟩
  clear hd
  have hdd : (d != d) = false := by simp
  have B10 := below_trans' B9 hb10
  replace e3 := (hb10.block _ (lt_of_some e3)).trans e3
  replace e4 := (hb10.block _ (lt_of_some e4)).trans e4
  replace f1 := (hb10.block _ (lt_of_some f1)).trans f1
  replace f2 := (hb10.block _ (lt_of_some f2)).trans f2
  replace fg2 := (fg2.keep (Keep.of_below _ _ hb10))
  replace gg2 := (gg2.keep (Keep.of_below _ _ hb10))
  replace fg3 := (fg3.keep (Keep.of_below _ _ hb10))
  replace gg3 := (gg3.keep (Keep.of_below _ _ hb10))
  have l3 := lt_of_some e3
  have l4 := lt_of_some e4
  replace l1 := lt_of_some f1
  replace l2 := lt_of_some f2
  clear B5 B6 B7 B8 B9 hk6 b8
  have s0 : w10.cell? ⟨w6.heap.size, 0, none⟩ = some (.int .i64 a.st) := (cell_of_row _ _ _ _ _ _ e3).trans rfl
  have s1 : w10.cell? ⟨w6.heap.size, 1, none⟩ = some (.int .i64 a.ini) := (cell_of_row _ _ _ _ _ _ e3).trans rfl
  have s2 : w10.cell? ⟨w6.heap.size, 2, none⟩ = some (.slice fa2 a.labs.length fc2) := (cell_of_row _ _ _ _ _ _ e3).trans rfl
  have s3 : w10.cell? ⟨w6.heap.size, 3, none⟩ = some (.slice fa3 a.edges.length fc3) := (cell_of_row _ _ _ _ _ _ e3).trans rfl
  have p0 : w10.cell? ⟨w.heap.size, 0, none⟩ = some (.int .i64 a.st) := (cell_of_row _ _ _ _ _ _ f1).trans rfl
  have p1 : w10.cell? ⟨w.heap.size, 1, none⟩ = some (.int .i64 a.ini) := (cell_of_row _ _ _ _ _ _ f1).trans rfl
  have p2 : w10.cell? ⟨w.heap.size, 2, none⟩ = some (.slice sa2 a.labs.length sc2) := (cell_of_row _ _ _ _ _ _ f1).trans rfl
  have p3 : w10.cell? ⟨w.heap.size, 3, none⟩ = some (.slice sa3 a.edges.length sc3) := (cell_of_row _ _ _ _ _ _ f1).trans rfl
  go_wp2_with fail
  have hd1 : Below w10.heap.size w10 w10.drew := Below.drew (Below.refl _ _)
  go_region_held3 (fun W => Below w10.heap.size w10 W ∧ W.cell? ⟨w6.heap.size, 0, none⟩ = some (.int .i64 a.st) ∧ W.cell? ⟨w6.heap.size, 1, none⟩ = some (.int .i64 a.ini) ∧ W.cell? ⟨w6.heap.size, 2, none⟩ = some (.slice fa2 a.labs.length fc2) ∧ W.cell? ⟨w6.heap.size, 3, none⟩ = some (.slice fa3 a.edges.length fc3) ∧ W.cell? ⟨w.heap.size, 0, none⟩ = some (.int .i64 a.st) ∧ W.cell? ⟨w.heap.size, 1, none⟩ = some (.int .i64 a.ini) ∧ W.cell? ⟨w.heap.size, 2, none⟩ = some (.slice sa2 a.labs.length sc2) ∧ W.cell? ⟨w.heap.size, 3, none⟩ = some (.slice sa3 a.edges.length sc3)) ((first | exact ⟨hd1, s0, s1, s2, s3, p0, p1, p2, p3⟩ | exact held (by assumption) (by assumption) l3 l1)) ((first | (have _h := hb11; go_at_call 15; refine (eqLte_any a a _ hna (fg2.keep (Keep.of_below _ _ (by assumption : Below w10.heap.size w10 _ ∧ _).1)) (fg3.keep (Keep.of_below _ _ (by assumption : Below w10.heap.size w10 _ ∧ _).1)) mg2 mg3).mono ?_; rw [decide_eq_true rfl]; rintro e w12 ⟨rfl, hb12⟩) | (go_at_call 13; refine (toLte_any a _ hna (Hs2.out.keep (Keep.of_below _ _ (below_trans' B10 (by assumption : Below w10.heap.size w10 _ ∧ _).1))) (Hs3.out.keep (Keep.of_below _ _ (below_trans' B10 (by assumption : Below w10.heap.size w10 _ ∧ _).1)))).mono ?_; rintro e w11 ⟨ma2, mc2, ma3, mc3, rfl, mg2, mg3, hb11⟩) | fail))
  have hH : Below w10.heap.size w10 w12 := (by assumption : Below w10.heap.size w10 w12 ∧ _).1
  have B12 := below_trans' B10 hH
  replace e4 := (hH.block _ (lt_of_some e4)).trans e4
  replace f2 := (hH.block _ (lt_of_some f2)).trans f2
  replace gg2 := (gg2.keep (Keep.of_below _ _ hH))
  replace gg3 := (gg3.keep (Keep.of_below _ _ hH))
  replace l4 := lt_of_some e4
  replace l2 := lt_of_some f2
  clear hd1 hH e3 f1
  have t0 : w12.cell? ⟨w8.heap.size, 0, none⟩ = some (.int .i64 b.st) := (cell_of_row _ _ _ _ _ _ e4).trans rfl
  have t1 : w12.cell? ⟨w8.heap.size, 1, none⟩ = some (.int .i64 b.ini) := (cell_of_row _ _ _ _ _ _ e4).trans rfl
  have t2 : w12.cell? ⟨w8.heap.size, 2, none⟩ = some (.slice ga2 b.labs.length gc2) := (cell_of_row _ _ _ _ _ _ e4).trans rfl
  have t3 : w12.cell? ⟨w8.heap.size, 3, none⟩ = some (.slice ga3 b.edges.length gc3) := (cell_of_row _ _ _ _ _ _ e4).trans rfl
  have q0 : w12.cell? ⟨w.heap.size + 1, 0, none⟩ = some (.int .i64 b.st) := (cell_of_row _ _ _ _ _ _ f2).trans rfl
  have q1 : w12.cell? ⟨w.heap.size + 1, 1, none⟩ = some (.int .i64 b.ini) := (cell_of_row _ _ _ _ _ _ f2).trans rfl
  have q2 : w12.cell? ⟨w.heap.size + 1, 2, none⟩ = some (.slice ta2 b.labs.length tc2) := (cell_of_row _ _ _ _ _ _ f2).trans rfl
  have q3 : w12.cell? ⟨w.heap.size + 1, 3, none⟩ = some (.slice ta3 b.edges.length tc3) := (cell_of_row _ _ _ _ _ _ f2).trans rfl
  go_wp2_with fail
  have hd2 : Below w12.heap.size w12 w12.drew := Below.drew (Below.refl _ _)
  go_region_held3 (fun W => Below w12.heap.size w12 W ∧ W.cell? ⟨w8.heap.size, 0, none⟩ = some (.int .i64 b.st) ∧ W.cell? ⟨w8.heap.size, 1, none⟩ = some (.int .i64 b.ini) ∧ W.cell? ⟨w8.heap.size, 2, none⟩ = some (.slice ga2 b.labs.length gc2) ∧ W.cell? ⟨w8.heap.size, 3, none⟩ = some (.slice ga3 b.edges.length gc3) ∧ W.cell? ⟨(w.heap.size + 1), 0, none⟩ = some (.int .i64 b.st) ∧ W.cell? ⟨(w.heap.size + 1), 1, none⟩ = some (.int .i64 b.ini) ∧ W.cell? ⟨(w.heap.size + 1), 2, none⟩ = some (.slice ta2 b.labs.length tc2) ∧ W.cell? ⟨(w.heap.size + 1), 3, none⟩ = some (.slice ta3 b.edges.length tc3)) ((first | exact ⟨hd2, t0, t1, t2, t3, q0, q1, q2, q3⟩ | exact held (by assumption) (by assumption) l4 l2)) ((first | (have _h := hb13; go_at_call 15; refine (eqLte_any b b _ hnb (gg2.keep (Keep.of_below _ _ (by assumption : Below w12.heap.size w12 _ ∧ _).1)) (gg3.keep (Keep.of_below _ _ (by assumption : Below w12.heap.size w12 _ ∧ _).1)) ng2 ng3).mono ?_; rw [decide_eq_true rfl]; rintro e w14 ⟨rfl, hb14⟩) | (go_at_call 13; refine (toLte_any b _ hnb (Ht2.out.keep (Keep.of_below _ _ (below_trans' B12 (by assumption : Below w12.heap.size w12 _ ∧ _).1))) (Ht3.out.keep (Keep.of_below _ _ (below_trans' B12 (by assumption : Below w12.heap.size w12 _ ∧ _).1)))).mono ?_; rintro e w13 ⟨na2, nc2, na3, nc3, rfl, ng2, ng3, hb13⟩) | fail))
  have hH : Below w12.heap.size w12 w14 := (by assumption : Below w12.heap.size w12 w14 ∧ _).1
  have B14 := below_trans' B12 hH
  go_wp2_with fail
  go_ret
  exact ⟨rfl, B14⟩
theorem own : ownKnob Try.prog.godebug = none := by kernel_rfl
theorem laidOut : laidOutB Try.prog = true := by kernel_rfl
set_option maxRecDepth 100000 in
theorem lifted (os : Os) (started : os.Started) (H : Type) (enc : TypeId × Value → H) :
    ReturnsInHanded {} Try.checked os 4 .any (Rows.fnExactSameLtsSpec.pre6 enc Try.prog Try.f4 Rows.fnExactSameLtsRow.domain false) (Rows.fnExactSameLtsSpec.post enc Try.prog Try.f4 false true false false) := by
  refine returnsInHanded_of_change (C := Try.checked) own started (by kernel_rfl) Try.func4
    (ChangeSpec.witness6 (enc := enc) (C := Try.checked) false ⟨#[], #[.agg #[.int .i64 0, .int .i64 0, .slice none 0 0, .slice none 0 0], .agg #[.int .i64 0, .int .i64 0, .slice none 0 0, .slice none 0 0]], []⟩ 8 (by kernel_rfl) (by kernel_rfl) (by kernel_rfl) (by kernel_rfl)) ?_
  intro W base args ds gs before hval0 hW hcnd _
  have hval : ∀ (j : Nat) t v, Try.f4.params[j]? = some t → args[j]? = some v → Value.okWide Try.prog W .any base t v := hval0
  have hW' := hW
  obtain ⟨p, q, hA0, hV, rfl, hfz, hnd⟩ := hW
  have hA : DataW.TrodAll enc Try.prog W 0 (fun _ => true) true Try.f4.params.toList args.toList ds p := hA0
  rw [Try.params4] at hA hval
  obtain ⟨v0, vs0, d0, ds0, p0, q0, hargs, rfl, rfl, h0, r0⟩ := trodAll_cons hA
  obtain ⟨v1, vs1, d1, ds1, p1, q1, rfl, rfl, rfl, h1, r1⟩ := trodAll_cons r0
  obtain ⟨rfl, rfl, rfl⟩ := trodAll_nil r1
  obtain rfl : args = #[v0, v1] := by cases args; simp_all
  obtain ⟨rfl, rfl⟩ := trodVars_none hV
  have k0 := h0
  have lt0 : ∀ x ∈ p0, x.block < W.heap.size := by obtain ⟨m, hm⟩ := k0; exact DataW.trod_lt m _ _ _ hm
  obtain ⟨z0, w0⟩ := openLts (hval 0 32 v0 rfl rfl) h0 lt0
  have k1 := h1
  have lt1 : ∀ x ∈ p1, x.block < W.heap.size := by obtain ⟨m, hm⟩ := k1; exact DataW.trod_lt m _ _ _ hm
  obtain ⟨z1, w1⟩ := openLts (hval 1 32 v1 rfl rfl) h1 lt1
  clear hA0 hval0
  refine (walk v0 z0 v1 z1 W w0 w1).mono fun e W' ⟨he, bel⟩ => ?_
  subst he
  exact ⟨_, rfl, _, _, _, [], _, [], hW', trodAll_mk1 (shut_bool Try.underlying4 _), (trodAll_cons_mk (Below.trod laidOut (by kernel_rfl) (of_decide_eq_true (by kernel_rfl)) k0 bel lt0) (trodAll_cons_mk (Below.trod laidOut (by kernel_rfl) (of_decide_eq_true (by kernel_rfl)) k1 bel lt1) trodAll_mk0)), rfl, bel.frame _, fun h => by cases h⟩
theorem over : Rows.fnExactSameLtsRow.holds Try.pinned (OpenSpec.ofChange Rows.fnExactSameLtsSpec) :=
  OpenClaim.holds_of_wide 4 Try.f4 rfl rfl rfl rfl rfl rfl rfl ⟨rfl, rfl, rfl, rfl, rfl⟩ rfl rfl rfl rfl rfl (by kernel_rfl) Try.func4 (by kernel_rfl)
    (of_decide_eq_true (by kernel_rfl)) (by unfold Func.isWrapper; first | (rw [if_pos (by decide +kernel)]; kernel_rfl) | (rw [if_neg (by decide +kernel)]; exact ⟨rfl, rfl⟩))
    (fun os started H enc _ => lifted os started H enc)
theorem proved : Rows.FnExactSameLtsSaid := over
end Go.Proofs.Ytdlldgenkmngiaa.fnExactSameLts
