/- Contracts: words of a regular expression, by the reference: MatchesWord. -/
import Derived.Test.YtcakmchefbohoaaGreatDoorProg
import Derived.Test.YtcakmchefbohoaaGreatDoorMem
import Derived.Test.YtcakmchefbohoaaGreatDoorMath
import Derived.Test.YtcakmchefbohoaaGreatDoorBasics
import Derived.Test.YtcakmchefbohoaaGreatDoorOpenI
import Derived.Test.YtcakmchefbohoaaGreatDoorHelpI
import Derived.Test.YtcakmchefbohoaaGreatDoorGrid
import Derived.Test.YtcakmchefbohoaaGreatDoorLab
import Derived.Test.YtcakmchefbohoaaGreatDoorEnv
import Derived.Test.YtcakmchefbohoaaGreatDoorRLab
import Derived.Test.YtcakmchefbohoaaGreatDoorDec
import Derived.Test.YtcakmchefbohoaaGreatDoorReg
import Derived.Test.YtcakmchefbohoaaGreatDoorVReg
import Derived.Test.YtcakmchefbohoaaGreatDoorTreeR
import Derived.Test.YtcakmchefbohoaaGreatDoorConc
import Derived.Test.YtcakmchefbohoaaGreatDoorEmp
import Derived.Test.YtcakmchefbohoaaGreatDoorPart
import Derived.Test.YtcakmchefbohoaaGreatDoorSel
import Derived.Test.YtcakmchefbohoaaGreatDoorMwP
import Derived.Test.YtcakmchefbohoaaGreatDoorMwS
import Derived.Test.YtcakmchefbohoaaGreatDoorRgs
import Derived.Test.YtcakmchefbohoaaGreatDoorMwQ
import Derived.Test.YtcakmchefbohoaaGreatDoorModE
import Derived.Test.YtcakmchefbohoaaGreatDoorSplit
import Derived.Test.YtcakmchefbohoaaGreatDoorMwV
import Derived.Test.YtcakmchefbohoaaGreatDoorMwW
import Derived.Test.YtcakmchefbohoaaGreatDoorMwY
import Derived.WalkKit
import Derived.BigQuiet
import Derived.BigRegion
import Derived.Deep.QuietTactic
import Derived.Deep.RegionHeld3
import Derived.Deep.RegionLaw
import Derived.Deep.AppendLies
import Derived.Maps.AppendAt
import Derived.Laws.OwnMore
import Derived.Lib.SliceRun
import Derived.Lib.Hide
import Derived.Outline
set_option linter.unusedVariables false
set_option linter.unusedSimpArgs false
namespace Go.Proofs.YtcakmchefbohoaaGreatDoor
open Go.RowKit

theorem endsS_aux (L : List ByteArray) (HL : LabsOkS L) : ∀ (N : Nat) (x : Rg) (k : FRg), k.flat.length < N → FRg.ok (.cons x k .nil) → (∀ z ∈ x :: k.flat, inR z.kind 0 3 = true ∧ z.lab.size ≤ 1048576) → (x :: k.flat).length ≤ 1048576 → EndsS L x k := by
  intro N
  induction N with
  | zero => intro x k h; exact absurd h (by omega)
  | succ N ih =>
    intro x k hN hok hkd hlen
    have hkn : ∀ i, i < (x :: k.flat).length → inR (rgnth (x :: k.flat) i).kind 0 3 = true := fun i hi => by
      rw [rgnth_eq _ i hi]
      exact (hkd _ (List.getElem_mem hi)).1
    have hx := inR_true (hkd x (List.mem_cons_self ..)).1
    have hxl := (hkd x (List.mem_cons_self ..)).2
    have hc : x.kind = 0 ∨ x.kind = 1 ∨ x.kind = 2 ∨ x.kind = 3 := by omega
    have hr := hok.1
    rcases hc with h | h | h | h
    · exact endsS_test L x k h hxl HL
    all_goals first | rw [rarity_two (Or.inl h)] at hr | rw [rarity_two (Or.inr h)] at hr | rw [rarity_one h] at hr
    · obtain ⟨y1, k1, y2, k2, rfl⟩ := FRg.two_of (G := k) (by omega)
      have hf : (FRg.cons y1 k1 (.cons y2 k2 .nil)).flat = y1 :: (k1.flat ++ (y2 :: k2.flat)) := by simp [FRg.flat]
      have hl := congrArg List.length hf
      simp only [List.length_cons, List.length_append] at hl
      obtain ⟨o1, o2, o3⟩ := hok.2.1
      refine endsS_then L x y1 y2 k1 k2 h HL hok.2.1 hkn hlen (ih y1 k1 (by omega) ⟨o1, o2, trivial⟩ (fun z hz => hkd z ?_) (by simp only [List.length_cons] at hlen ⊢; omega)) (ih y2 k2 (by omega) ⟨o3.1, o3.2.1, trivial⟩ (fun z hz => hkd z ?_) (by simp only [List.length_cons] at hlen ⊢; omega))
      · rw [hf]; simp at hz ⊢; rcases hz with e | e
        · exact Or.inr (Or.inl e)
        · exact Or.inr (Or.inr (Or.inl e))
      · rw [hf]; simp at hz ⊢; rcases hz with e | e
        · exact Or.inr (Or.inr (Or.inr (Or.inl e)))
        · exact Or.inr (Or.inr (Or.inr (Or.inr e)))
    · obtain ⟨y1, k1, y2, k2, rfl⟩ := FRg.two_of (G := k) (by omega)
      have hf : (FRg.cons y1 k1 (.cons y2 k2 .nil)).flat = y1 :: (k1.flat ++ (y2 :: k2.flat)) := by simp [FRg.flat]
      have hl := congrArg List.length hf
      simp only [List.length_cons, List.length_append] at hl
      obtain ⟨o1, o2, o3⟩ := hok.2.1
      refine endsS_either L x y1 y2 k1 k2 h HL hok.2.1 hkn hlen (ih y1 k1 (by omega) ⟨o1, o2, trivial⟩ (fun z hz => hkd z ?_) (by simp only [List.length_cons] at hlen ⊢; omega)) (ih y2 k2 (by omega) ⟨o3.1, o3.2.1, trivial⟩ (fun z hz => hkd z ?_) (by simp only [List.length_cons] at hlen ⊢; omega))
      · rw [hf]; simp at hz ⊢; rcases hz with e | e
        · exact Or.inr (Or.inl e)
        · exact Or.inr (Or.inr (Or.inl e))
      · rw [hf]; simp at hz ⊢; rcases hz with e | e
        · exact Or.inr (Or.inr (Or.inr (Or.inl e)))
        · exact Or.inr (Or.inr (Or.inr (Or.inr e)))
    · obtain ⟨y1, k1, rfl⟩ := FRg.one_of (G := k) (by omega)
      have hf : (FRg.cons y1 k1 .nil).flat = y1 :: k1.flat := by simp [FRg.flat]
      have hl := congrArg List.length hf
      simp only [List.length_cons] at hl
      obtain ⟨o1, o2, o3⟩ := hok.2.1
      refine endsS_star L x y1 k1 h HL hlen (ih y1 k1 (by omega) ⟨o1, o2, trivial⟩ (fun z hz => hkd z ?_) (by simp only [List.length_cons] at hlen ⊢; omega))
      rw [hf]; exact List.mem_cons_of_mem _ hz
theorem sall_nextS {p : ByteArray → Bool} {xs : List ByteArray} {k : Nat} (h : k < xs.length) (h0 : (xs.take k).all p = true) (hp : p (snth xs k) = true) : (xs.take (k + 1)).all p = true := by
  rw [take_snth xs k h, List.all_append, h0]
  simp [hp]
theorem sall_hitS {p : ByteArray → Bool} {xs : List ByteArray} {k : Nat} (h : k < xs.length) (hp : p (snth xs k) = false) : xs.all p = false := by
  rw [List.all_eq_false]
  exact ⟨snth xs k, by rw [snth_eq xs k h]; exact List.getElem_mem h, by rw [hp]; decide⟩
set_option maxRecDepth 100000 in
set_option maxHeartbeats 1600000 in
theorem l10Texts_any (v : Value) (L : List ByteArray) (w : World) (hn : L.length ≤ 1048576) (hls : ∀ i, i < L.length → (snth L i).size ≤ 1048576) (hv : RdS w v L) :
    Calls Tryz.prog 45 #[v] w fun e w' => e = .returned (.bool (L.all labOk)) ∧ Below w.heap.size w w' := by
  have HLS := Lib.hid hls
  obtain ⟨a, cap, rfl, hcap, hcm, hv⟩ := hv
  obtain ⟨n, hxn⟩ : ∃ n, n = L.length := ⟨_, rfl⟩
  rw [← hxn] at hcap hv hn ⊢
  have Hxn := Lib.hid hxn
  clear hxn hls
  go_enter Tryz.func45, Tryz.ntmps45
  go_wp2_with fail
  go_loopw [3] (fun si wr => ∃ k : Nat, k ≤ n ∧ si = .int .i64 k ∧ Hid ((L.take k).all labOk = true) ∧ Below w.heap.size w wr) (fun si _ => n - (intOf si).toNat)
  case atStart => exact ⟨0, Nat.zero_le _, rfl, Lib.hid rfl, Below.refl _ _⟩
  case round =>
    obtain ⟨k, hk, rfl, HL, hbl⟩ := hrel
    by_cases hlt : k < n
    · obtain ⟨b, o, rfl, hb, hc⟩ := hv (by omega)
      have hg : wr.cell? ⟨b, o + k, none⟩ = some (.string (snth L k)) := (hbl.cell (by exact hb)).trans (hc k (by omega))
      have hkL : k < L.length := by rw [← Hxn.out]; exact hlt
      clear hc
      cases hp : labOk (snth L k) with
      | true =>
        have H2 := Lib.hid (sall_nextS hkL HL.out hp)
        go_wp2_with fail
        refine (l01Label_any _ _ (HLS.out k hkL)).mono ?_
        rw [hp]
        rintro e w1 ⟨rfl, hb1⟩
        have hbl1 := below_trans' hbl hb1
        clear HL hp hg hbl
        go_wp2_with fail
        go_roundw
        case rel => exact ⟨k + 1, by omega, by go_num, H2, hbl1⟩
        case measure => simp [intOf] <;> omega
      | false =>
        have H2 := Lib.hid (sall_hitS hkL hp)
        go_wp2_with fail
        refine (l01Label_any _ _ (HLS.out k hkL)).mono ?_
        rw [hp]
        rintro e w1 ⟨rfl, hb1⟩
        have hbl1 := below_trans' hbl hb1
        clear HL hp hg hbl
        go_wp2_with fail
        go_ret
        exact ⟨by rw [H2.out]; rfl, hbl1⟩
    · obtain rfl : k = n := by omega
      have H2 : Hid (L.all labOk = true) := Lib.hid (by have := HL.out; rwa [List.take_of_length_le (by rw [Hxn.out]; exact Nat.le_refl _)] at this)
      go_wp2_with fail
      go_ret
      exact ⟨by rw [H2.out]; rfl, hbl⟩
theorem infoEdge : (Tryz.prog.info? 76).map (fun i => (i.zero, i.size, i.bytes)) = some (some (.agg #[.int .i64 0, .int .i64 0, .int .i64 0]), 3, 24) := by kernel_rfl
def edgesV (i : Nat) : List Value := (List.range (i * 3)).map edgeC
theorem edgesV_succ (i : Nat) : edgesV (i + 1) = edgesV i ++ [.int .i64 (i : Int), .int .i64 (i : Int), .int .i64 ((i : Int) + 1)] := by
  unfold edgesV
  rw [show (i + 1) * 3 = i * 3 + 1 + 1 + 1 by omega, List.range_succ, List.range_succ, List.range_succ]
  simp only [List.map_append, List.map_cons, List.map_nil, List.append_assoc, List.cons_append, List.nil_append]
  have h0 : edgeC (i * 3) = .int .i64 (i : Int) := by unfold edgeC; rw [if_neg (by omega), show i * 3 / 3 = i by omega]
  have h1 : edgeC (i * 3 + 1) = .int .i64 (i : Int) := by unfold edgeC; rw [if_neg (by omega), show (i * 3 + 1) / 3 = i by omega]
  have h2 : edgeC (i * 3 + 1 + 1) = .int .i64 ((i : Int) + 1) := by unfold edgeC; rw [if_pos (by omega), show (i * 3 + 1 + 1) / 3 = i by omega]
  rw [h0, h1, h2]
/-- The chain while it is made: two rows in blocks of their own. -/
structure Mk (w : World) (bt m : Nat) (vL : Value) (iL : Nat) (vE : Value) (iE : Nat) (L : List ByteArray) : Prop where
  lt : bt < w.heap.size
  c0 : w.cell? ⟨bt, 0, none⟩ = some (.int .i64 ((m : Int) + 1))
  c2 : w.cell? ⟨bt, 2, none⟩ = some vL
  c3 : w.cell? ⟨bt, 3, none⟩ = some vE
  z2 : w.frozen? ⟨bt, 2, none⟩ = false
  z3 : w.frozen? ⟨bt, 3, none⟩ = false
  rowL : w.ownsRow (bt + 1) 9 1 vL iL ((L.take iL).map Value.string)
  rowE : w.ownsRow (bt + 1) 76 3 vE iE (edgesV iE)
  apart : ∀ c, vL.ownBlock = some c → vE.ownBlock ≠ some c
theorem Mk.pushL {w W w4 : World} {bt m iL iE : Nat} {vL vE v' : Value} {L : List ByteArray} (h : Mk w bt m vL iL vE iE L) (hb : Below w.heap.size w W) (hg : W.grownBy w4 vL.ownBlock) (ho : w4.ownsRow (bt + 1) 9 1 v' (iL + 1) ((L.take (iL + 1)).map Value.string)) (hl : ∀ c, v'.ownBlock = some c → vL.ownBlock = some c ∨ w.heap.size ≤ c) :
    w4.cell? ⟨bt, 2, none⟩ = some vL ∧ w4.frozen? ⟨bt, 2, none⟩ = false ∧ Mk (w4.setCell ⟨bt, 2, none⟩ v') bt m v' (iL + 1) vE iE L := by
  have hbt : w4.heap[bt]? = w.heap[bt]? := (hg.block bt (Nat.lt_of_lt_of_le h.lt hb.size) (fun e => by have := (h.rowL.lt bt e.symm).1; omega)).trans (hb.block bt h.lt)
  have k0 := (World.cell?_of_block (a := ⟨bt, 0, none⟩) hbt).trans h.c0
  have k2 := (World.cell?_of_block (a := ⟨bt, 2, none⟩) hbt).trans h.c2
  have k3 := (World.cell?_of_block (a := ⟨bt, 3, none⟩) hbt).trans h.c3
  have f2 := (World.frozen?_of_block (a := ⟨bt, 2, none⟩) hbt).trans h.z2
  have f3 := (World.frozen?_of_block (a := ⟨bt, 3, none⟩) hbt).trans h.z3
  have hE : w4.ownsRow (bt + 1) 76 3 vE iE (edgesV iE) := (ownsRow_below h.rowE hb).kept hg (by
    cases hE : vE.ownBlock with
    | none => exact Or.inl rfl
    | some c => exact Or.inr fun e => h.apart c e.symm hE)
  refine ⟨k2, f2, ⟨by rw [size_setCell]; exact Nat.lt_of_lt_of_le h.lt (Nat.le_trans hb.size hg.size), by rw [World.cell?_setCell_other _ _ _ _ (by intro e; cases e)]; exact k0, World.cell?_setCell_same _ _ _ k2, by rw [World.cell?_setCell_other _ _ _ _ (by intro e; cases e)]; exact k3, by rw [frozen_setCell]; exact f2, by rw [frozen_setCell]; exact f3, ownsRow_setCell_other ho _ (Nat.lt_succ_self _) _, ownsRow_setCell_other hE _ (Nat.lt_succ_self _) _, fun c hc he => ?_⟩⟩
  rcases hl c hc with h1 | h1
  · exact h.apart c h1 he
  · have := (h.rowE.lt c he).2; omega
theorem Mk.pushE {w W w4 : World} {bt m iL iE : Nat} {vL vE v' : Value} {L : List ByteArray} (h : Mk w bt m vL iL vE iE L) (hb : Below w.heap.size w W) (hg : W.grownBy w4 vE.ownBlock) (ho : w4.ownsRow (bt + 1) 76 3 v' (iE + 1) (edgesV (iE + 1))) (hl : ∀ c, v'.ownBlock = some c → vE.ownBlock = some c ∨ w.heap.size ≤ c) :
    w4.cell? ⟨bt, 3, none⟩ = some vE ∧ w4.frozen? ⟨bt, 3, none⟩ = false ∧ Mk (w4.setCell ⟨bt, 3, none⟩ v') bt m vL iL v' (iE + 1) L := by
  have hbt : w4.heap[bt]? = w.heap[bt]? := (hg.block bt (Nat.lt_of_lt_of_le h.lt hb.size) (fun e => by have := (h.rowE.lt bt e.symm).1; omega)).trans (hb.block bt h.lt)
  have k0 := (World.cell?_of_block (a := ⟨bt, 0, none⟩) hbt).trans h.c0
  have k2 := (World.cell?_of_block (a := ⟨bt, 2, none⟩) hbt).trans h.c2
  have k3 := (World.cell?_of_block (a := ⟨bt, 3, none⟩) hbt).trans h.c3
  have f2 := (World.frozen?_of_block (a := ⟨bt, 2, none⟩) hbt).trans h.z2
  have f3 := (World.frozen?_of_block (a := ⟨bt, 3, none⟩) hbt).trans h.z3
  have hL : w4.ownsRow (bt + 1) 9 1 vL iL ((L.take iL).map Value.string) := (ownsRow_below h.rowL hb).kept hg (by
    cases hL : vL.ownBlock with
    | none => exact Or.inl rfl
    | some c => exact Or.inr fun e => h.apart c hL e.symm)
  refine ⟨k3, f3, ⟨by rw [size_setCell]; exact Nat.lt_of_lt_of_le h.lt (Nat.le_trans hb.size hg.size), by rw [World.cell?_setCell_other _ _ _ _ (by intro e; cases e)]; exact k0, by rw [World.cell?_setCell_other _ _ _ _ (by intro e; cases e)]; exact k2, World.cell?_setCell_same _ _ _ k3, by rw [frozen_setCell]; exact f2, by rw [frozen_setCell]; exact f3, ownsRow_setCell_other hL _ (Nat.lt_succ_self _) _, ownsRow_setCell_other ho _ (Nat.lt_succ_self _) _, fun c hc he => ?_⟩⟩
  rcases hl c he with h1 | h1
  · exact h.apart c hc h1
  · have := (h.rowL.lt c hc).2; omega
theorem Mk.below {w w' : World} {bt m iL iE : Nat} {vL vE : Value} {L : List ByteArray} (h : Mk w bt m vL iL vE iE L) (hb : Below w.heap.size w w') : Mk w' bt m vL iL vE iE L :=
  ⟨Nat.lt_of_lt_of_le h.lt hb.size, cell_upS h.c0 hb, cell_upS h.c2 hb, cell_upS h.c3 hb, (hb.frozen (p := ⟨bt, 2, none⟩) h.lt).trans h.z2, (hb.frozen (p := ⟨bt, 3, none⟩) h.lt).trans h.z3, ownsRow_below h.rowL hb, ownsRow_below h.rowE hb, h.apart⟩
theorem Mk.chain {w : World} {bt m : Nat} {vL vE : Value} {L : List ByteArray} (h : Mk w bt m vL m vE m L) (hm : m = L.length) : ChainAt w bt L := by
  subst hm
  have h1 := h.rowL
  rw [List.take_length] at h1
  refine ⟨vL, vE, h.c2, h.c3, ?_, ?_⟩
  · exact Ow.rd (ownsRow_ow h1 (sc L) fun i hi => by rw [List.getElem?_map, snth_get? L i (by omega)]; rfl)
  · exact Ow.rd (ownsRow_ow h.rowE edgeC fun i hi => by unfold edgesV; rw [List.getElem?_map, List.getElem?_range hi]; rfl)
set_option maxRecDepth 100000 in
set_option maxHeartbeats 1600000 in
theorem spec_MatchesWord_any (v vl : Value) (r : List Rg) (L : List ByteArray) (w : World) (hn : r.length ≤ 1048576) (hls : ∀ i, i < r.length → (rgnth r i).lab.size ≤ 1048576) (hnL : L.length ≤ 1048576) (hlL : ∀ i, i < L.length → (snth L i).size ≤ 1048576) (hv : RdRg w v r) (hvl : RdS w vl L) :
    Calls Tryz.prog 22 #[v, vl] w fun e w' => e = .returned (.tuple #[.bool (mwV r L), .int .i64 (mwC r L)]) ∧ Below w.heap.size w w' := by
  have HV := Lib.hid hv
  have HVL := Lib.hid hvl
  have HLS := Lib.hid hls
  have HLL := Lib.hid hlL
  obtain ⟨a, cap, rfl⟩ := hv.slice
  obtain ⟨al, cl, rfl⟩ := hvl.slice
  obtain ⟨n, hn'⟩ : ∃ n, n = r.length := ⟨_, rfl⟩
  obtain ⟨m, hm'⟩ : ∃ m, m = L.length := ⟨_, rfl⟩
  rw [← hn'] at HV hn ⊢
  rw [← hm'] at HVL hnL ⊢
  have Hn := Lib.hid hn'
  have Hm := Lib.hid hm'
  obtain ⟨V, hV⟩ : ∃ V, V = mwV r L := ⟨_, rfl⟩
  obtain ⟨C, hC⟩ : ∃ C, C = mwC r L := ⟨_, rfl⟩
  rw [← hV, ← hC]
  clear hv hvl hls hlL hn' hm'
  cases hvr : validR r with
  | false =>
    have hb := mw_bad (L := L) hvr
    obtain rfl : V = false := hV.trans hb.1
    obtain rfl : C = 1 := hC.trans hb.2
    clear hV hC hb
    go_enter Tryz.func22, Tryz.ntmps22
    go_wp2_with fail
    refine (l20Is_any _ r _ (by rw [← Hn.out]; exact hn) HLS.out HV.out).mono ?_
    rw [hvr]
    rintro e w1 ⟨rfl, hb1⟩
    go_wp2_with fail
    go_ret2
    exact ⟨rfl, hb1⟩
  | true =>
  by_cases h64 : 64 < m
  · have h64b : decide ((64 : Int) < (m : Int)) = true := decide_eq_true (by omega)
    have hb := mw_range hvr (mwOk_long (r := r) (L := L) (by have := Hm.out; omega))
    obtain rfl : V = false := hV.trans hb.1
    obtain rfl : C = 2 := hC.trans hb.2
    clear hV hC hb
    go_enter Tryz.func22, Tryz.ntmps22
    go_wp2_with fail
    refine (l20Is_any _ r _ (by rw [← Hn.out]; exact hn) HLS.out HV.out).mono ?_
    rw [hvr]
    rintro e w1 ⟨rfl, hb1⟩
    go_wp2_with fail
    go_ret2
    exact ⟨rfl, hb1⟩
  have h64b : decide ((64 : Int) < (m : Int)) = false := decide_eq_false (by omega)
  have hok : mwOk r L = L.all labOk := mwOk_short (by have := Hm.out; omega)
  cases hla : L.all labOk with
  | false =>
    have hb := mw_range hvr (hok.trans hla)
    obtain rfl : V = false := hV.trans hb.1
    obtain rfl : C = 2 := hC.trans hb.2
    clear hV hC hb hok
    go_enter Tryz.func22, Tryz.ntmps22
    go_wp2_with fail
    refine (l20Is_any _ r _ (by rw [← Hn.out]; exact hn) HLS.out HV.out).mono ?_
    rw [hvr]
    rintro e w1 ⟨rfl, hb1⟩
    go_wp2_with fail
    refine (l10Texts_any _ L _ (by rw [← Hm.out]; exact hnL) HLL.out (HVL.out.below hb1)).mono ?_
    rw [hla]
    rintro e w2 ⟨rfl, hb2⟩
    go_wp2_with fail
    go_ret2
    exact ⟨rfl, below_trans' hb1 hb2⟩
  | true =>
    have hb := mw_good hvr (hok.trans hla)
    obtain ⟨hs1, hs2⟩ := validR_shape hvr
    obtain ⟨x, kids, hB, hko, hf⟩ := FRg.one hs1 hs2
    obtain ⟨U, hU⟩ : ∃ U, U = opX L x (FRg.fold (opX L) kids) (startB L.length) := ⟨_, rfl⟩
    have hUl : U.length = m + 1 := by rw [hU, Hm.out, ← startB_len]; exact opX_len L (.cons x kids .nil) 0 _
    have HLab : Hid (LabsOkS L) := Lib.hid ⟨by have := Hm.out; omega, HLL.out, fun i hi => by have := List.all_eq_true.1 hla _ (List.getElem_mem hi); rwa [← snth_eq L i hi] at this⟩
    have HEnds : Hid (EndsS L x kids) := Lib.hid (endsS_aux L HLab.out (kids.flat.length + 1) x kids (Nat.lt_succ_self _) hko (by rw [← hf]; exact valid_rg hvr HLS.out) (by rw [← hf, ← Hn.out]; exact hn))
    have HVU : Hid (bnth U m = V) := Lib.hid (by rw [hV, hb.1, mwRes_at hB, hU, Hm.out])
    obtain rfl : C = 0 := hC.trans hb.2
    have HU := Lib.hid hU
    have Hf := Lib.hid hf
    have HUl := Lib.hid hUl
    clear hV hC hb hok hs1 hs2 hB hko hf hU hUl
    go_enter Tryz.func22, Tryz.ntmps22
    go_wp2_with fail
    refine (l20Is_any _ r _ (by rw [← Hn.out]; exact hn) HLS.out HV.out).mono ?_
    rw [hvr]
    rintro e w1 ⟨rfl, hb1⟩
    go_wp2_with fail
    refine (l10Texts_any _ L _ (by rw [← Hm.out]; exact hnL) HLL.out (HVL.out.below hb1)).mono ?_
    rw [hla]
    rintro e w2 ⟨rfl, hb2⟩
    have hbl2 := below_trans' hb1 hb2
    go_wp2_with fail
    have hA := alcS w2 (.cells #[.int .i64 ((m : Int) + 1), .int .i64 0, .slice none 0 0, .slice none 0 0] 74)
    have hcell : ∀ j u, (#[.int .i64 ((m : Int) + 1), .int .i64 0, .slice none 0 0, .slice none 0 0] : Array Value)[j]? = some u → (w2.alloc (.cells #[.int .i64 ((m : Int) + 1), .int .i64 0, .slice none 0 0, .slice none 0 0] 74)).cell? ⟨w2.heap.size, j, none⟩ = some u := fun j u h => by
      rw [cell_of_row _ _ _ _ _ _ (heap_alloc_new w2 _)]; exact h
    have HM0 : Hid (Mk (w2.alloc (.cells #[.int .i64 ((m : Int) + 1), .int .i64 0, .slice none 0 0, .slice none 0 0] 74)) w2.heap.size m (.slice none 0 0) 0 (.slice none 0 0) 0 L) := Lib.hid ⟨by simp, hcell 0 _ rfl, hcell 2 _ rfl, hcell 3 _ rfl, frozen_of_row _ _ _ _ _ (heap_alloc_new w2 _), frozen_of_row _ _ _ _ _ (heap_alloc_new w2 _), World.ownsRow_nil _ _ _ _, World.ownsRow_nil _ _ _ _, fun c hc => by cases hc⟩
    obtain ⟨i1, hi, hz0, hz1, hz2⟩ := info_parts infoStr
    obtain ⟨j1, hj, hy0, hy1, hy2⟩ := info_parts infoEdge
    clear hcell
    go_loopw [7] (fun si wr => ∃ (i : Nat) (vL vE : Value), i ≤ m ∧ si = .int .i64 i ∧ Hid (Mk wr w2.heap.size m vL i vE i L) ∧ Below w2.heap.size w2 wr) (fun si _ => m - (intOf si).toNat)
    case atStart => exact ⟨0, _, _, Nat.zero_le _, rfl, HM0, hA⟩
    case round =>
      clear HM0 hA
      obtain ⟨i, vL, vE, him, rfl, HMk, hbr⟩ := hrel
      obtain ⟨aL, cL, rfl⟩ := owned_slice HMk.out.rowL
      obtain ⟨aE, cE, rfl⟩ := owned_slice HMk.out.rowE
      have hbw := below_trans' hbl2 hbr
      have hwl : w2.heap.size + 1 ≤ wr.heap.size := HMk.out.lt
      by_cases hlt : i < m
      · have hiL : i < L.length := by rw [← Hm.out]; exact hlt
        have hvx := HVL.out.below hbw
        unfold RdS at hvx
        rw [← Hm.out] at hvx
        obtain ⟨a', c', e', _, _, hl3⟩ := hvx
        cases e'
        obtain ⟨bl, ol, rfl, hbl', hcl⟩ := hl3 (by omega)
        have y1 : wr.cell? ⟨bl, ol + i, none⟩ = some (.string (snth L i)) := hcl i (by omega)
        have k2 := HMk.out.c2
        have hbD := drwS wr
        have d1 := cell_upS y1 hbD
        have d2 := cell_upS k2 hbD
        have hoL := Lib.hid HMk.out.rowL
        have hblo : bl < w.heap.size := by
          have hv0 := HVL.out
          unfold RdS at hv0
          rw [← Hm.out] at hv0
          obtain ⟨a0, c0, e0, _, _, hl0⟩ := hv0
          cases e0
          obtain ⟨b0, o0, e1, hb0, _⟩ := hl0 (by omega)
          cases e1
          exact hb0
        have hs2 := hbl2.size
        have htk : (L.take (i + 1)).map Value.string = (L.take i).map Value.string ++ [.string (snth L i)] := by rw [take_snth L i hiL, List.map_append]; rfl
        have Htk := Lib.hid htk
        clear hl3 hcl htk
        go_wp2_with fail
        have d3 := cell_upS k2 ((alcS wr (.cells #[.string (snth L i)] 9)).drew)
        have d4 := cell_upS k2 (alcS wr (.cells #[.string (snth L i)] 9))
        go_region_law (first | (refine step_append_lies _ (by rfl) _ _ _ (by rfl) (w2.heap.size + 1) 9 i1 (.string ByteArray.empty) 1 16 Tryz.underlying37 hi hz0 hz1 hz2 rfl (by decide) (.slice aL i cL) i ((L.take i).map Value.string) (by first | rfl | simp [Act.eval, Act.put]) (ownsRow_below hoL.out (by first | exact (alcS _ _).drew | exact below_trans' (drwS _) (alcS _ _))) ⟨_, 0, none⟩ 1 1 [.string (snth L i)] (by first | rfl | simp [Act.eval, Act.put]) rfl (by first | exact new_cell _ _ _ _ (by simp) | (intro j u hj; have := new_cell wr (.string (snth L i)) 9 _ rfl j u hj; exact this)) (by simp [Value.oneCell']) (by decide) (by unfold maxLen; omega) (by omega) (by simp; omega) (wr.heap.size + 1) (by simp) ?_; intro g4 q4 w4 hown4 hgrow4 hloc4 hlt4; have hb4 : Below w2.heap.size w2 w4 := Below.grown (below_trans' hbr (by first | exact (alcS _ _).drew | exact below_trans' (drwS _) (alcS _ _))) hgrow4 (by simp; omega) (fun c hc => by have := (hoL.out.lt c hc).1; omega); have hP := HMk.out.pushL (v' := .slice (some ⟨g4, 0, none⟩) (i + 1) q4) (by first | exact (alcS _ _).drew | exact below_trans' (drwS _) (alcS _ _)) hgrow4 (by rw [Htk.out]; exact hown4) (fun c hc => by rcases hloc4 with e | e; exact Or.inl (e.trans hc); (have e2 : g4 = c := Option.some.inj hc); exact Or.inr (by omega)); have hS4 : w4.cell? ⟨bl, ol + i, none⟩ = some (.string (snth L i)) ∧ w4.cell? ⟨w2.heap.size, 2, none⟩ = some (.slice aL i cL) := ⟨(World.cell?_of_block (a := ⟨bl, ol + i, none⟩) (hgrow4.block bl (by simp; omega) (fun e => by have := (hoL.out.lt bl e.symm).1; omega))).trans (by first | exact cell_upS y1 ((alcS _ _).drew) | exact cell_upS d1 (alcS _ _)), hP.1⟩; have hz4 := hP.2.1))
        all_goals
          have HP := Lib.hid hP.2.2
          have hb5 : Below w2.heap.size w2 (w4.setCell ⟨w2.heap.size, 2, none⟩ (.slice (some ⟨g4, 0, none⟩) (i + 1) q4)) := hb4.setCell (Nat.le_refl _) _
          clear hP hS4 hz4 hown4 hgrow4 hloc4 hlt4 hb4 d1 d2 d3 d4 y1 k2 hoL HMk
          generalize w4.setCell ⟨w2.heap.size, 2, none⟩ (.slice (some ⟨g4, 0, none⟩) (i + 1) q4) = w5 at *
          have k3 := HP.out.c3
          have hoE := Lib.hid HP.out.rowE
          have hl5 : w2.heap.size + 1 ≤ w5.heap.size := HP.out.lt
          go_wp2_with (at_builtin; refine wpList_append_own_at _ rfl _ _ 72 rfl (w2.heap.size + 1) 76 j1 (.agg #[.int .i64 0, .int .i64 0, .int .i64 0]) 3 24 Tryz.underlying72 hj hy0 hy1 hy2 rfl (by decide) _ i (edgesV i) rfl (hoE.out.alloc _) ⟨_, 0, none⟩ 1 1 [.int .i64 (i : Int), .int .i64 (i : Int), .int .i64 ((i : Int) + 1)] rfl rfl (rg_new _ _ _ _ _ _ (by simp)) (by intro u hu; simp at hu; rcases hu with rfl | rfl | rfl <;> rfl) ?c2 ?c3 ?c4 ?_)
          case c2 => unfold maxLen; omega
          case c3 => omega
          case c4 => simp; omega
          intro v6 w6 hown6 hgrow6 hnil6 hloc6
          obtain ⟨a6, c6, rfl⟩ := owned_slice hown6
          have hQ := HP.out.pushE (v' := .slice a6 (i + 1) c6) (alcS _ _) hgrow6 (by rw [edgesV_succ]; exact hown6) (fun c hc => by
            rcases hloc6 with e | e
            · exact Or.inl (e.symm.trans hc)
            · rw [hc] at e
              have e2 := Option.some.inj e
              first | exact Or.inr (by omega) | exact Or.inr (by simp at e2; omega))
          have hb6 : Below w2.heap.size w2 w6 := (hb5.alloc (by omega) _).grown hgrow6 (by simp; omega) (fun c hc => by have := (hoE.out.lt c hc).1; omega)
          have HQ := Lib.hid hQ.2.2
          have x1 := hQ.1
          have x2 := hQ.2.1
          clear hQ hown6 hgrow6 hnil6 hloc6 HP hoE k3 hb5
          go_wp2_with fail
          go_roundw
          case rel => exact ⟨i + 1, _, _, by omega, by go_num, HQ, hb6.setCell (Nat.le_refl _) _⟩
          case measure => simp [intOf] <;> omega
      · obtain rfl : i = m := by omega
        have HCh : Hid (ChainAt wr w2.heap.size L) := Lib.hid (HMk.out.chain Hm.out)
        have k0 := HMk.out.c0
        obtain ⟨b0, hb0, hbz0, hbz1, hbz2⟩ := info_parts infoBool
        clear HMk
        go_wp2_with (at_make; refine wpList_make_full _ rfl _ _ 77 rfl wr.heap.size 4 b0 (.bool false) 1 Tryz.underlying77 hb0 hbz0 hbz1 _ _ _ _ (i + 1) rfl rfl rfl rfl ?b2 ?b3 (Nat.le_refl _) ?_)
        case b2 => first | omega | (rw [hbz2]; omega)
        case b3 => unfold maxLen; omega
        intro w7 hown7 hgrow7
        rw [toList_madeCells_one] at hown7
        have hb7 : Below wr.heap.size wr w7 := (Below.refl _ _).grown hgrow7 (Nat.le_refl _) (fun k h => by cases h)
        have HO7 := Lib.hid (made_bool hown7)
        have o1 := (HO7.out.cellAt 0 (by omega)).trans (boolsV_get _ (by simp))
        have o2 := HO7.out.frozenAt 0
        have HO8 : Hid ((w7.setCell ⟨wr.heap.size, 0, none⟩ (.bool true)).ownsRow wr.heap.size 4 1 (.slice (some ⟨wr.heap.size, 0, none⟩) (i + 1) (i + 1)) (i + 1) (boolsV (startB L.length))) := Lib.hid (by
          have h := own_store HO7.out (j := 0) (by omega) true
          have e : (List.replicate (i + 1) false).set 0 true = startB L.length := bl_ext (by rw [startB_len, List.length_set, List.length_replicate, Hm.out]) fun k hk => by
            rw [List.length_set, List.length_replicate] at hk
            rw [bnth_set _ _ _ (by simp), bnth_rep, bnth_startB (by have := Hm.out; omega)]
            by_cases e : k = 0
            · rw [if_pos e, decide_eq_true e]
            · rw [if_neg e, decide_eq_false e]
          rw [e] at h
          exact h)
        have hb8 : Below wr.heap.size wr (w7.setCell ⟨wr.heap.size, 0, none⟩ (.bool true)) := hb7.setCell (Nat.le_refl _) _
        have hbl8 := below_trans' hbw hb8
        clear hown7 hgrow7 HO7 hb7
        go_wp2_with fail
        refine (HEnds.out _ _ w2.heap.size (startB L.length) _ (by rw [← Hf.out]; exact HV.out.below hbl8) (HCh.out.below hb8) (startB_len _) (by have h := (own_bool HO8.out).rd; exact h)).mono ?_
        rw [← HU.out]
        rintro e w9 ⟨u9, rfl, hO9, hb9⟩
        have hbl9 := below_trans' hbl8 hb9
        obtain ⟨a9, c9, rfl⟩ := hO9.rd.slice
        rw [HUl.out] at hO9 ⊢
        obtain ⟨a', c', e', _, _, h9⟩ := hO9
        rw [HUl.out] at e' h9
        cases e'
        obtain ⟨b9, o9, rfl, _, _, hc9⟩ := h9 (by omega)
        have r9 : w9.cell? ⟨b9, o9 + i, none⟩ = some (.bool (bnth U i)) := (hc9 i (by omega)).1
        rw [HVU.out] at r9
        clear h9 hc9 HO8
        go_wp2_with fail
        go_ret2
        exact ⟨rfl, hbl9⟩
end Go.Proofs.YtcakmchefbohoaaGreatDoor
