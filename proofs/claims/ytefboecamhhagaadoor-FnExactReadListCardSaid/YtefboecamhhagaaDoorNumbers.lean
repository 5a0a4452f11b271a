/- Contracts: many words read as numbers, lists read, of the program and of the reference. -/
import Derived.Test.YtefboecamhhagaaDoorProg
import Derived.Test.YtefboecamhhagaaDoorMem
import Derived.Test.YtefboecamhhagaaDoorMath
import Derived.Test.YtefboecamhhagaaDoorBasics
import Derived.Test.YtefboecamhhagaaDoorHelpI
import Derived.Test.YtefboecamhhagaaDoorOpenI
import Derived.Test.YtefboecamhhagaaDoorGrid
import Derived.Test.YtefboecamhhagaaDoorShelf
import Derived.Test.YtefboecamhhagaaDoorDec
import Derived.Test.YtefboecamhhagaaDoorNum
import Derived.Test.YtefboecamhhagaaDoorRead
import Derived.Test.YtefboecamhhagaaDoorText
import Derived.Test.YtefboecamhhagaaDoorLab
import Derived.Test.YtefboecamhhagaaDoorSplit
import Derived.Test.YtefboecamhhagaaDoorList
import Derived.Test.YtefboecamhhagaaDoorEnv
import Derived.WalkKit
import Derived.BigQuiet
import Derived.Maps.AppendAt
import Derived.Lib.Hide
import Derived.Outline
set_option linter.unusedVariables false
set_option linter.unusedSimpArgs false
namespace Go.Proofs.YtefboecamhhagaaDoor
open Go.RowKit

theorem canons_hit {ws : List ByteArray} {k : Nat} (h : k < ws.length) (hp : canon (snth ws k).data.toList = false) : canons ws = false := by
  cases he : canons ws with
  | false => rfl
  | true =>
    have := List.all_eq_true.1 he _ (List.getElem_mem h)
    rw [← snth_eq ws k h, hp] at this
    cases this
theorem canons_next {ws : List ByteArray} {k : Nat} (h : k < ws.length) (h0 : canons (ws.take k) = true) (hp : canon (snth ws k).data.toList = true) : canons (ws.take (k + 1)) = true := by
  unfold canons at h0 ⊢
  rw [take_snth ws k h, List.all_append, h0]
  simp [hp]
theorem rd_yes {s : ByteArray} (h : canon s.data.toList = true) : rdN s = numV s.data.toList := by unfold rdN; rw [if_pos h]
theorem numsV_next {ws : List ByteArray} {k : Nat} (h : k < ws.length) (hp : canon (snth ws k).data.toList = true) : numsV (ws.take (k + 1)) = numsV (ws.take k) ++ [rdN (snth ws k)] := by
  unfold numsV
  rw [take_snth ws k h, List.map_append, rd_yes hp]
  rfl
theorem numsV_64 {ws : List ByteArray} (h : canons ws = true) : I64s (numsV ws) := by
  intro x hx
  obtain ⟨y, hy, rfl⟩ := List.mem_map.1 hx
  have := canon_good (List.all_eq_true.1 h y hy)
  omega
/-- A list of words that reads as a whole. -/
def numsOr (ws : List ByteArray) : List Int := if canons ws = true then numsV ws else []
set_option maxRecDepth 100000 in
set_option maxHeartbeats 1600000 in
theorem readNumbers_any (v : Value) (ws : List ByteArray) (w : World) (hn : ws.length ≤ 1048577) (hs : ∀ k, k < ws.length → (snth ws k).size ≤ 1048576) (hT : Env3 w) (hv : RdS w v ws) :
    Calls Tryd.prog 62 #[v] w fun e w' => ∃ u, e = .returned (.tuple #[u, .bool (canons ws)]) ∧ OwI w' w.heap.size u (numsOr ws) ∧ Below w.heap.size w w' := by
  obtain ⟨a, cap, rfl, hcap, hm, hv⟩ := hv
  obtain ⟨i0, hi, hz0, hz1, hz2⟩ := info_parts infoI64
  obtain ⟨n, hxn⟩ : ∃ n, n = ws.length := ⟨_, rfl⟩
  rw [← hxn] at hcap hv hn
  have Hxn := Lib.hid hxn; clear hxn
  have HT := Lib.hid hT; clear hT
  have Hs := Lib.hid hs; clear hs
  rw [← Hxn.out]
  go_enter Tryd.func62, Tryd.ntmps62
  go_wp2_with fail
  go_loopw [4, 11] (fun so si wr => ∃ k : Nat, k ≤ n ∧ si = .int .i64 k ∧ Hid (canons (ws.take k) = true) ∧ Hid (wr.ownsRow w.heap.size 2 1 so k ((numsV (ws.take k)).map (Value.int .i64))) ∧ Below w.heap.size w wr) (fun _ si _ => n - (intOf si).toNat)
  case atStart => exact ⟨0, Nat.zero_le _, rfl, Lib.hid rfl, Lib.hid (World.ownsRow_nil _ _ _ _), Below.refl _ _⟩
  case round =>
    obtain ⟨k, hk, rfl, HL, HO, hbl⟩ := hrel
    obtain ⟨a5, c5, rfl⟩ := owned_slice HO.out
    by_cases hlt : k < n
    · obtain ⟨b, o, rfl, hb, hc⟩ := hv (by omega)
      have hg : wr.cell? ⟨b, o + k, none⟩ = some (.string (snth ws k)) := (hbl.cell (by exact hb)).trans (hc k (by omega))
      clear hc
      have hxs := Hs.out k (by rw [← Hxn.out]; exact hlt)
      obtain ⟨x, hx⟩ : ∃ x, x = snth ws k := ⟨_, rfl⟩
      have Hx := Lib.hid hx
      rw [← hx] at hg hxs
      have HTw := Lib.hid (HT.out.below hbl)
      clear hx
      cases hp : canon x.data.toList with
      | true =>
        have HL2 := Lib.hid (canons_next (k := k) (by rw [← Hxn.out]; exact hlt) HL.out (by rw [← Hx.out]; exact hp))
        have HN2 : Hid (numsV (ws.take (k + 1)) = numsV (ws.take k) ++ [rdN x]) := Lib.hid (by rw [numsV_next (by rw [← Hxn.out]; exact hlt) (by rw [← Hx.out]; exact hp), Hx.out])
        go_wp2_with fail
        refine (ReadDecimal_any x _ (by omega) HTw.out.1 HTw.out.2.1 HTw.out.2.2).mono ?_
        rw [hp]
        rintro e w1 ⟨rfl, hb1⟩
        have hbl1 := below_trans' hbl hb1
        have HO1 := Lib.hid (ownsRow_below HO.out hb1)
        clear HO HL hp
        go_wp2_with (at_builtin; refine wpList_append_own_at _ rfl _ _ 22 rfl w.heap.size 2 i0 (.int .i64 0) 1 8 Tryd.underlying22 hi hz0 hz1 hz2 rfl (by decide) _ k _ rfl (HO1.out.alloc _) ⟨w1.heap.size, 0, none⟩ 1 1 [.int .i64 (rdN x)] rfl rfl (new_cell _ _ _ _ rfl) (by simp [Value.oneCell']) ?c2 ?c3 ?c4 ?_)
        case c2 => unfold maxLen; omega
        case c3 => omega
        case c4 => have := hbl1.size; first | omega | (simp; omega)
        intro v' w2 hown' hgrow hnil hloc
        have hbl2 : Below w.heap.size w w2 := (hbl1.alloc hbl1.size _).grown hgrow (by have := hbl1.size; first | omega | (simp; omega)) (fun j hj => (HO1.out.lt j hj).1)
        have HO2 : Hid (w2.ownsRow w.heap.size 2 1 v' (k + 1) ((numsV (ws.take (k + 1))).map (Value.int .i64))) := by
          refine Lib.hid ?_
          rw [HN2.out, List.map_append]
          exact hown'
        clear hown' hgrow hnil hloc HO1
        go_wp2_with fail
        go_roundw
        case rel => exact ⟨k + 1, by omega, by go_num, HL2, HO2, hbl2⟩
        case measure => simp [intOf]; omega
      | false =>
        have HF := Lib.hid (canons_hit (k := k) (by rw [← Hxn.out]; exact hlt) (by rw [← Hx.out]; exact hp))
        have HE : Hid (numsOr ws = []) := Lib.hid (by unfold numsOr; rw [HF.out]; rfl)
        go_wp2_with fail
        refine (ReadDecimal_any x _ (by omega) HTw.out.1 HTw.out.2.1 HTw.out.2.2).mono ?_
        rw [hp]
        rintro e w1 ⟨rfl, hb1⟩
        go_wp2_with fail
        go_ret2
        exact ⟨_, by rw [HF.out]; rfl, by rw [HE.out]; exact OwI_nil _ _, below_trans' hbl hb1⟩
    · obtain rfl : k = n := by omega
      have HF : Hid (canons ws = true) := Lib.hid (by have := HL.out; rwa [List.take_of_length_le (by rw [Hxn.out]; exact Nat.le_refl _)] at this)
      have HE : Hid (numsOr ws = numsV (ws.take k)) := Lib.hid (by unfold numsOr; rw [if_pos HF.out, List.take_of_length_le (by rw [Hxn.out]; exact Nat.le_refl _)])
      go_wp2_with fail
      go_ret2
      exact ⟨_, by rw [HF.out]; rfl, by rw [HE.out]; exact ownsRow_owI HO.out, hbl⟩
/-- A list that is read from a text. -/
def listWords (s : ByteArray) : List ByteArray := wordsB 44 s
def listOkR (s : ByteArray) : Bool := if s = ⟨#[45]⟩ then true else canons (listWords s) && fits (numsV (listWords s))
def listVals (s : ByteArray) : List Int := if s = ⟨#[45]⟩ then [] else if listOkR s = true then numsV (listWords s) else []
theorem snth_word {c : UInt8} {s : ByteArray} {k : Nat} (h : k < (wordsB c s).length) : (snth (wordsB c s) k).size ≤ s.size := by
  rw [snth_eq _ _ h]
  exact wordsB_piece c s _ (List.getElem_mem h)
theorem rd_words {w : World} {c : UInt8} {s : ByteArray} {T : TypeId} (hs : s.size ≤ 1048576) :
    OwS (w.alloc (.cells (((wordsB c s).map Value.string).toArray) T)) w.heap.size (.slice (some ⟨w.heap.size, 0, none⟩) (wordsB c s).length (wordsB c s).length) (wordsB c s) := by
  refine rd_alloc w _ T _ (sc (wordsB c s)) (by simp) ?_ ?_
  · have := wordsB_length c s
    unfold maxLen; omega
  · intro i hi
    simp only [List.getElem?_toArray, List.getElem?_map]
    rw [snth_get? _ _ hi]
    rfl
set_option maxRecDepth 100000 in
set_option maxHeartbeats 1600000 in
theorem ReadList_any (s : ByteArray) (w : World) (hs : s.size ≤ 1048576) (hT : Env w) :
    Calls Tryd.prog 31 #[.string s] w fun e w' => ∃ u, e = .returned (.tuple #[u, .bool (listOkR s)]) ∧ OwI w' w.heap.size u (listVals s) ∧ Below w.heap.size w w' := by
  by_cases hd : s = ⟨#[45]⟩
  · subst hd
    have H1 : Hid (listOkR ⟨#[45]⟩ = true) := Lib.hid (by unfold listOkR; rw [if_pos rfl])
    have H2 : Hid (listVals ⟨#[45]⟩ = []) := Lib.hid (by unfold listVals; rw [if_pos rfl])
    clear hT
    go_enter Tryd.func31, Tryd.ntmps31
    go_wp2_with fail
    go_ret2
    exact ⟨_, by rw [H1.out]; rfl, by rw [H2.out]; exact OwI_nil _ _, Below.refl _ _⟩
  · have hdb : (s.toList == ([45] : List UInt8)) = false := beq_lit s [45] hd
    have hdb2 : ¬ s.toList = [45] := by simpa using hdb
    obtain ⟨W, hW⟩ : ∃ W, W = wordsB 44 s := ⟨_, rfl⟩
    have HW := Lib.hid hW
    have HC : Hid (Lib.countB s ⟨#[44]⟩ + 1 = W.length) := Lib.hid (by rw [countB_one, hW])
    have HB : Hid (Lib.splitB ⟨#[44]⟩ 0 (Lib.countB s ⟨#[44]⟩) s = W) := Lib.hid (by rw [splitB_one, hW])
    have hWl : W.length ≤ 1048577 := by rw [hW]; have := wordsB_length 44 s; omega
    have HWs : Hid (∀ k, k < W.length → (snth W k).size ≤ 1048576) := Lib.hid (by rw [hW]; intro k hk; have := snth_word hk; omega)
    have HK : Hid (listOkR s = (canons W && fits (numsV W))) := Lib.hid (by unfold listOkR listWords; rw [if_neg hd, hW])
    have HV : Hid (listVals s = if (canons W && fits (numsV W)) = true then numsV W else []) := Lib.hid (by unfold listVals; rw [if_neg hd, HK.out]; unfold listWords; rw [hW])
    have HT := Lib.hid hT
    obtain ⟨m, hmx⟩ := hT.2
    clear hT hW hd
    go_enter Tryd.func31, Tryd.ntmps31
    go_wp2_with fail
    refine (Tryd_strings_Split s _ m _ (by omega) hmx (by decide)).mono ?_
    rw [HB.out, HC.out]
    rintro e w' ⟨rfl, rfl⟩
    have hbA : Below w.heap.size w (w.alloc (.cells ((W.map Value.string).toArray) 9)) := (Below.refl _ _).alloc (Nat.le_refl _) _
    have HR : Hid (RdS (w.alloc (.cells ((W.map Value.string).toArray) 9)) (.slice (some ⟨w.heap.size, 0, none⟩) W.length W.length) W) := Lib.hid (by rw [HW.out]; exact (rd_words hs).rd)
    have HT1 := Lib.hid (HT.out.1.below hbA)
    have hsz : w.heap.size ≤ (w.alloc (.cells ((W.map Value.string).toArray) 9)).heap.size := hbA.size
    generalize w.alloc (.cells ((W.map Value.string).toArray) 9) = w1 at *
    clear hmx
    cases hcn : canons W with
    | false =>
      have HE : Hid (numsOr W = []) := Lib.hid (by unfold numsOr; rw [hcn]; rfl)
      have HK2 : Hid (listOkR s = false) := Lib.hid (by rw [HK.out, hcn]; rfl)
      have HV2 : Hid (listVals s = []) := Lib.hid (by rw [HV.out, hcn]; rfl)
      go_wp2_with fail
      refine (readNumbers_any _ W _ hWl HWs.out HT1.out HR.out).mono ?_
      rw [hcn, HE.out]
      rintro e w2 ⟨u, rfl, hu, hb2⟩
      go_wp2_with fail
      go_ret2
      exact ⟨_, by rw [HK2.out]; rfl, by rw [HV2.out]; exact OwI_nil _ _, below_trans' hbA (hb2.mono (Nat.le_refl _))⟩
    | true =>
      have HE : Hid (numsOr W = numsV W) := Lib.hid (by unfold numsOr; rw [if_pos hcn])
      go_wp2_with fail
      refine (readNumbers_any _ W _ hWl HWs.out HT1.out HR.out).mono ?_
      rw [hcn, HE.out]
      rintro e w2 ⟨u, rfl, hu, hb2⟩
      have hbl := below_trans' hbA hb2
      obtain ⟨au, cu, rfl⟩ := hu.rd.slice
      have HU := Lib.hid hu
      clear hu
      cases hf : fits (numsV W) with
      | false =>
        have HK2 : Hid (listOkR s = false) := Lib.hid (by rw [HK.out, hf]; simp)
        have HV2 : Hid (listVals s = []) := Lib.hid (by rw [HV.out, hf]; simp)
        go_wp2_with fail
        refine (listOk_any _ (numsV W) _ (by rw [numsV_length]; omega) HU.out.rd).mono ?_
        rw [hf]
        rintro e w' ⟨rfl, rfl⟩
        go_wp2_with fail
        go_ret2
        exact ⟨_, by rw [HK2.out]; rfl, by rw [HV2.out]; exact OwI_nil _ _, hbl⟩
      | true =>
        have HK2 : Hid (listOkR s = true) := Lib.hid (by rw [HK.out, hf, hcn]; rfl)
        have HV2 : Hid (listVals s = numsV W) := Lib.hid (by rw [HV.out, hf, hcn]; rfl)
        go_wp2_with fail
        refine (listOk_any _ (numsV W) _ (by rw [numsV_length]; omega) HU.out.rd).mono ?_
        rw [hf]
        rintro e w' ⟨rfl, rfl⟩
        go_wp2_with fail
        go_ret2
        exact ⟨_, by rw [HK2.out]; rfl, by rw [HV2.out]; exact OwI.mono' HU.out hsz, hbl⟩
theorem wide_next {y : Int} (ys zs : List Int) (h : zs = ys ++ [y]) (h0 : ys.all isWide = true) (hy : isWide y = true) : zs.all isWide = true := by
  rw [h, List.all_append, h0]
  simp [hy]
theorem fits_no_len {xs : List Int} (h : 64 < xs.length) : fits xs = false := by
  unfold fits
  rw [decide_eq_false (by omega)]; rfl
theorem fits_no_at {ws : List ByteArray} {k : Nat} (h : k < ws.length) (hc : canon (snth ws k).data.toList = true) (hy : isWide (rdN (snth ws k)) = false) : fits (numsV ws) = false := by
  unfold fits
  rw [show (numsV ws).all isWide = false from ?_, Bool.and_false]
  cases he : (numsV ws).all isWide with
  | false => rfl
  | true =>
    have hm : numV (snth ws k).data.toList ∈ numsV ws := List.mem_map.2 ⟨ws[k], List.getElem_mem h, by rw [snth_eq ws k h]⟩
    have := List.all_eq_true.1 he _ hm
    rw [← rd_yes hc, hy] at this
    cases this
set_option maxRecDepth 100000 in
set_option maxHeartbeats 1600000 in
theorem spec_ReadList_any (s : ByteArray) (w : World) (hs : s.size ≤ 1048576) :
    Calls Tryd.prog 30 #[.string s] w fun e w' => ∃ u, e = .returned (.tuple #[u, .bool (listOkR s)]) ∧ OwI w' w.heap.size u (listVals s) ∧ Below w.heap.size w w' := by
  obtain ⟨i0, hi, hz0, hz1, hz2⟩ := info_parts infoI64
  by_cases hd : s = ⟨#[45]⟩
  · subst hd
    have H1 : Hid (listOkR ⟨#[45]⟩ = true) := Lib.hid (by unfold listOkR; rw [if_pos rfl])
    have H2 : Hid (listVals ⟨#[45]⟩ = []) := Lib.hid (by unfold listVals; rw [if_pos rfl])
    have HN : Hid (OwI (w.alloc (.cells #[] 2)) w.heap.size (.slice (some ⟨w.heap.size, 0, none⟩) 0 0) []) := Lib.hid (ownsRow_owI (n := 0) (e := 2) (nil_owned _ _ (Nat.le_refl _)))
    have hbA : Below w.heap.size w (w.alloc (.cells #[] 2)) := (Below.refl _ _).alloc (Nat.le_refl _) _
    go_enter Tryd.func30, Tryd.ntmps30
    go_wp2_with fail
    go_ret2
    exact ⟨_, by rw [H1.out]; rfl, by rw [H2.out]; exact HN.out, hbA⟩
  · have hdb : (s.toList == ([45] : List UInt8)) = false := beq_lit s [45] hd
    have hdb2 : ¬ s.toList = [45] := by simpa using hdb
    obtain ⟨W, hW⟩ : ∃ W, W = wordsB 44 s := ⟨_, rfl⟩
    have HW := Lib.hid hW
    have hWl : W.length ≤ 1048577 := by rw [hW]; have := wordsB_length 44 s; omega
    have HWs : Hid (∀ k, k < W.length → (snth W k).size ≤ 1048576) := Lib.hid (by rw [hW]; intro k hk; have := snth_word hk; omega)
    have HK : Hid (listOkR s = (canons W && fits (numsV W))) := Lib.hid (by unfold listOkR listWords; rw [if_neg hd, hW])
    have HV : Hid (listVals s = if (canons W && fits (numsV W)) = true then numsV W else []) := Lib.hid (by unfold listVals; rw [if_neg hd, HK.out]; unfold listWords; rw [hW])
    clear hW hd
    go_enter Tryd.func30, Tryd.ntmps30
    go_wp2_with fail
    refine (l01Split_any s 44 44 _ rfl hs).mono ?_
    rw [← HW.out]
    rintro e w1 ⟨u, rfl, hu, hb1⟩
    have hu' := hu.rd
    clear hu
    obtain ⟨a, cap, rfl, hcap, hm, hv⟩ := hu'
    obtain ⟨n, hxn⟩ : ∃ n, n = W.length := ⟨_, rfl⟩
    rw [← hxn] at hcap hv hWl ⊢
    have Hxn := Lib.hid hxn; clear hxn
    by_cases h64 : 64 < n
    · have h64i : (64 : Int) < n := by omega
      have HF : Hid (fits (numsV W) = false) := Lib.hid (fits_no_len (by rw [numsV_length, ← Hxn.out]; exact h64))
      have HK2 : Hid (listOkR s = false) := Lib.hid (by rw [HK.out, HF.out]; simp)
      have HV2 : Hid (listVals s = []) := Lib.hid (by rw [HV.out, HF.out]; simp)
      go_wp2_with fail
      go_ret2
      exact ⟨_, by rw [HK2.out]; rfl, by rw [HV2.out]; exact OwI_nil _ _, hb1⟩
    have h64i : ¬ (64 : Int) < n := by omega
    go_wp2_with fail
    go_loopw [5, 6] (fun so si wr => ∃ k : Nat, k ≤ n ∧ si = .int .i64 k ∧ Hid (canons (W.take k) = true) ∧ Hid ((numsV (W.take k)).all isWide = true) ∧ Hid (wr.ownsRow w1.heap.size 2 1 so k ((numsV (W.take k)).map (Value.int .i64))) ∧ Below w1.heap.size w1 wr) (fun _ si _ => n - (intOf si).toNat)
    case atStart => exact ⟨0, Nat.zero_le _, rfl, Lib.hid rfl, Lib.hid rfl, Lib.hid (nil_owned _ _ (Nat.le_refl _)), (Below.refl _ _).alloc (Nat.le_refl _) _⟩
    case round =>
      obtain ⟨k, hk, rfl, HL, HA, HO, hbo⟩ := hrel
      have hbl := below_trans' hb1 hbo
      obtain ⟨a5, c5, rfl⟩ := owned_slice HO.out
      by_cases hlt : k < n
      · obtain ⟨b, o, rfl, hb, hc⟩ := hv (by omega)
        have hg : wr.cell? ⟨b, o + k, none⟩ = some (.string (snth W k)) := (hbo.cell (by exact hb)).trans (hc k (by omega))
        clear hc
        have hxs := HWs.out k (by rw [← Hxn.out]; exact hlt)
        obtain ⟨x, hx⟩ : ∃ x, x = snth W k := ⟨_, rfl⟩
        have Hx := Lib.hid hx
        rw [← hx] at hg hxs
        clear hx
        cases hp : canon x.data.toList with
        | true =>
          have HN2 : Hid (numsV (W.take (k + 1)) = numsV (W.take k) ++ [rdN x]) := Lib.hid (by rw [numsV_next (by rw [← Hxn.out]; exact hlt) (by rw [← Hx.out]; exact hp), Hx.out])
          obtain ⟨y, hy⟩ : ∃ y, y = rdN x := ⟨_, rfl⟩
          have Hy := Lib.hid hy
          cases hwd : isWide y with
          | true =>
            have hq : inR y (-1000000000000) 1000000000000 = true := hwd
            have HL2 := Lib.hid (canons_next (k := k) (by rw [← Hxn.out]; exact hlt) HL.out (by rw [← Hx.out]; exact hp))
            have HA2 : Hid ((numsV (W.take (k + 1))).all isWide = true) := Lib.hid (wide_next _ _ HN2.out HA.out (by rw [← Hy.out]; exact hwd))
            go_wp2_with fail
            refine (l01Number_any x _ (by omega)).mono ?_
            rw [hp, ← Hy.out]
            rintro e w' ⟨rfl, rfl⟩
            clear HL HA hp hy hwd
            go_wp2_with (first | (go_at_call 45; refine (l00In_any _ _ _ _).mono ?_; rintro e w' ⟨rfl, rfl⟩) | (at_builtin; refine wpList_append_own_at _ rfl _ _ 22 rfl w1.heap.size 2 i0 (.int .i64 0) 1 8 Tryd.underlying22 hi hz0 hz1 hz2 rfl (by decide) _ k _ rfl (HO.out.alloc _) ⟨wr.heap.size, 0, none⟩ 1 1 [.int .i64 y] rfl rfl (new_cell _ _ _ _ rfl) (by simp [Value.oneCell']) ?c2 ?c3 ?c4 ?_))
            case c2 => unfold maxLen; omega
            case c3 => omega
            case c4 => have := hbo.size; first | omega | (simp; omega)
            intro v' w2 hown' hgrow hnil hloc
            have hbo2 : Below w1.heap.size w1 w2 := (hbo.alloc hbo.size _).grown hgrow (by have := hbo.size; first | omega | (simp; omega)) (fun j hj => (HO.out.lt j hj).1)
            have HO2 : Hid (w2.ownsRow w1.heap.size 2 1 v' (k + 1) ((numsV (W.take (k + 1))).map (Value.int .i64))) := by
              refine Lib.hid ?_
              rw [HN2.out, List.map_append, ← Hy.out]
              exact hown'
            clear hown' hgrow hnil hloc HO hbl
            go_wp2_with fail
            go_roundw
            case rel => exact ⟨k + 1, by omega, by go_num, HL2, HA2, HO2, hbo2⟩
            case measure => simp [intOf]; omega
          | false =>
            have hq : inR y (-1000000000000) 1000000000000 = false := hwd
            have HF : Hid (fits (numsV W) = false) := Lib.hid (fits_no_at (k := k) (by rw [← Hxn.out]; exact hlt) (by rw [← Hx.out]; exact hp) (by rw [← Hx.out, ← Hy.out]; exact hwd))
            have HK2 : Hid (listOkR s = false) := Lib.hid (by rw [HK.out, HF.out]; simp)
            have HV2 : Hid (listVals s = []) := Lib.hid (by rw [HV.out, HF.out]; simp)
            go_wp2_with fail
            refine (l01Number_any x _ (by omega)).mono ?_
            rw [hp, ← Hy.out]
            rintro e w' ⟨rfl, rfl⟩
            clear hy hwd
            go_wp2_with (go_at_call 45; refine (l00In_any _ _ _ _).mono ?_; rintro e w' ⟨rfl, rfl⟩)
            go_ret2
            exact ⟨_, by rw [HK2.out]; rfl, by rw [HV2.out]; exact OwI_nil _ _, hbl⟩
        | false =>
          have HF := Lib.hid (canons_hit (k := k) (by rw [← Hxn.out]; exact hlt) (by rw [← Hx.out]; exact hp))
          have HK2 : Hid (listOkR s = false) := Lib.hid (by rw [HK.out, HF.out]; rfl)
          have HV2 : Hid (listVals s = []) := Lib.hid (by rw [HV.out, HF.out]; rfl)
          go_wp2_with fail
          refine (l01Number_any x _ (by omega)).mono ?_
          rw [hp]
          rintro e w' ⟨rfl, rfl⟩
          go_wp2_with fail
          go_ret2
          exact ⟨_, by rw [HK2.out]; rfl, by rw [HV2.out]; exact OwI_nil _ _, hbl⟩
      · obtain rfl : k = n := by omega
        have HT : Hid (W.take k = W) := Lib.hid (List.take_of_length_le (by rw [Hxn.out]; exact Nat.le_refl _))
        have HK2 : Hid ((canons W && fits (numsV W)) = true) := Lib.hid (by
          have h1 := HL.out
          have h2 := HA.out
          rw [HT.out] at h1 h2
          unfold fits
          rw [h1, h2, numsV_length, ← Hxn.out, decide_eq_true (show k ≤ 64 by omega)]; rfl)
        have HK3 : Hid (listOkR s = true) := Lib.hid (HK.out.trans HK2.out)
        have HV2 : Hid (listVals s = numsV (W.take k)) := Lib.hid (by rw [HV.out, if_pos HK2.out, HT.out])
        go_wp2_with fail
        go_ret2
        exact ⟨_, by rw [HK3.out]; rfl, by rw [HV2.out]; exact OwI.mono' (ownsRow_owI HO.out) hb1.size, hbl⟩
end Go.Proofs.YtefboecamhhagaaDoor
