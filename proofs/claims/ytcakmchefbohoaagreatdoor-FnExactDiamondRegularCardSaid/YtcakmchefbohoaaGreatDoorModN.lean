/- Contracts: a regular modality replaced, by the program and by the reference. -/
import Derived.Test.YtcakmchefbohoaaGreatDoorProg
import Derived.Test.YtcakmchefbohoaaGreatDoorMem
import Derived.Test.YtcakmchefbohoaaGreatDoorMath
import Derived.Test.YtcakmchefbohoaaGreatDoorBasics
import Derived.Test.YtcakmchefbohoaaGreatDoorOpenI
import Derived.Test.YtcakmchefbohoaaGreatDoorHelpI
import Derived.Test.YtcakmchefbohoaaGreatDoorGrid
import Derived.Test.YtcakmchefbohoaaGreatDoorLab
import Derived.Test.YtcakmchefbohoaaGreatDoorRLab
import Derived.Test.YtcakmchefbohoaaGreatDoorDec
import Derived.Test.YtcakmchefbohoaaGreatDoorEnv
import Derived.Test.YtcakmchefbohoaaGreatDoorNode
import Derived.Test.YtcakmchefbohoaaGreatDoorNodeW
import Derived.Test.YtcakmchefbohoaaGreatDoorReg
import Derived.Test.YtcakmchefbohoaaGreatDoorVReg
import Derived.Test.YtcakmchefbohoaaGreatDoorTreeR
import Derived.Test.YtcakmchefbohoaaGreatDoorConc
import Derived.Test.YtcakmchefbohoaaGreatDoorNds
import Derived.Test.YtcakmchefbohoaaGreatDoorInst
import Derived.Test.YtcakmchefbohoaaGreatDoorEmp
import Derived.Test.YtcakmchefbohoaaGreatDoorModP
import Derived.Test.YtcakmchefbohoaaGreatDoorModE
import Derived.Test.YtcakmchefbohoaaGreatDoorModJ
import Derived.Test.YtcakmchefbohoaaGreatDoorModB
import Derived.Test.YtcakmchefbohoaaGreatDoorVFor
import Derived.Test.YtcakmchefbohoaaGreatDoorFreq
import Derived.Test.YtcakmchefbohoaaGreatDoorModI
import Derived.Test.YtcakmchefbohoaaGreatDoorModK
import Derived.Test.YtcakmchefbohoaaGreatDoorModL
import Derived.Test.YtcakmchefbohoaaGreatDoorModM
import Derived.Test.YtcakmchefbohoaaGreatDoorModS
import Derived.Test.YtcakmchefbohoaaGreatDoorModW
import Derived.WalkKit
import Derived.BigQuiet
import Derived.BigRegion
import Derived.Deep.QuietTactic
import Derived.Deep.RegionHeld3
import Derived.Deep.RegionLaw
import Derived.Deep.AppendLies
import Derived.Maps.AppendAt
import Derived.Laws.OwnMore
import Derived.Lib.SliceRun
import Derived.Lib.Hide
import Derived.Outline
set_option linter.unusedVariables false
set_option linter.unusedSimpArgs false
namespace Go.Proofs.YtcakmchefbohoaaGreatDoor
open Go.RowKit

set_option maxRecDepth 100000 in
theorem of_aux (box : Bool) : ∀ (N : Nat) (x : Rg) (k : FRg), k.flat.length < N → FRg.ok (.cons x k .nil) → (∀ z ∈ x :: k.flat, inR z.kind 0 3 = true) → k.flat.length ≤ 10000 → OfA box x k := by
  intro N
  induction N with
  | zero => intro x k h; exact absurd h (by omega)
  | succ N ih =>
    intro x k hN hok hkd hlen
    have hx := inR_true (hkd x (List.mem_cons_self ..))
    have hc : x.kind = 0 ∨ x.kind = 1 ∨ x.kind = 2 ∨ x.kind = 3 := by omega
    have hr := hok.1
    refine of_any box x k ?_
    rcases hc with h | h | h | h
    · exact of_test box x k h
    all_goals first | rw [rarity_two (Or.inl h)] at hr | rw [rarity_two (Or.inr h)] at hr | rw [rarity_one h] at hr
    · obtain ⟨y1, k1, y2, k2, rfl⟩ := FRg.two_of (G := k) (by omega)
      have hf : (FRg.cons y1 k1 (.cons y2 k2 .nil)).flat = y1 :: (k1.flat ++ (y2 :: k2.flat)) := by simp [FRg.flat]
      have hl := congrArg List.length hf
      simp only [List.length_cons, List.length_append] at hl
      obtain ⟨o1, o2, o3⟩ := hok.2.1
      refine of_then box x y1 y2 k1 k2 h hlen (ih y1 k1 (by omega) ⟨o1, o2, trivial⟩ (fun z hz => hkd z ?_) (by omega)) (ih y2 k2 (by omega) ⟨o3.1, o3.2.1, trivial⟩ (fun z hz => hkd z ?_) (by omega))
      · rw [hf]; simp at hz ⊢; rcases hz with e | e
        · exact Or.inr (Or.inl e)
        · exact Or.inr (Or.inr (Or.inl e))
      · rw [hf]; simp at hz ⊢; rcases hz with e | e
        · exact Or.inr (Or.inr (Or.inr (Or.inl e)))
        · exact Or.inr (Or.inr (Or.inr (Or.inr e)))
    · obtain ⟨y1, k1, y2, k2, rfl⟩ := FRg.two_of (G := k) (by omega)
      have hf : (FRg.cons y1 k1 (.cons y2 k2 .nil)).flat = y1 :: (k1.flat ++ (y2 :: k2.flat)) := by simp [FRg.flat]
      have hl := congrArg List.length hf
      simp only [List.length_cons, List.length_append] at hl
      obtain ⟨o1, o2, o3⟩ := hok.2.1
      refine of_either box x y1 y2 k1 k2 h hlen (ih y1 k1 (by omega) ⟨o1, o2, trivial⟩ (fun z hz => hkd z ?_) (by omega)) (ih y2 k2 (by omega) ⟨o3.1, o3.2.1, trivial⟩ (fun z hz => hkd z ?_) (by omega))
      · rw [hf]; simp at hz ⊢; rcases hz with e | e
        · exact Or.inr (Or.inl e)
        · exact Or.inr (Or.inr (Or.inl e))
      · rw [hf]; simp at hz ⊢; rcases hz with e | e
        · exact Or.inr (Or.inr (Or.inr (Or.inl e)))
        · exact Or.inr (Or.inr (Or.inr (Or.inr e)))
    · obtain ⟨y1, k1, rfl⟩ := FRg.one_of (G := k) (by omega)
      have hf : (FRg.cons y1 k1 .nil).flat = y1 :: k1.flat := by simp [FRg.flat]
      have hl := congrArg List.length hf
      simp only [List.length_cons] at hl
      obtain ⟨o1, o2, o3⟩ := hok.2.1
      refine of_star box x y1 k1 h hlen (ih y1 k1 (by omega) ⟨o1, o2, trivial⟩ (fun z hz => hkd z ?_) (by omega))
      rw [hf]; exact List.mem_cons_of_mem _ hz
/-- What the modality's replacement is; its code. -/
def modRes (box : Bool) (r : List Rg) (f : List Nd) : Option (List Nd) := (((FRg.fold (opMI box) (FRg.build r)).getD 0 mNone) f 0).bind gate
def modC (box : Bool) (r : List Rg) (f : List Nd) : Int := if (validR r && validF f) = true then (if (modRes box r f).isSome = true then 0 else 5) else 1
def modO (box : Bool) (r : List Rg) (f : List Nd) : List Nd := if (validR r && validF f) = true then (modRes box r f).getD [] else []
theorem modRes_len {box : Bool} {r : List Rg} {f y : List Nd} (h : modRes box r f = some y) : y.length ≤ 30 := by
  unfold modRes at h
  cases h1 : ((FRg.fold (opMI box) (FRg.build r)).getD 0 mNone) f 0 with
  | none => rw [h1] at h; cases h
  | some z =>
    rw [h1] at h
    obtain ⟨rfl, hl⟩ := gate_some h
    exact hl
theorem modO_len (box : Bool) (r : List Rg) (f : List Nd) : (modO box r f).length ≤ 30 := by
  unfold modO
  split
  · cases h : modRes box r f with
    | none => simp
    | some y => exact modRes_len h
  · simp
theorem mod_bad {box : Bool} {r : List Rg} {f : List Nd} (h : (validR r && validF f) = false) : modC box r f = 1 ∧ modO box r f = [] := by
  unfold modC modO
  rw [h]
  exact ⟨rfl, rfl⟩
theorem mod_none {box : Bool} {r : List Rg} {f : List Nd} (h : (validR r && validF f) = true) (hr : modRes box r f = none) : modC box r f = 5 ∧ modO box r f = [] := by
  unfold modC modO
  rw [h, hr]
  exact ⟨rfl, rfl⟩
theorem mod_some {box : Bool} {r : List Rg} {f y : List Nd} (h : (validR r && validF f) = true) (hr : modRes box r f = some y) : modC box r f = 0 ∧ modO box r f = y := by
  unfold modC modO
  rw [h, hr]
  exact ⟨rfl, rfl⟩
theorem modRes_at {box : Bool} {r : List Rg} {f : List Nd} {x : Rg} {kids : FRg} (hB : FRg.build r = .cons x kids .nil) : modRes box r f = (opMI box x (FRg.fold (opMI box) kids) f 0).bind gate := by
  unfold modRes; rw [hB]; rfl
/-- The reference's answer is the program's. -/
theorem modRes_ref {box : Bool} {r : List Rg} {f : List Nd} {x : Rg} {kids : FRg} (hB : FRg.build r = .cons x kids .nil) (hf : f.length ≤ 30) : opMS box x (FRg.fold (opMS box) kids) f 0 = modRes box r f := by
  have h := (agree_fold box (.cons x kids .nil) 0).2.2 f 0 hf
  rw [modRes_at hB]
  exact h
theorem rd_lt {w : World} {v : Value} {f : List Nd} (h : RdNd w v f) : NdK w (fun c => c < w.heap.size) v f := by
  obtain ⟨a, cap, rfl, h1, h2, h3⟩ := h
  refine ⟨a, cap, rfl, h1, h2, fun h0 => ?_⟩
  obtain ⟨b, o, rfl, hb, hc⟩ := h3 h0
  exact ⟨b, o, rfl, hb, hb, hc⟩
theorem valid_kinds {r : List Rg} (h : validR r = true) : ∀ z ∈ r, inR z.kind 0 3 = true := by
  intro z hz
  obtain ⟨i, hi, rfl⟩ := List.getElem_of_mem hz
  rw [← rgnth_eq r i hi]
  exact validR_kind h i hi
theorem valid_len {r : List Rg} (h : validR r = true) : r.length ≤ 20 := by
  unfold validR at h
  simp only [Bool.and_eq_true, decide_eq_true_eq] at h
  exact h.2
theorem validF_pos {f : List Nd} (h : validF f = true) : 0 < f.length := by
  unfold validF at h
  simp only [Bool.and_eq_true] at h
  have := inR_true h.1.1
  omega
set_option maxRecDepth 100000 in
set_option maxHeartbeats 1600000 in
theorem replace_any (v vf : Value) (r : List Rg) (f : List Nd) (box : Bool) (w : World) (hn : r.length ≤ 1048576) (hls : ∀ i, i < r.length → (rgnth r i).lab.size ≤ 1048576) (hnf : f.length ≤ 1048576) (hlsf : ∀ i, i < f.length → (ndnth f i).lab.size ≤ 1048576) (hT : Env w) (hv : RdRg w v r) (hvf : RdNd w vf f) :
    Calls Tryz.prog 41 #[v, vf, .bool box] w fun e w' => ∃ u, e = .returned (.tuple #[u, .int .i64 (modC box r f)]) ∧ OwNd w' w.heap.size u (modO box r f) ∧ Below w.heap.size w w' := by
  have HV := Lib.hid hv
  have HVF := Lib.hid hvf
  obtain ⟨a, cap, rfl⟩ := hv.slice
  obtain ⟨af, cf, rfl⟩ := hvf.slice
  clear hv hvf
  obtain ⟨C, hC⟩ : ∃ C, C = modC box r f := ⟨_, rfl⟩
  obtain ⟨O, hO⟩ : ∃ O, O = modO box r f := ⟨_, rfl⟩
  rw [← hC, ← hO]
  cases hvr : validR r with
  | false =>
    have hb := mod_bad (box := box) (r := r) (f := f) (by rw [hvr]; rfl)
    obtain rfl : C = 1 := hC.trans hb.1
    obtain rfl : O = [] := hO.trans hb.2
    clear hC hO hb
    go_enter Tryz.func41, Tryz.ntmps41
    go_wp2_with fail
    refine (ValidRegular_any _ r _ hn hls hT HV.out).mono ?_
    rw [hvr]
    rintro e w1 ⟨rfl, hb1⟩
    go_wp2_with fail
    go_ret2
    exact ⟨_, rfl, ownil _ _, hb1⟩
  | true =>
  cases hvF : validF f with
  | false =>
    have hb := mod_bad (box := box) (r := r) (f := f) (by rw [hvr, hvF]; rfl)
    obtain rfl : C = 1 := hC.trans hb.1
    obtain rfl : O = [] := hO.trans hb.2
    clear hC hO hb
    go_enter Tryz.func41, Tryz.ntmps41
    go_wp2_with fail
    refine (ValidRegular_any _ r _ hn hls hT HV.out).mono ?_
    rw [hvr]
    rintro e w1 ⟨rfl, hb1⟩
    go_wp2_with fail
    refine (ValidFormula_any _ f _ hnf hlsf (hT.below hb1) (HVF.out.below hb1)).mono ?_
    rw [hvF]
    rintro e w2 ⟨rfl, hb2⟩
    go_wp2_with fail
    go_ret2
    exact ⟨_, rfl, ownil _ _, below_trans' hb1 hb2⟩
  | true =>
    have hvv : (validR r && validF f) = true := by rw [hvr, hvF]; rfl
    obtain ⟨hs1, hs2⟩ := validR_shape hvr
    obtain ⟨x, kids, hB, hok, hf⟩ := FRg.one hs1 hs2
    have hl20 := valid_len hvr
    have hf30 := validF_len hvF
    have hfp := validF_pos hvF
    have hkl : kids.flat.length ≤ 10000 := by have := congrArg List.length hf; simp only [List.length_cons] at this; omega
    have HOf : Hid (OfA box x kids) := Lib.hid (of_aux box (kids.flat.length + 1) x kids (Nat.lt_succ_self _) hok (by rw [← hf]; exact valid_kinds hvr) hkl)
    obtain ⟨R0, hR0⟩ : ∃ R, R = opMI box x (FRg.fold (opMI box) kids) f 0 := ⟨_, rfl⟩
    have HR0 := Lib.hid hR0
    have HRes : Hid (modRes box r f = R0.bind gate) := Lib.hid (by rw [modRes_at hB, hR0])
    have Hok := Lib.hid hok
    have Hf := Lib.hid hf
    have HC := Lib.hid hC
    have HO := Lib.hid hO
    obtain ⟨L, hL⟩ : ∃ L, L = r.length := ⟨_, rfl⟩
    obtain ⟨Lf, hLf⟩ : ∃ L, L = f.length := ⟨_, rfl⟩
    rw [← hL] at HV ⊢
    rw [← hLf] at HVF ⊢
    clear hs1 hs2 hB hok hf hR0 hC hO hL hLf
    go_enter Tryz.func41, Tryz.ntmps41
    go_wp2_with fail
    refine (ValidRegular_any _ r _ hn hls hT HV.out).mono ?_
    rw [hvr]
    rintro e w1 ⟨rfl, hb1⟩
    go_wp2_with fail
    refine (ValidFormula_any _ f _ hnf hlsf (hT.below hb1) (HVF.out.below hb1)).mono ?_
    rw [hvF]
    rintro e w2 ⟨rfl, hb2⟩
    have hbl2 := below_trans' hb1 hb2
    go_wp2_with fail
    have hA := alc w2 (.cells #[.bool box, .slice none 0 0, .bool false] 107)
    have hsA : (w2.alloc (.cells #[.bool box, .slice none 0 0, .bool false] 107)).heap.size = w2.heap.size + 1 := by simp
    have hbA := below_trans' hbl2 hA
    refine (regularOf_any x kids _ _ Hok.out (by rw [← Hf.out]; exact hn) (by rw [← Hf.out]; exact HV.out.below hbA)).mono ?_
    rintro e w3 ⟨b, rfl, hF, hb3⟩
    have hbl3 := below_trans' hbA hb3
    have hs3 := hb3.size
    rw [hsA] at hs3
    have hcell : ∀ j v, (#[.bool box, .slice none 0 0, .bool false] : Array Value)[j]? = some v → w3.cell? ⟨w2.heap.size, j, none⟩ = some v := fun j v hj => by
      rw [hb3.cell (p := ⟨w2.heap.size, j, none⟩) (by rw [hsA]; exact Nat.lt_succ_self _), cell_of_row _ _ _ _ _ _ (heap_alloc_new w2 _)]
      exact hj
    have hfrz : ∀ j, w3.frozen? ⟨w2.heap.size, j, none⟩ = false := fun j => by
      rw [hb3.frozen (p := ⟨w2.heap.size, j, none⟩) (by rw [hsA]; exact Nat.lt_succ_self _)]
      exact frozen_of_row _ _ _ _ _ (heap_alloc_new w2 _)
    have HR3 : Rp w3 w2.heap.size box (.slice none 0 0) 0 false := ⟨by omega, hcell 0 _ rfl, hcell 1 _ rfl, hcell 2 _ rfl, hfrz 1, hfrz 2, World.ownsRow_nil _ _ _ _⟩
    have HF3 : FAtRg w3 (KX w2.heap.size (.slice none 0 0)) (.cons x kids .nil) [.pointer (some ⟨b, 0, none⟩)] := hF.mono (Nat.le_refl _) fun c hc _ => ⟨rfl, by have : w2.heap.size + 1 ≤ c := hsA ▸ hc; omega, by simp [Value.ownBlock]⟩
    have HN3 : NdK w3 (KX w2.heap.size (.slice none 0 0)) (.slice af Lf cf) f := (rd_lt HVF.out).mono hbl3.size fun c hc _ => ⟨hbl3.block c hc, by have := hbl2.size; omega, by simp [Value.ownBlock]⟩
    clear hF hcell hfrz
    go_wp2_with fail
    refine (HOf.out b w2.heap.size 0 _ _ f false _ HF3 HN3 (fun _ => hfp) hnf (by decide) HR3).mono ?_
    rw [if_neg Bool.false_ne_true, ← HR0.out]
    rintro e w4 ⟨u, uv, l, rfl, hN4, hW4, hl4, hy4, hR4, hE4, hg4⟩
    have hb4 : Below w.heap.size w w4 := hbl3.trans (hE4.below hbl3.size fun k hk => ⟨by have := hbl2.size; omega, by simp [Value.ownBlock]⟩)
    obtain ⟨au, cu, rfl⟩ := hN4.rd.slice
    have c2 := hR4.c2
    have HW : Hid (OwNd w4 w.heap.size (.slice au l.length cu) l) := Lib.hid (Ow.mono hW4 hbl3.size)
    clear HF3 HN3 HR3 hN4 hW4 hR4 hE4 hg4 hA hsA hbA
    cases R0 with
    | none =>
      have hb := mod_none hvv (HRes.out : modRes box r f = none)
      obtain rfl : C = 5 := HC.out.trans hb.1
      obtain rfl : O = [] := HO.out.trans hb.2
      clear HC HO hb hy4
      go_wp2_with fail
      go_ret2
      exact ⟨_, rfl, ownil _ _, hb4⟩
    | some y =>
      have e := hy4 y rfl
      subst e
      clear hy4
      obtain ⟨M, hM⟩ : ∃ M, M = l.length := ⟨_, rfl⟩
      by_cases h30 : 30 < M
      · have hb := mod_none hvv ((HRes.out : modRes box r f = gate l).trans (gate_long (by omega)))
        obtain rfl : C = 5 := HC.out.trans hb.1
        obtain rfl : O = [] := HO.out.trans hb.2
        have h30b : decide ((30 : Int) < (M : Int)) = true := decide_eq_true (by omega)
        rw [← hM] at HW ⊢
        clear HC HO hb hM HW
        go_wp2_with fail
        go_ret2
        exact ⟨_, rfl, ownil _ _, hb4⟩
      · have hb := mod_some hvv ((HRes.out : modRes box r f = gate l).trans (gate_ok (by omega)))
        obtain rfl : C = 0 := HC.out.trans hb.1
        obtain rfl : O = l := HO.out.trans hb.2
        have h30b : decide ((30 : Int) < (M : Int)) = false := decide_eq_false (by omega)
        rw [← hM] at HW ⊢
        clear HC HO hb hM HRes HR0
        go_wp2_with fail
        go_ret2
        exact ⟨_, rfl, HW.out, hb4⟩
set_option maxRecDepth 100000 in
set_option maxHeartbeats 1600000 in
theorem BoxRegular_any (v vf : Value) (r : List Rg) (f : List Nd) (w : World) (hn : r.length ≤ 1048576) (hls : ∀ i, i < r.length → (rgnth r i).lab.size ≤ 1048576) (hnf : f.length ≤ 1048576) (hlsf : ∀ i, i < f.length → (ndnth f i).lab.size ≤ 1048576) (hT : Env w) (hv : RdRg w v r) (hvf : RdNd w vf f) :
    Calls Tryz.prog 13 #[v, vf] w fun e w' => ∃ u, e = .returned (.tuple #[u, .int .i64 (modC true r f)]) ∧ OwNd w' w.heap.size u (modO true r f) ∧ Below w.heap.size w w' := by
  have HV := Lib.hid hv
  have HVF := Lib.hid hvf
  obtain ⟨a, cap, rfl⟩ := hv.slice
  obtain ⟨af, cf, rfl⟩ := hvf.slice
  clear hv hvf
  go_enter Tryz.func13, Tryz.ntmps13
  go_wp2_with fail
  refine (replace_any _ _ r f true _ hn hls hnf hlsf hT HV.out HVF.out).mono ?_
  rintro e w1 ⟨u, rfl, hO, hb⟩
  have HO := Lib.hid hO
  clear hO
  go_wp2_with fail
  go_ret2
  exact ⟨_, rfl, HO.out, hb⟩
set_option maxRecDepth 100000 in
set_option maxHeartbeats 1600000 in
theorem spec_BoxRegular_any (v vf : Value) (r : List Rg) (f : List Nd) (w : World) (hn : r.length ≤ 1048576) (hls : ∀ i, i < r.length → (rgnth r i).lab.size ≤ 1048576) (hnf : f.length ≤ 1048576) (hlsf : ∀ i, i < f.length → (ndnth f i).lab.size ≤ 1048576) (hv : RdRg w v r) (hvf : RdNd w vf f) :
    Calls Tryz.prog 10 #[v, vf] w fun e w' => ∃ u, e = .returned (.tuple #[u, .int .i64 (modC true r f)]) ∧ OwNd w' w.heap.size u (modO true r f) ∧ Below w.heap.size w w' := by
  have HV := Lib.hid hv
  have HVF := Lib.hid hvf
  obtain ⟨a, cap, rfl⟩ := hv.slice
  obtain ⟨af, cf, rfl⟩ := hvf.slice
  clear hv hvf
  obtain ⟨C, hC⟩ : ∃ C, C = modC true r f := ⟨_, rfl⟩
  obtain ⟨O, hO⟩ : ∃ O, O = modO true r f := ⟨_, rfl⟩
  rw [← hC, ← hO]
  cases hvr : validR r with
  | false =>
    have hb := mod_bad (box := true) (r := r) (f := f) (by rw [hvr]; rfl)
    obtain rfl : C = 1 := hC.trans hb.1
    obtain rfl : O = [] := hO.trans hb.2
    clear hC hO hb
    go_enter Tryz.func10, Tryz.ntmps10
    go_wp2_with fail
    refine (l20Is_any _ r _ hn hls HV.out).mono ?_
    rw [hvr]
    rintro e w1 ⟨rfl, hb1⟩
    go_wp2_with fail
    go_ret2
    exact ⟨_, rfl, ownil _ _, hb1⟩
  | true =>
  cases hvF : validF f with
  | false =>
    have hb := mod_bad (box := true) (r := r) (f := f) (by rw [hvr, hvF]; rfl)
    obtain rfl : C = 1 := hC.trans hb.1
    obtain rfl : O = [] := hO.trans hb.2
    clear hC hO hb
    go_enter Tryz.func10, Tryz.ntmps10
    go_wp2_with fail
    refine (l20Is_any _ r _ hn hls HV.out).mono ?_
    rw [hvr]
    rintro e w1 ⟨rfl, hb1⟩
    go_wp2_with fail
    refine (l19Is_any _ f _ hnf hlsf (HVF.out.below hb1)).mono ?_
    rw [hvF]
    rintro e w2 ⟨rfl, hb2⟩
    go_wp2_with fail
    go_ret2
    exact ⟨_, rfl, ownil _ _, below_trans' hb1 hb2⟩
  | true =>
    have hvv : (validR r && validF f) = true := by rw [hvr, hvF]; rfl
    obtain ⟨hs1, hs2⟩ := validR_shape hvr
    obtain ⟨x, kids, hB, hok, hf⟩ := FRg.one hs1 hs2
    have hf30 := validF_len hvF
    have HMo : Hid (Mod1 true x kids) := Lib.hid (l20Modal_aux true (kids.flat.length + 1) x kids (Nat.lt_succ_self _) hok (by rw [← hf]; exact valid_kinds hvr) (by rw [← hf]; exact hn))
    have HRes : Hid (opMS true x (FRg.fold (opMS true) kids) f 0 = modRes true r f) := Lib.hid (modRes_ref hB hf30)
    have Hf := Lib.hid hf
    obtain ⟨R, hR⟩ : ∃ R, R = modRes true r f := ⟨_, rfl⟩
    have HR := Lib.hid hR
    have HC := Lib.hid hC
    have HO := Lib.hid hO
    clear hs1 hs2 hB hok hf hR hC hO
    go_enter Tryz.func10, Tryz.ntmps10
    go_wp2_with fail
    refine (l20Is_any _ r _ hn hls HV.out).mono ?_
    rw [hvr]
    rintro e w1 ⟨rfl, hb1⟩
    go_wp2_with fail
    refine (l19Is_any _ f _ hnf hlsf (HVF.out.below hb1)).mono ?_
    rw [hvF]
    rintro e w2 ⟨rfl, hb2⟩
    have hbl2 := below_trans' hb1 hb2
    go_wp2_with fail
    refine (HMo.out _ _ _ f 0 _ (by rw [← Hf.out]; exact HV.out.below hbl2) (HVF.out.below hbl2) (OwI_nil _ w2.heap.size).rd hf30 (by decide)).mono ?_
    rw [HRes.out, ← HR.out]
    rintro e w3 ⟨u, rfl, hO3, hb3⟩
    have hbl3 := below_trans' hbl2 hb3
    have HO3 := Lib.hid hO3
    clear hO3
    cases R with
    | none =>
      have hb := mod_none hvv HR.out.symm
      obtain rfl : C = 5 := HC.out.trans hb.1
      obtain rfl : O = [] := HO.out.trans hb.2
      clear HC HO hb HO3
      go_wp2_with fail
      go_ret2
      exact ⟨_, rfl, ownil _ _, hbl3⟩
    | some y =>
      have hb := mod_some hvv HR.out.symm
      obtain rfl : C = 0 := HC.out.trans hb.1
      obtain rfl : O = y := HO.out.trans hb.2
      have HW : Hid (OwNd w3 w.heap.size u O) := Lib.hid (Ow.mono (HO3.out O rfl) hbl2.size)
      clear HC HO hb HO3
      obtain ⟨au, cu, rfl⟩ := (OwNd.rd HW.out).slice
      go_wp2_with fail
      go_ret2
      exact ⟨_, rfl, HW.out, hbl3⟩
set_option maxRecDepth 100000 in
set_option maxHeartbeats 1600000 in
theorem DiamondRegular_any (v vf : Value) (r : List Rg) (f : List Nd) (w : World) (hn : r.length ≤ 1048576) (hls : ∀ i, i < r.length → (rgnth r i).lab.size ≤ 1048576) (hnf : f.length ≤ 1048576) (hlsf : ∀ i, i < f.length → (ndnth f i).lab.size ≤ 1048576) (hT : Env w) (hv : RdRg w v r) (hvf : RdNd w vf f) :
    Calls Tryz.prog 20 #[v, vf] w fun e w' => ∃ u, e = .returned (.tuple #[u, .int .i64 (modC false r f)]) ∧ OwNd w' w.heap.size u (modO false r f) ∧ Below w.heap.size w w' := by
  have HV := Lib.hid hv
  have HVF := Lib.hid hvf
  obtain ⟨a, cap, rfl⟩ := hv.slice
  obtain ⟨af, cf, rfl⟩ := hvf.slice
  clear hv hvf
  go_enter Tryz.func20, Tryz.ntmps20
  go_wp2_with fail
  refine (replace_any _ _ r f false _ hn hls hnf hlsf hT HV.out HVF.out).mono ?_
  rintro e w1 ⟨u, rfl, hO, hb⟩
  have HO := Lib.hid hO
  clear hO
  go_wp2_with fail
  go_ret2
  exact ⟨_, rfl, HO.out, hb⟩
set_option maxRecDepth 100000 in
set_option maxHeartbeats 1600000 in
theorem spec_DiamondRegular_any (v vf : Value) (r : List Rg) (f : List Nd) (w : World) (hn : r.length ≤ 1048576) (hls : ∀ i, i < r.length → (rgnth r i).lab.size ≤ 1048576) (hnf : f.length ≤ 1048576) (hlsf : ∀ i, i < f.length → (ndnth f i).lab.size ≤ 1048576) (hv : RdRg w v r) (hvf : RdNd w vf f) :
    Calls Tryz.prog 19 #[v, vf] w fun e w' => ∃ u, e = .returned (.tuple #[u, .int .i64 (modC false r f)]) ∧ OwNd w' w.heap.size u (modO false r f) ∧ Below w.heap.size w w' := by
  have HV := Lib.hid hv
  have HVF := Lib.hid hvf
  obtain ⟨a, cap, rfl⟩ := hv.slice
  obtain ⟨af, cf, rfl⟩ := hvf.slice
  clear hv hvf
  obtain ⟨C, hC⟩ : ∃ C, C = modC false r f := ⟨_, rfl⟩
  obtain ⟨O, hO⟩ : ∃ O, O = modO false r f := ⟨_, rfl⟩
  rw [← hC, ← hO]
  cases hvr : validR r with
  | false =>
    have hb := mod_bad (box := false) (r := r) (f := f) (by rw [hvr]; rfl)
    obtain rfl : C = 1 := hC.trans hb.1
    obtain rfl : O = [] := hO.trans hb.2
    clear hC hO hb
    go_enter Tryz.func19, Tryz.ntmps19
    go_wp2_with fail
    refine (l20Is_any _ r _ hn hls HV.out).mono ?_
    rw [hvr]
    rintro e w1 ⟨rfl, hb1⟩
    go_wp2_with fail
    go_ret2
    exact ⟨_, rfl, ownil _ _, hb1⟩
  | true =>
  cases hvF : validF f with
  | false =>
    have hb := mod_bad (box := false) (r := r) (f := f) (by rw [hvr, hvF]; rfl)
    obtain rfl : C = 1 := hC.trans hb.1
    obtain rfl : O = [] := hO.trans hb.2
    clear hC hO hb
    go_enter Tryz.func19, Tryz.ntmps19
    go_wp2_with fail
    refine (l20Is_any _ r _ hn hls HV.out).mono ?_
    rw [hvr]
    rintro e w1 ⟨rfl, hb1⟩
    go_wp2_with fail
    refine (l19Is_any _ f _ hnf hlsf (HVF.out.below hb1)).mono ?_
    rw [hvF]
    rintro e w2 ⟨rfl, hb2⟩
    go_wp2_with fail
    go_ret2
    exact ⟨_, rfl, ownil _ _, below_trans' hb1 hb2⟩
  | true =>
    have hvv : (validR r && validF f) = true := by rw [hvr, hvF]; rfl
    obtain ⟨hs1, hs2⟩ := validR_shape hvr
    obtain ⟨x, kids, hB, hok, hf⟩ := FRg.one hs1 hs2
    have hf30 := validF_len hvF
    have HMo : Hid (Mod1 false x kids) := Lib.hid (l20Modal_aux false (kids.flat.length + 1) x kids (Nat.lt_succ_self _) hok (by rw [← hf]; exact valid_kinds hvr) (by rw [← hf]; exact hn))
    have HRes : Hid (opMS false x (FRg.fold (opMS false) kids) f 0 = modRes false r f) := Lib.hid (modRes_ref hB hf30)
    have Hf := Lib.hid hf
    obtain ⟨R, hR⟩ : ∃ R, R = modRes false r f := ⟨_, rfl⟩
    have HR := Lib.hid hR
    have HC := Lib.hid hC
    have HO := Lib.hid hO
    clear hs1 hs2 hB hok hf hR hC hO
    go_enter Tryz.func19, Tryz.ntmps19
    go_wp2_with fail
    refine (l20Is_any _ r _ hn hls HV.out).mono ?_
    rw [hvr]
    rintro e w1 ⟨rfl, hb1⟩
    go_wp2_with fail
    refine (l19Is_any _ f _ hnf hlsf (HVF.out.below hb1)).mono ?_
    rw [hvF]
    rintro e w2 ⟨rfl, hb2⟩
    have hbl2 := below_trans' hb1 hb2
    go_wp2_with fail
    refine (HMo.out _ _ _ f 0 _ (by rw [← Hf.out]; exact HV.out.below hbl2) (HVF.out.below hbl2) (OwI_nil _ w2.heap.size).rd hf30 (by decide)).mono ?_
    rw [HRes.out, ← HR.out]
    rintro e w3 ⟨u, rfl, hO3, hb3⟩
    have hbl3 := below_trans' hbl2 hb3
    have HO3 := Lib.hid hO3
    clear hO3
    cases R with
    | none =>
      have hb := mod_none hvv HR.out.symm
      obtain rfl : C = 5 := HC.out.trans hb.1
      obtain rfl : O = [] := HO.out.trans hb.2
      clear HC HO hb HO3
      go_wp2_with fail
      go_ret2
      exact ⟨_, rfl, ownil _ _, hbl3⟩
    | some y =>
      have hb := mod_some hvv HR.out.symm
      obtain rfl : C = 0 := HC.out.trans hb.1
      obtain rfl : O = y := HO.out.trans hb.2
      have HW : Hid (OwNd w3 w.heap.size u O) := Lib.hid (Ow.mono (HO3.out O rfl) hbl2.size)
      clear HC HO hb HO3
      obtain ⟨au, cu, rfl⟩ := (OwNd.rd HW.out).slice
      go_wp2_with fail
      go_ret2
      exact ⟨_, rfl, HW.out, hbl3⟩
end Go.Proofs.YtcakmchefbohoaaGreatDoor
