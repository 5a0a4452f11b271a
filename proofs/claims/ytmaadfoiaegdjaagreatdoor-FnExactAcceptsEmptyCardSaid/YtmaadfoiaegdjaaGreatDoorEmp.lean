/- Contracts: whether the empty list is matched, of the program and of the reference. -/
import Derived.Test.YtmaadfoiaegdjaaGreatDoorProg
import Derived.Test.YtmaadfoiaegdjaaGreatDoorMem
import Derived.Test.YtmaadfoiaegdjaaGreatDoorMath
import Derived.Test.YtmaadfoiaegdjaaGreatDoorBasics
import Derived.Test.YtmaadfoiaegdjaaGreatDoorOpenI
import Derived.Test.YtmaadfoiaegdjaaGreatDoorHelpI
import Derived.Test.YtmaadfoiaegdjaaGreatDoorGrid
import Derived.Test.YtmaadfoiaegdjaaGreatDoorLab
import Derived.Test.YtmaadfoiaegdjaaGreatDoorDec
import Derived.Test.YtmaadfoiaegdjaaGreatDoorEnv
import Derived.Test.YtmaadfoiaegdjaaGreatDoorRLab
import Derived.Test.YtmaadfoiaegdjaaGreatDoorReg
import Derived.Test.YtmaadfoiaegdjaaGreatDoorRegW
import Derived.Test.YtmaadfoiaegdjaaGreatDoorVReg
import Derived.Test.YtmaadfoiaegdjaaGreatDoorTreeR
import Derived.WalkKit
import Derived.BigQuiet
import Derived.BigRegion
import Derived.Deep.QuietTactic
import Derived.Maps.AppendAt
import Derived.Laws.OwnMore
import Derived.Lib.SliceRun
import Derived.Lib.Hide
import Derived.Outline
set_option linter.unusedVariables false
set_option linter.unusedSimpArgs false
namespace Go.Proofs.YtmaadfoiaegdjaaGreatDoor
open Go.RowKit

def opE (x : Rg) (l : List Bool) : Bool := if x.kind = 1 then l.getD 0 false && l.getD 1 false else if x.kind = 2 then l.getD 0 false || l.getD 1 false else decide (x.kind = 3)
theorem isR_any (b : Nat) (k : Int) (kd : Int) (w : World) (hb : w.cell? ⟨b, 0, none⟩ = some (.int .i64 kd)) :
    Calls Tryz.prog 108 #[.pointer (some ⟨b, 0, none⟩), .int .i64 k] w fun e w' => e = .returned (.bool (decide (kd = k))) ∧ w = w' := by
  go_enter Tryz.func108, Tryz.ntmps108
  go_wp2_with fail
  go_ret
  exact ⟨rfl, rfl⟩
theorem FAtRg.head {w : World} {K : Nat → Prop} {y : Rg} {kk nx : FRg} {p : Value} {ps : List Value} (h : FAtRg w K (.cons y kk nx) (p :: ps)) : FAtRg w K (.cons y kk .nil) [p] ∧ FAtRg w K nx ps ∧ ∃ b, p = .pointer (some ⟨b, 0, none⟩) := by
  obtain ⟨b', qs, v, ps', e, h1, h2, h3, h4, h5, h8, h9⟩ := h
  cases e
  exact ⟨⟨b', qs, v, [], rfl, h1, h2, h3, h4, h5, h8, rfl⟩, h9, b', rfl⟩
theorem FAtRg.cons_ps {w : World} {K : Nat → Prop} {y : Rg} {kk nx : FRg} {ps : List Value} (h : FAtRg w K (.cons y kk nx) ps) : ∃ p ps', ps = p :: ps' := by
  obtain ⟨b', qs, v, ps', e, _⟩ := h
  exact ⟨_, _, e⟩
theorem FRg.one_of {G : FRg} (h : G.len = 1) : ∃ y kk, G = .cons y kk .nil := by
  cases G with
  | nil => simp [FRg.len] at h
  | cons y kk nx =>
    cases nx with
    | nil => exact ⟨y, kk, rfl⟩
    | cons _ _ _ => simp [FRg.len] at h
theorem FRg.two_of {G : FRg} (h : G.len = 2) : ∃ y kk z k2, G = .cons y kk (.cons z k2 .nil) := by
  cases G with
  | nil => simp [FRg.len] at h
  | cons y kk nx =>
    obtain ⟨z, k2, rfl⟩ := FRg.one_of (G := nx) (by simp [FRg.len] at h; omega)
    exact ⟨y, kk, z, k2, rfl⟩
theorem rarity_two {k : Int} (h : k = 1 ∨ k = 2) : rarity k = 2 := by unfold rarity; rw [if_pos h]
theorem rarity_one {k : Int} (h : k = 3) : rarity k = 1 := by subst h; rfl
set_option maxRecDepth 100000 in
set_option maxHeartbeats 2000000 in
theorem empty_aux : ∀ (N : Nat) (x : Rg) (kids : FRg), kids.flat.length < N → ∀ (b : Nat) (w : World) (K : Nat → Prop), (FRg.cons x kids .nil).ok → FAtRg w K (.cons x kids .nil) [.pointer (some ⟨b, 0, none⟩)] →
    Calls Tryz.prog 71 #[.pointer (some ⟨b, 0, none⟩)] w fun e w' => e = .returned (.bool (opE x (kids.fold opE))) ∧ w = w' := by
  intro N
  induction N with
  | zero => intro x kids h; exact absurd h (by omega)
  | succ N ihN => ?_
  intro x kids hNk b w K hok hF
  have IH := Lib.hid ihN
  clear ihN
  obtain ⟨b', qs, v, ps', e, h1, h2, h3, h4, ⟨a, cap, rfl, h5, h6, h7⟩, h8, h9⟩ := hF
  cases e
  have c0 := h3 0 (by decide)
  have hql := h8.len
  unfold rgv at c0
  rw [if_pos rfl] at c0
  have hk := hok.1
  obtain ⟨kd, hkd⟩ : ∃ kd, kd = x.kind := ⟨_, rfl⟩
  have Hkd := Lib.hid hkd
  rw [← hkd] at c0 hk
  clear h3 h9 hkd
  by_cases k12 : kd = 1 ∨ kd = 2
  · rw [rarity_two k12] at hk
    obtain ⟨y, kk, z, k2, rfl⟩ := FRg.two_of (G := kids) (by omega)
    obtain ⟨p1, ps1, rfl⟩ := h8.cons_ps
    obtain ⟨f1, f2, b1, rfl⟩ := h8.head
    obtain ⟨p2, ps2, rfl⟩ := f2.cons_ps
    obtain ⟨f2, f3, b2, rfl⟩ := f2.head
    obtain rfl : ps2 = [] := f3
    have F1 := Lib.hid f1
    have F2 := Lib.hid f2
    obtain ⟨ba, oa, rfl, r1, r2, r3⟩ := h7 (by simp)
    have a0 := r3 0 (by simp)
    have a1 := r3 1 (by simp)
    rw [Nat.add_zero] at a0
    simp only [List.getD_cons_zero] at a0
    simp only [List.getD_cons_succ, List.getD_cons_zero] at a1
    simp only [List.length_cons, List.length_nil] at h4 h5
    have m1 : kk.flat.length < N := by simp [FRg.flat] at hNk; omega
    have m2 : k2.flat.length < N := by simp [FRg.flat] at hNk; omega
    have o1 : (FRg.cons y kk .nil).ok := ⟨hok.2.1.1, hok.2.1.2.1, trivial⟩
    have o2 : (FRg.cons z k2 .nil).ok := hok.2.1.2.2
    have HE : Hid (opE x (FRg.fold opE (.cons y kk (.cons z k2 .nil))) = if x.kind = 1 then opE y (kk.fold opE) && opE z (k2.fold opE) else if x.kind = 2 then opE y (kk.fold opE) || opE z (k2.fold opE) else decide (x.kind = 3)) := Lib.hid rfl
    rw [← Hkd.out] at HE
    obtain ⟨e1, he1⟩ : ∃ e1, e1 = opE y (kk.fold opE) := ⟨_, rfl⟩
    obtain ⟨e2, he2⟩ : ∃ e2, e2 = opE z (k2.fold opE) := ⟨_, rfl⟩
    rw [← he1, ← he2] at HE
    have C1 := Lib.hid (IH.out y kk m1 b1 w K o1 F1.out)
    have C2 := Lib.hid (IH.out z k2 m2 b2 w K o2 F2.out)
    rw [← he1] at C1
    rw [← he2] at C2
    clear he1 he2 hNk m1 m2 o1 o2 r3 h7 hok h8 f1 f2 IH hql
    rcases k12 with rfl | rfl
    · cases e1 <;> cases e2
      · have hX : Hid (opE x (FRg.fold opE (.cons y kk (.cons z k2 .nil))) = false) := Lib.hid (by rw [HE.out]; rfl)
        clear HE
        go_enter Tryz.func71, Tryz.ntmps71
        go_wp2_with fail
        refine C1.out.mono ?_
        rintro e w' ⟨rfl, rfl⟩
        go_wp2_with fail
        go_ret
        exact ⟨by rw [hX.out]; rfl, rfl⟩
      · have hX : Hid (opE x (FRg.fold opE (.cons y kk (.cons z k2 .nil))) = false) := Lib.hid (by rw [HE.out]; rfl)
        clear HE
        go_enter Tryz.func71, Tryz.ntmps71
        go_wp2_with fail
        refine C1.out.mono ?_
        rintro e w' ⟨rfl, rfl⟩
        go_wp2_with fail
        go_ret
        exact ⟨by rw [hX.out]; rfl, rfl⟩
      · have hX : Hid (opE x (FRg.fold opE (.cons y kk (.cons z k2 .nil))) = false) := Lib.hid (by rw [HE.out]; rfl)
        clear HE
        go_enter Tryz.func71, Tryz.ntmps71
        go_wp2_with fail
        refine C1.out.mono ?_
        rintro e w' ⟨rfl, rfl⟩
        go_wp2_with fail
        refine C2.out.mono ?_
        rintro e w' ⟨rfl, rfl⟩
        go_wp2_with fail
        go_ret
        exact ⟨by rw [hX.out]; rfl, rfl⟩
      · have hX : Hid (opE x (FRg.fold opE (.cons y kk (.cons z k2 .nil))) = true) := Lib.hid (by rw [HE.out]; rfl)
        clear HE
        go_enter Tryz.func71, Tryz.ntmps71
        go_wp2_with fail
        refine C1.out.mono ?_
        rintro e w' ⟨rfl, rfl⟩
        go_wp2_with fail
        refine C2.out.mono ?_
        rintro e w' ⟨rfl, rfl⟩
        go_wp2_with fail
        go_ret
        exact ⟨by rw [hX.out]; rfl, rfl⟩
    · cases e1 <;> cases e2
      · have hX : Hid (opE x (FRg.fold opE (.cons y kk (.cons z k2 .nil))) = false) := Lib.hid (by rw [HE.out]; rfl)
        clear HE
        go_enter Tryz.func71, Tryz.ntmps71
        go_wp2_with fail
        refine C1.out.mono ?_
        rintro e w' ⟨rfl, rfl⟩
        go_wp2_with fail
        refine C2.out.mono ?_
        rintro e w' ⟨rfl, rfl⟩
        go_wp2_with fail
        go_ret
        exact ⟨by rw [hX.out]; rfl, rfl⟩
      · have hX : Hid (opE x (FRg.fold opE (.cons y kk (.cons z k2 .nil))) = true) := Lib.hid (by rw [HE.out]; rfl)
        clear HE
        go_enter Tryz.func71, Tryz.ntmps71
        go_wp2_with fail
        refine C1.out.mono ?_
        rintro e w' ⟨rfl, rfl⟩
        go_wp2_with fail
        refine C2.out.mono ?_
        rintro e w' ⟨rfl, rfl⟩
        go_wp2_with fail
        go_ret
        exact ⟨by rw [hX.out]; rfl, rfl⟩
      · have hX : Hid (opE x (FRg.fold opE (.cons y kk (.cons z k2 .nil))) = true) := Lib.hid (by rw [HE.out]; rfl)
        clear HE
        go_enter Tryz.func71, Tryz.ntmps71
        go_wp2_with fail
        refine C1.out.mono ?_
        rintro e w' ⟨rfl, rfl⟩
        go_wp2_with fail
        go_ret
        exact ⟨by rw [hX.out]; rfl, rfl⟩
      · have hX : Hid (opE x (FRg.fold opE (.cons y kk (.cons z k2 .nil))) = true) := Lib.hid (by rw [HE.out]; rfl)
        clear HE
        go_enter Tryz.func71, Tryz.ntmps71
        go_wp2_with fail
        refine C1.out.mono ?_
        rintro e w' ⟨rfl, rfl⟩
        go_wp2_with fail
        go_ret
        exact ⟨by rw [hX.out]; rfl, rfl⟩
  · have n1 : ¬ kd = 1 := fun h => k12 (Or.inl h)
    have n2 : ¬ kd = 2 := fun h => k12 (Or.inr h)
    have hX : Hid (opE x (kids.fold opE) = decide (kd = 3)) := Lib.hid (by unfold opE; rw [← Hkd.out, if_neg n1, if_neg n2])
    have b1 : (kd == 1) = false := by simpa using n1
    have b2 : (kd == 2) = false := by simpa using n2
    clear hok h7 h8 IH hNk hk hql k12
    go_enter Tryz.func71, Tryz.ntmps71
    go_wp2_with fail
    refine (isR_any b 3 kd _ c0).mono ?_
    rintro e w' ⟨rfl, rfl⟩
    go_wp2_with fail
    go_ret
    exact ⟨by rw [hX.out]; rfl, rfl⟩
def accE (f : List Rg) : Bool := if validR f = true then ((FRg.build f).fold opE).getD 0 false else false
def accC (f : List Rg) : Int := if validR f = true then 0 else 1
theorem validR_shape {f : List Rg} (h : validR f = true) : (∀ i, i < f.length → needR f i ≠ 0) ∧ needR f f.length = 0 := by
  unfold validR at h
  simp only [Bool.and_eq_true, decide_eq_true_eq] at h
  exact ⟨fun i hi => (h.1.1 i hi).1, h.1.2⟩
theorem validR_kind {f : List Rg} (h : validR f = true) (i : Nat) (hi : i < f.length) : inR (rgnth f i).kind 0 3 = true := by
  unfold validR at h
  simp only [Bool.and_eq_true, decide_eq_true_eq] at h
  have := (h.1.1 i hi).2
  unfold regNode at this
  simp only [Bool.and_eq_true] at this
  exact this.1.1
theorem AcceptsEmpty_any (v : Value) (f : List Rg) (w : World) (hn : f.length ≤ 1048576) (hls : ∀ i, i < f.length → (rgnth f i).lab.size ≤ 1048576) (hT : Env w) (hv : RdRg w v f) :
    Calls Tryz.prog 28 #[v] w fun e w' => e = .returned (.tuple #[.bool (accE f), .int .i64 (accC f)]) ∧ Below w.heap.size w w' := by
  have HV := Lib.hid hv
  obtain ⟨a, cap, rfl⟩ := hv.slice
  clear hv
  cases hvm : validR f with
  | false =>
    have hM : Hid (accE f = false) := Lib.hid (by unfold accE; rw [hvm]; rfl)
    have hC : Hid (accC f = 1) := Lib.hid (by unfold accC; rw [hvm]; rfl)
    rw [hM.out, hC.out]
    go_enter Tryz.func28, Tryz.ntmps28
    go_wp2_with fail
    refine (ValidRegular_any _ f _ hn hls hT HV.out).mono ?_
    rw [hvm]
    rintro e w1 ⟨rfl, hb1⟩
    go_wp2_with fail
    go_ret2
    exact ⟨rfl, hb1⟩
  | true =>
    obtain ⟨hs1, hs2⟩ := validR_shape hvm
    obtain ⟨x, kids, hB, hok, hf⟩ := FRg.one hs1 hs2
    have hM : Hid (accE f = opE x (kids.fold opE)) := Lib.hid (by unfold accE; rw [hvm, if_pos rfl, hB]; rfl)
    have hC : Hid (accC f = 0) := Lib.hid (by unfold accC; rw [hvm]; rfl)
    rw [hM.out, hC.out]
    have Hok := Lib.hid hok
    have Hf := Lib.hid hf
    obtain ⟨L, hL⟩ : ∃ L, L = f.length := ⟨_, rfl⟩
    rw [← hL] at HV ⊢
    have hL1 := Lib.hid hL
    clear hs1 hs2 hB hok hf hL
    go_enter Tryz.func28, Tryz.ntmps28
    go_wp2_with fail
    refine (ValidRegular_any _ f _ hn hls hT HV.out).mono ?_
    rw [hvm]
    rintro e w1 ⟨rfl, hb1⟩
    go_wp2_with fail
    refine (regularOf_any x kids _ _ Hok.out (by rw [← Hf.out]; exact hn) (by rw [← Hf.out]; exact HV.out.below hb1)).mono ?_
    rintro e w2 ⟨b, rfl, hF, hb2⟩
    have HF := Lib.hid hF
    have hbl := below_trans' hb1 hb2
    clear hF
    go_wp2_with fail
    refine (empty_aux (kids.flat.length + 1) x kids (Nat.lt_succ_self _) b _ _ Hok.out HF.out).mono ?_
    rintro e w3 ⟨rfl, rfl⟩
    go_wp2_with fail
    go_ret2
    exact ⟨rfl, hbl⟩
theorem infoBoolE : (Tryz.prog.info? 4).map (fun i => (i.zero, i.size, i.bytes)) = some (some (.bool false), 1, 1) := by kernel_rfl
theorem validR_step {f : List Rg} (h : validR f = true) {i : Nat} (hi : i < f.length) :
    (FRg.build (f.drop i)).fold opE = opE (rgnth f i) (((FRg.build (f.drop (i + 1))).fold opE).take (rarity (rgnth f i).kind).toNat) :: ((FRg.build (f.drop (i + 1))).fold opE).drop (rarity (rgnth f i).kind).toNat
    ∧ (rarity (rgnth f i).kind).toNat ≤ ((FRg.build (f.drop (i + 1))).fold opE).length := by
  obtain ⟨hs1, hs2⟩ := validR_shape h
  obtain ⟨_, e2⟩ := FRg.suffix hs1 hs2 i (by omega)
  rw [List.drop_eq_getElem_cons hi, ← rgnth_eq f i hi] at e2 ⊢
  obtain ⟨G, hG⟩ : ∃ G, G = FRg.build (f.drop (i + 1)) := ⟨_, rfl⟩
  have hB : FRg.build (rgnth f i :: f.drop (i + 1)) = .cons (rgnth f i) (.tak (rarity (rgnth f i).kind).toNat G) (.drp (rarity (rgnth f i).kind).toNat G) := by rw [hG]; rfl
  rw [hB] at e2 ⊢
  rw [← hG, FRg.fold_len]
  have e3 := e2.1
  rw [(FRg.len_parts _ G).1] at e3
  have := rarity_bd (rgnth f i).kind
  refine ⟨?_, by omega⟩
  show opE _ _ :: _ = _
  rw [(FRg.fold_parts opE _ G).1, (FRg.fold_parts opE _ G).2]
theorem ownsRow_shrink {w : World} {base e g n cap : Nat} {xs : List Value} (h : w.ownsRow base e 1 (.slice (some ⟨g, 0, none⟩) n cap) n xs) {k : Nat} (hk : k ≤ n) : w.ownsRow base e 1 (.slice (some ⟨g, 0, none⟩) k cap) k (xs.take k) := by
  obtain ⟨h1, h2⟩ := h
  rcases h2 with ⟨h2, _⟩ | ⟨g', cap', cur, e', hg, hh, hn, hm, hs, ht⟩
  · cases h2
  · cases e'
    refine ⟨by rw [List.length_take]; omega, Or.inr ⟨g, cap, cur, rfl, hg, hh, by omega, hm, hs, ?_⟩⟩
    rw [← ht, List.take_take]
    congr 1
    omega
theorem owned_pos {w : World} {B T sz : Nat} {a : Option Addr} {n cap : Nat} {xs : List Value} (h : w.ownsRow B T sz (.slice a n cap) n xs) (hn : 0 < n) : ∃ g, a = some ⟨g, 0, none⟩ ∧ B ≤ g ∧ n ≤ cap := by
  rcases h.2 with ⟨h2, _⟩ | ⟨g', cap', cur, e', hg, hh, hn', hm, hs, ht⟩
  · cases h2; omega
  · cases e'; exact ⟨g', rfl, hg, hn'⟩
set_option maxRecDepth 100000 in
set_option maxHeartbeats 2000000 in
theorem l20Empty_any (v : Value) (f : List Rg) (w : World) (hn : f.length ≤ 1048576) (hvm : validR f = true) (hv : RdRg w v f) :
    Calls Tryz.prog 69 #[v] w fun e w' => e = .returned (.bool (((FRg.build f).fold opE).getD 0 false)) ∧ Below w.heap.size w w' := by
  have HV := Lib.hid hv
  obtain ⟨a, cap, rfl⟩ := hv.slice
  obtain ⟨n, hxn⟩ : ∃ n, n = f.length := ⟨_, rfl⟩
  rw [← hxn] at HV hn ⊢
  have Hxn := Lib.hid hxn
  clear hxn hv
  obtain ⟨i0, hi, hz0, hz1, hz2⟩ := info_parts infoBoolE
  have HVM := Lib.hid hvm
  clear hvm
  go_enter Tryz.func69, Tryz.ntmps69
  go_wp2_with fail
  go_loopw [3, 4] (fun st si wr => ∃ (j m : Nat) (l : List Bool), j ≤ n ∧ si = .int .i64 ((j : Int) - 1) ∧ Hid (l = (FRg.build (f.drop j)).fold opE) ∧ Hid (m = l.length) ∧ m ≤ 1048576 ∧ Hid (wr.ownsRow w.heap.size 4 1 st m (l.reverse.map Value.bool)) ∧ Below w.heap.size w wr)
    (fun _ si _ => (intOf si + 1).toNat)
  case atStart => exact ⟨n, 0, [], Nat.le_refl _, rfl, Lib.hid (by rw [Hxn.out, List.drop_length]; rfl), Lib.hid rfl, by omega, Lib.hid (nil_owned _ _ (Nat.le_refl _)), (Below.refl _ _).alloc (Nat.le_refl _) _⟩
  case round =>
    obtain ⟨j, m, l, hj, rfl, HL, HM, hm2, HO, hbl⟩ := hrel
    obtain ⟨ast, cst, rfl⟩ := owned_slice HO.out
    by_cases hj0 : 0 < j
    · obtain ⟨i, rfl⟩ : ∃ i, j = i + 1 := ⟨j - 1, by omega⟩
      have hi1 : (((i + 1 : Nat) : Int) - 1) = (i : Int) := by omega
      rw [hi1]
      have hkf : i < f.length := by rw [← Hxn.out]; omega
      obtain ⟨b, o, rfl, hb, g0, _, _⟩ := RdRg.cells HV.out hkf
      have q0 := (hbl.cell (by exact hb)).trans g0
      have hkd := validR_kind HVM.out i hkf
      obtain ⟨hst1, hst2⟩ := validR_step HVM.out hkf
      have hml : m ≤ n - (i + 1) := by
        have h1 := FRg.len_le_flat (FRg.build (f.drop (i + 1)))
        rw [FRg.flat_build, List.length_drop, ← FRg.fold_len opE, ← HL.out, ← HM.out, ← Hxn.out] at h1
        exact h1
      rw [← HL.out] at hst1 hst2
      obtain ⟨Y, hY⟩ : ∃ Y, Y = rgnth f i := ⟨_, rfl⟩
      rw [← hY] at q0 hkd hst1 hst2
      obtain ⟨kd, hk⟩ : ∃ kd, kd = Y.kind := ⟨_, rfl⟩
      rw [← hk] at q0 hkd hst2
      have hkr := inR_true hkd
      have hc : kd = 0 ∨ kd = 1 ∨ kd = 2 ∨ kd = 3 := by omega
      have hin : i < n := by omega
      clear hY g0 hkd hkr hi1
      rcases hc with rfl | rfl | rfl | rfl
      · have HL2 : Hid (false :: l = (FRg.build (f.drop i)).fold opE) := Lib.hid (by rw [hst1, ← hk]; simp [opE, ← hk, rarity])
        clear hst1 hst2 hk
        go_wp2_with (at_builtin; refine wpList_append_own_at _ rfl _ _ 94 rfl w.heap.size 4 i0 (.bool false) 1 1 Tryz.underlying94 hi hz0 hz1 hz2 rfl (by decide) _ m _ rfl (HO.out.alloc _) ⟨wr.heap.size, 0, none⟩ 1 1 [.bool false] rfl rfl (new_cell _ _ _ _ rfl) (by simp [Value.oneCell']) ?c2 ?c3 ?c4 ?_)
        case c2 => unfold maxLen; omega
        case c3 => omega
        case c4 => have := hbl.size; simp; omega
        intro v' w3 hown' hgrow hnil hloc
        have HO3 : Hid (w3.ownsRow w.heap.size 4 1 v' (m + 1) ((false :: l).reverse.map Value.bool)) := Lib.hid (by
          rw [List.reverse_cons, List.map_append]; simpa using hown')
        have hbl3 : Below w.heap.size w w3 := (hbl.alloc hbl.size _).grown hgrow (by have := hbl.size; simp; omega) (fun j hj => (HO.out.lt j hj).1)
        have HM3 : Hid (m + 1 = (false :: l).length) := Lib.hid (by rw [List.length_cons, ← HM.out])
        clear hown' hgrow hnil hloc HO
        obtain ⟨ast', cst', rfl⟩ := owned_slice HO3.out
        go_wp2_with fail
        go_roundw
        case rel => exact ⟨i, m + 1, false :: l, by omega, rfl, HL2, HM3, by omega, HO3, hbl3⟩
        case measure => simp [intOf] <;> omega
      · have hl2 : 2 ≤ l.length := by rw [rarity_two (Or.inl rfl)] at hst2; exact hst2
        obtain ⟨u, v, l0, rfl⟩ : ∃ u v l0, l = u :: v :: l0 := by
          match l, hl2 with
          | u :: v :: l0, _ => exact ⟨u, v, l0, rfl⟩
        obtain ⟨q, hq⟩ : ∃ q, q = l0.length := ⟨_, rfl⟩
        obtain rfl : m = q + 1 + 1 := by have := HM.out; simp only [List.length_cons] at this; omega
        have hrl : (l0.reverse.map Value.bool).length = q := by simp [hq]
        have hown := HO.out
        rw [show (u :: v :: l0).reverse.map Value.bool = l0.reverse.map Value.bool ++ [.bool v, .bool u] by simp] at hown
        obtain ⟨g, rfl, hg, hcap⟩ := owned_pos hown (by omega)
        have t0 := (hown.cellAt (q + 1) (by omega)).trans (show _ = some (Value.bool u) by rw [List.getElem?_append_right (by omega), hrl]; simp)
        have t1 := (hown.cellAt q (by omega)).trans (show _ = some (Value.bool v) by rw [List.getElem?_append_right (by omega), hrl]; simp)
        have HS := ownsRow_shrink hown (k := q) (by omega)
        rw [List.take_append_of_le_length (by omega), List.take_of_length_le (by omega)] at HS
        have HS := Lib.hid HS
        have HL2 : Hid ((u && v) :: l0 = (FRg.build (f.drop i)).fold opE) := Lib.hid (by rw [hst1, ← hk]; simp [opE, ← hk, rarity])
        have Hq := Lib.hid hq
        have HLt := Lib.hid (fun j hj => (hown.lt j hj).1)
        have hwl := hbl.size
        have hi1 : ((q + 1 + 1 : Nat) : Int) - 1 = ((q + 1 : Nat) : Int) := by omega
        clear hst1 hst2 hk hl2 hrl hown HO HL HM hq
        cases u <;> cases v
        · go_wp2_with (at_builtin; refine wpList_append_own_at _ rfl _ _ 94 rfl w.heap.size 4 i0 (.bool false) 1 1 Tryz.underlying94 hi hz0 hz1 hz2 rfl (by decide) _ q _ rfl (HS.out.alloc _) ⟨wr.heap.size, 0, none⟩ 1 1 [.bool false] rfl rfl (new_cell _ _ _ _ rfl) (by simp [Value.oneCell']) ?c2 ?c3 ?c4 ?_)
          case c2 => unfold maxLen; omega
          case c3 => omega
          case c4 => simp; omega
          intro v' w3 hown' hgrow hnil hloc
          have HO3 : Hid (w3.ownsRow w.heap.size 4 1 v' (q + 1) ((false :: l0).reverse.map Value.bool)) := Lib.hid (by
            rw [List.reverse_cons, List.map_append]; simpa using hown')
          have hbl3 : Below w.heap.size w w3 := (hbl.alloc hwl _).grown hgrow (by simp; omega) (fun j hj => by cases hj; exact hg)
          have HM3 : Hid (q + 1 = (false :: l0).length) := Lib.hid (by rw [List.length_cons, ← Hq.out])
          clear hown' hgrow hnil hloc HS
          obtain ⟨ast', cst', rfl⟩ := owned_slice HO3.out
          go_wp2_with fail
          go_roundw
          case rel => exact ⟨i, q + 1, false :: l0, by omega, rfl, HL2, HM3, by omega, HO3, hbl3⟩
          case measure => simp [intOf] <;> omega
        · go_wp2_with (at_builtin; refine wpList_append_own_at _ rfl _ _ 94 rfl w.heap.size 4 i0 (.bool false) 1 1 Tryz.underlying94 hi hz0 hz1 hz2 rfl (by decide) _ q _ rfl (HS.out.alloc _) ⟨wr.heap.size, 0, none⟩ 1 1 [.bool false] rfl rfl (new_cell _ _ _ _ rfl) (by simp [Value.oneCell']) ?c2 ?c3 ?c4 ?_)
          case c2 => unfold maxLen; omega
          case c3 => omega
          case c4 => simp; omega
          intro v' w3 hown' hgrow hnil hloc
          have HO3 : Hid (w3.ownsRow w.heap.size 4 1 v' (q + 1) ((false :: l0).reverse.map Value.bool)) := Lib.hid (by
            rw [List.reverse_cons, List.map_append]; simpa using hown')
          have hbl3 : Below w.heap.size w w3 := (hbl.alloc hwl _).grown hgrow (by simp; omega) (fun j hj => by cases hj; exact hg)
          have HM3 : Hid (q + 1 = (false :: l0).length) := Lib.hid (by rw [List.length_cons, ← Hq.out])
          clear hown' hgrow hnil hloc HS
          obtain ⟨ast', cst', rfl⟩ := owned_slice HO3.out
          go_wp2_with fail
          go_roundw
          case rel => exact ⟨i, q + 1, false :: l0, by omega, rfl, HL2, HM3, by omega, HO3, hbl3⟩
          case measure => simp [intOf] <;> omega
        · go_wp2_with (at_builtin; refine wpList_append_own_at _ rfl _ _ 94 rfl w.heap.size 4 i0 (.bool false) 1 1 Tryz.underlying94 hi hz0 hz1 hz2 rfl (by decide) _ q _ rfl (HS.out.alloc _) ⟨wr.heap.size, 0, none⟩ 1 1 [.bool false] rfl rfl (new_cell _ _ _ _ rfl) (by simp [Value.oneCell']) ?c2 ?c3 ?c4 ?_)
          case c2 => unfold maxLen; omega
          case c3 => omega
          case c4 => simp; omega
          intro v' w3 hown' hgrow hnil hloc
          have HO3 : Hid (w3.ownsRow w.heap.size 4 1 v' (q + 1) ((false :: l0).reverse.map Value.bool)) := Lib.hid (by
            rw [List.reverse_cons, List.map_append]; simpa using hown')
          have hbl3 : Below w.heap.size w w3 := (hbl.alloc hwl _).grown hgrow (by simp; omega) (fun j hj => by cases hj; exact hg)
          have HM3 : Hid (q + 1 = (false :: l0).length) := Lib.hid (by rw [List.length_cons, ← Hq.out])
          clear hown' hgrow hnil hloc HS
          obtain ⟨ast', cst', rfl⟩ := owned_slice HO3.out
          go_wp2_with fail
          go_roundw
          case rel => exact ⟨i, q + 1, false :: l0, by omega, rfl, HL2, HM3, by omega, HO3, hbl3⟩
          case measure => simp [intOf] <;> omega
        · go_wp2_with (at_builtin; refine wpList_append_own_at _ rfl _ _ 94 rfl w.heap.size 4 i0 (.bool false) 1 1 Tryz.underlying94 hi hz0 hz1 hz2 rfl (by decide) _ q _ rfl (HS.out.alloc _) ⟨wr.heap.size, 0, none⟩ 1 1 [.bool true] rfl rfl (new_cell _ _ _ _ rfl) (by simp [Value.oneCell']) ?c2 ?c3 ?c4 ?_)
          case c2 => unfold maxLen; omega
          case c3 => omega
          case c4 => simp; omega
          intro v' w3 hown' hgrow hnil hloc
          have HO3 : Hid (w3.ownsRow w.heap.size 4 1 v' (q + 1) ((true :: l0).reverse.map Value.bool)) := Lib.hid (by
            rw [List.reverse_cons, List.map_append]; simpa using hown')
          have hbl3 : Below w.heap.size w w3 := (hbl.alloc hwl _).grown hgrow (by simp; omega) (fun j hj => by cases hj; exact hg)
          have HM3 : Hid (q + 1 = (true :: l0).length) := Lib.hid (by rw [List.length_cons, ← Hq.out])
          clear hown' hgrow hnil hloc HS
          obtain ⟨ast', cst', rfl⟩ := owned_slice HO3.out
          go_wp2_with fail
          go_roundw
          case rel => exact ⟨i, q + 1, true :: l0, by omega, rfl, HL2, HM3, by omega, HO3, hbl3⟩
          case measure => simp [intOf] <;> omega
      · have hl2 : 2 ≤ l.length := by rw [rarity_two (Or.inr rfl)] at hst2; exact hst2
        obtain ⟨u, v, l0, rfl⟩ : ∃ u v l0, l = u :: v :: l0 := by
          match l, hl2 with
          | u :: v :: l0, _ => exact ⟨u, v, l0, rfl⟩
        obtain ⟨q, hq⟩ : ∃ q, q = l0.length := ⟨_, rfl⟩
        obtain rfl : m = q + 1 + 1 := by have := HM.out; simp only [List.length_cons] at this; omega
        have hrl : (l0.reverse.map Value.bool).length = q := by simp [hq]
        have hown := HO.out
        rw [show (u :: v :: l0).reverse.map Value.bool = l0.reverse.map Value.bool ++ [.bool v, .bool u] by simp] at hown
        obtain ⟨g, rfl, hg, hcap⟩ := owned_pos hown (by omega)
        have t0 := (hown.cellAt (q + 1) (by omega)).trans (show _ = some (Value.bool u) by rw [List.getElem?_append_right (by omega), hrl]; simp)
        have t1 := (hown.cellAt q (by omega)).trans (show _ = some (Value.bool v) by rw [List.getElem?_append_right (by omega), hrl]; simp)
        have HS := ownsRow_shrink hown (k := q) (by omega)
        rw [List.take_append_of_le_length (by omega), List.take_of_length_le (by omega)] at HS
        have HS := Lib.hid HS
        have HL2 : Hid ((u || v) :: l0 = (FRg.build (f.drop i)).fold opE) := Lib.hid (by rw [hst1, ← hk]; simp [opE, ← hk, rarity])
        have Hq := Lib.hid hq
        have HLt := Lib.hid (fun j hj => (hown.lt j hj).1)
        have hwl := hbl.size
        have hi1 : ((q + 1 + 1 : Nat) : Int) - 1 = ((q + 1 : Nat) : Int) := by omega
        clear hst1 hst2 hk hl2 hrl hown HO HL HM hq
        cases u <;> cases v
        · go_wp2_with (at_builtin; refine wpList_append_own_at _ rfl _ _ 94 rfl w.heap.size 4 i0 (.bool false) 1 1 Tryz.underlying94 hi hz0 hz1 hz2 rfl (by decide) _ q _ rfl (HS.out.alloc _) ⟨wr.heap.size, 0, none⟩ 1 1 [.bool false] rfl rfl (new_cell _ _ _ _ rfl) (by simp [Value.oneCell']) ?c2 ?c3 ?c4 ?_)
          case c2 => unfold maxLen; omega
          case c3 => omega
          case c4 => simp; omega
          intro v' w3 hown' hgrow hnil hloc
          have HO3 : Hid (w3.ownsRow w.heap.size 4 1 v' (q + 1) ((false :: l0).reverse.map Value.bool)) := Lib.hid (by
            rw [List.reverse_cons, List.map_append]; simpa using hown')
          have hbl3 : Below w.heap.size w w3 := (hbl.alloc hwl _).grown hgrow (by simp; omega) (fun j hj => by cases hj; exact hg)
          have HM3 : Hid (q + 1 = (false :: l0).length) := Lib.hid (by rw [List.length_cons, ← Hq.out])
          clear hown' hgrow hnil hloc HS
          obtain ⟨ast', cst', rfl⟩ := owned_slice HO3.out
          go_wp2_with fail
          go_roundw
          case rel => exact ⟨i, q + 1, false :: l0, by omega, rfl, HL2, HM3, by omega, HO3, hbl3⟩
          case measure => simp [intOf] <;> omega
        · go_wp2_with (at_builtin; refine wpList_append_own_at _ rfl _ _ 94 rfl w.heap.size 4 i0 (.bool false) 1 1 Tryz.underlying94 hi hz0 hz1 hz2 rfl (by decide) _ q _ rfl (HS.out.alloc _) ⟨wr.heap.size, 0, none⟩ 1 1 [.bool true] rfl rfl (new_cell _ _ _ _ rfl) (by simp [Value.oneCell']) ?c2 ?c3 ?c4 ?_)
          case c2 => unfold maxLen; omega
          case c3 => omega
          case c4 => simp; omega
          intro v' w3 hown' hgrow hnil hloc
          have HO3 : Hid (w3.ownsRow w.heap.size 4 1 v' (q + 1) ((true :: l0).reverse.map Value.bool)) := Lib.hid (by
            rw [List.reverse_cons, List.map_append]; simpa using hown')
          have hbl3 : Below w.heap.size w w3 := (hbl.alloc hwl _).grown hgrow (by simp; omega) (fun j hj => by cases hj; exact hg)
          have HM3 : Hid (q + 1 = (true :: l0).length) := Lib.hid (by rw [List.length_cons, ← Hq.out])
          clear hown' hgrow hnil hloc HS
          obtain ⟨ast', cst', rfl⟩ := owned_slice HO3.out
          go_wp2_with fail
          go_roundw
          case rel => exact ⟨i, q + 1, true :: l0, by omega, rfl, HL2, HM3, by omega, HO3, hbl3⟩
          case measure => simp [intOf] <;> omega
        · go_wp2_with (at_builtin; refine wpList_append_own_at _ rfl _ _ 94 rfl w.heap.size 4 i0 (.bool false) 1 1 Tryz.underlying94 hi hz0 hz1 hz2 rfl (by decide) _ q _ rfl (HS.out.alloc _) ⟨wr.heap.size, 0, none⟩ 1 1 [.bool true] rfl rfl (new_cell _ _ _ _ rfl) (by simp [Value.oneCell']) ?c2 ?c3 ?c4 ?_)
          case c2 => unfold maxLen; omega
          case c3 => omega
          case c4 => simp; omega
          intro v' w3 hown' hgrow hnil hloc
          have HO3 : Hid (w3.ownsRow w.heap.size 4 1 v' (q + 1) ((true :: l0).reverse.map Value.bool)) := Lib.hid (by
            rw [List.reverse_cons, List.map_append]; simpa using hown')
          have hbl3 : Below w.heap.size w w3 := (hbl.alloc hwl _).grown hgrow (by simp; omega) (fun j hj => by cases hj; exact hg)
          have HM3 : Hid (q + 1 = (true :: l0).length) := Lib.hid (by rw [List.length_cons, ← Hq.out])
          clear hown' hgrow hnil hloc HS
          obtain ⟨ast', cst', rfl⟩ := owned_slice HO3.out
          go_wp2_with fail
          go_roundw
          case rel => exact ⟨i, q + 1, true :: l0, by omega, rfl, HL2, HM3, by omega, HO3, hbl3⟩
          case measure => simp [intOf] <;> omega
        · go_wp2_with (at_builtin; refine wpList_append_own_at _ rfl _ _ 94 rfl w.heap.size 4 i0 (.bool false) 1 1 Tryz.underlying94 hi hz0 hz1 hz2 rfl (by decide) _ q _ rfl (HS.out.alloc _) ⟨wr.heap.size, 0, none⟩ 1 1 [.bool true] rfl rfl (new_cell _ _ _ _ rfl) (by simp [Value.oneCell']) ?c2 ?c3 ?c4 ?_)
          case c2 => unfold maxLen; omega
          case c3 => omega
          case c4 => simp; omega
          intro v' w3 hown' hgrow hnil hloc
          have HO3 : Hid (w3.ownsRow w.heap.size 4 1 v' (q + 1) ((true :: l0).reverse.map Value.bool)) := Lib.hid (by
            rw [List.reverse_cons, List.map_append]; simpa using hown')
          have hbl3 : Below w.heap.size w w3 := (hbl.alloc hwl _).grown hgrow (by simp; omega) (fun j hj => by cases hj; exact hg)
          have HM3 : Hid (q + 1 = (true :: l0).length) := Lib.hid (by rw [List.length_cons, ← Hq.out])
          clear hown' hgrow hnil hloc HS
          obtain ⟨ast', cst', rfl⟩ := owned_slice HO3.out
          go_wp2_with fail
          go_roundw
          case rel => exact ⟨i, q + 1, true :: l0, by omega, rfl, HL2, HM3, by omega, HO3, hbl3⟩
          case measure => simp [intOf] <;> omega
      · have hl2 : 1 ≤ l.length := by rw [rarity_one rfl] at hst2; exact hst2
        obtain ⟨u, l0, rfl⟩ : ∃ u l0, l = u :: l0 := by
          match l, hl2 with
          | u :: l0, _ => exact ⟨u, l0, rfl⟩
        obtain ⟨q, hq⟩ : ∃ q, q = l0.length := ⟨_, rfl⟩
        obtain rfl : m = q + 1 := by have := HM.out; simp only [List.length_cons] at this; omega
        have hrl : (l0.reverse.map Value.bool).length = q := by simp [hq]
        have hown := HO.out
        rw [show (u :: l0).reverse.map Value.bool = l0.reverse.map Value.bool ++ [.bool u] by simp] at hown
        obtain ⟨g, rfl, hg, hcap⟩ := owned_pos hown (by omega)
        have t0 := (hown.cellAt q (by omega)).trans (show _ = some (Value.bool u) by rw [List.getElem?_append_right (by omega), hrl]; simp)
        have hfz := hown.frozenAt q
        have hs1 := (hown.stored q (.bool true)).1
        have HO3 : Hid ((wr.setCell ⟨g, q, none⟩ (.bool true)).ownsRow w.heap.size 4 1 (.slice (some ⟨g, 0, none⟩) (q + 1) cst) (q + 1) ((true :: l0).reverse.map Value.bool)) := Lib.hid (by
          rw [show (true :: l0).reverse.map Value.bool = l0.reverse.map Value.bool ++ [.bool true] by simp]
          rw [List.set_append_right _ _ (by omega), hrl, Nat.sub_self] at hs1
          exact hs1)
        have HL2 : Hid (true :: l0 = (FRg.build (f.drop i)).fold opE) := Lib.hid (by rw [hst1, ← hk]; simp [opE, ← hk, rarity])
        have HM3 : Hid (q + 1 = (true :: l0).length) := Lib.hid (by rw [List.length_cons, ← hq])
        have hb3 : Below w.heap.size w (wr.setCell ⟨g, q, none⟩ (.bool true)) := hbl.setCell hg _
        have hi1 : ((q + 1 : Nat) : Int) - 1 = (q : Int) := by omega
        clear hst1 hst2 hk hl2 hrl hown HO HL HM hq hs1
        go_wp2_with fail
        go_roundw
        case rel => exact ⟨i, q + 1, true :: l0, by omega, rfl, HL2, HM3, by omega, HO3, hb3⟩
        case measure => simp [intOf] <;> omega
    · obtain rfl : j = 0 := by omega
      obtain ⟨hs1, hs2⟩ := validR_shape HVM.out
      obtain ⟨x, kids, hB, hok, hf⟩ := FRg.one hs1 hs2
      have hl := HL.out
      rw [List.drop_zero, hB] at hl
      have hR : Hid (((FRg.build f).fold opE).getD 0 false = opE x (kids.fold opE)) := Lib.hid (by rw [hB]; rfl)
      obtain ⟨y, hy⟩ : ∃ y, y = opE x (kids.fold opE) := ⟨_, rfl⟩
      obtain rfl : l = [y] := by rw [hl, hy]; rfl
      obtain rfl : m = 1 := HM.out
      obtain ⟨g, rfl, hg, hcap⟩ := owned_pos HO.out (by omega)
      have t0 := (HO.out.cellAt 0 (by omega)).trans (show _ = some (Value.bool y) by simp)
      have hR2 : Hid (((FRg.build f).fold opE).getD 0 false = y) := Lib.hid (by rw [hR.out, ← hy])
      clear hl hy hB hok hf hs1 hs2 HL HM HO
      go_wp2_with fail
      go_ret
      exact ⟨by rw [hR2.out]; rfl, hbl⟩
theorem spec_AcceptsEmpty_any (v : Value) (f : List Rg) (w : World) (hn : f.length ≤ 1048576) (hls : ∀ i, i < f.length → (rgnth f i).lab.size ≤ 1048576) (hv : RdRg w v f) :
    Calls Tryz.prog 27 #[v] w fun e w' => e = .returned (.tuple #[.bool (accE f), .int .i64 (accC f)]) ∧ Below w.heap.size w w' := by
  have HV := Lib.hid hv
  obtain ⟨a, cap, rfl⟩ := hv.slice
  clear hv
  cases hvm : validR f with
  | false =>
    have hM : Hid (accE f = false) := Lib.hid (by unfold accE; rw [hvm]; rfl)
    have hC : Hid (accC f = 1) := Lib.hid (by unfold accC; rw [hvm]; rfl)
    rw [hM.out, hC.out]
    go_enter Tryz.func27, Tryz.ntmps27
    go_wp2_with fail
    refine (l20Is_any _ f _ hn hls HV.out).mono ?_
    rw [hvm]
    rintro e w1 ⟨rfl, hb1⟩
    go_wp2_with fail
    go_ret2
    exact ⟨rfl, hb1⟩
  | true =>
    have hM : Hid (accE f = ((FRg.build f).fold opE).getD 0 false) := Lib.hid (by unfold accE; rw [hvm, if_pos rfl])
    have hC : Hid (accC f = 0) := Lib.hid (by unfold accC; rw [hvm]; rfl)
    rw [hM.out, hC.out]
    go_enter Tryz.func27, Tryz.ntmps27
    go_wp2_with fail
    refine (l20Is_any _ f _ hn hls HV.out).mono ?_
    rw [hvm]
    rintro e w1 ⟨rfl, hb1⟩
    go_wp2_with fail
    refine (l20Empty_any _ f _ hn hvm (HV.out.below hb1)).mono ?_
    rintro e w2 ⟨rfl, hb2⟩
    go_wp2_with fail
    go_ret2
    exact ⟨rfl, below_trans' hb1 hb2⟩
end Go.Proofs.YtmaadfoiaegdjaaGreatDoor
