/- Contracts: the modal depth of a formula, of the program and of the reference. -/
import Derived.Test.YtmaadfoiaegdjaaGreatDoorProg
import Derived.Test.YtmaadfoiaegdjaaGreatDoorMem
import Derived.Test.YtmaadfoiaegdjaaGreatDoorMath
import Derived.Test.YtmaadfoiaegdjaaGreatDoorBasics
import Derived.Test.YtmaadfoiaegdjaaGreatDoorOpenI
import Derived.Test.YtmaadfoiaegdjaaGreatDoorHelpI
import Derived.Test.YtmaadfoiaegdjaaGreatDoorGrid
import Derived.Test.YtmaadfoiaegdjaaGreatDoorLab
import Derived.Test.YtmaadfoiaegdjaaGreatDoorDec
import Derived.Test.YtmaadfoiaegdjaaGreatDoorEnv
import Derived.Test.YtmaadfoiaegdjaaGreatDoorRLab
import Derived.Test.YtmaadfoiaegdjaaGreatDoorNode
import Derived.Test.YtmaadfoiaegdjaaGreatDoorNodeW
import Derived.Test.YtmaadfoiaegdjaaGreatDoorVMod
import Derived.Test.YtmaadfoiaegdjaaGreatDoorTreeN
import Derived.WalkKit
import Derived.BigQuiet
import Derived.BigRegion
import Derived.Deep.QuietTactic
import Derived.Maps.AppendAt
import Derived.Laws.OwnMore
import Derived.Lib.SliceRun
import Derived.Lib.Hide
import Derived.Outline
set_option linter.unusedVariables false
set_option linter.unusedSimpArgs false
namespace Go.Proofs.YtmaadfoiaegdjaaGreatDoor
open Go.RowKit

def opD (x : Nd) (l : List Nat) : Nat := l.foldl max 0 + (if isModal x.kind then 1 else 0)
theorem foldl_max_le {B : Nat} : ∀ (l : List Nat) (a : Nat), a ≤ B → (∀ d ∈ l, d ≤ B) → l.foldl max a ≤ B
  | [], a, h, _ => h
  | d :: l, a, h, g => by
    rw [List.foldl_cons]
    exact foldl_max_le l _ (by have := g d (List.mem_cons_self ..); omega) fun x hx => g x (List.mem_cons_of_mem _ hx)
theorem opD_le {x : Nd} {l : List Nat} {B : Nat} (h : ∀ d ∈ l, d ≤ B) : opD x l ≤ B + 1 := by
  have := foldl_max_le l 0 (Nat.zero_le B) h
  unfold opD
  split <;> omega
theorem foldD_le (G : FNd) : ∀ d ∈ G.fold opD, d ≤ G.flat.length := by
  induction G with
  | nil => intro d h; cases h
  | cons x k n ihk ihn =>
    intro d hd
    have hl : (FNd.cons x k n).flat.length = k.flat.length + n.flat.length + 1 := by simp [FNd.flat]
    rw [hl]
    rcases List.mem_cons.1 hd with rfl | h
    · have := opD_le (x := x) ihk
      omega
    · have := ihn d h
      omega
theorem FAtNd.nth {w : World} {K : Nat → Prop} {G : FNd} {ps : List Value} (h : FAtNd w K G ps) (hok : G.ok) {i : Nat} (hi : i < G.len) :
    ∃ y kk b, ps[i]? = some (.pointer (some ⟨b, 0, none⟩)) ∧ FAtNd w K (.cons y kk .nil) [.pointer (some ⟨b, 0, none⟩)] ∧ (FNd.cons y kk .nil).ok ∧ kk.flat.length < G.flat.length ∧ ∀ {β : Type} (op : Nd → List β → β), (G.fold op)[i]? = some (op y (kk.fold op)) := by
  induction G generalizing i ps with
  | nil => simp [FNd.len] at hi
  | cons x k n _ ihn =>
    obtain ⟨b, qs, v, ps', rfl, h1, h2, h3, h4, h5, h8, h9⟩ := h
    cases i with
    | zero => exact ⟨x, k, b, rfl, ⟨b, qs, v, [], rfl, h1, h2, h3, h4, h5, h8, rfl⟩, ⟨hok.1, hok.2.1, trivial⟩, by simp [FNd.flat]; omega, fun op => rfl⟩
    | succ i =>
      obtain ⟨y, kk, b', e1, e2, e3, e4, e5⟩ := ihn h9 hok.2.2 (by simp [FNd.len] at hi; omega)
      exact ⟨y, kk, b', by simpa using e1, e2, e3, by simp [FNd.flat]; omega, fun op => e5 op⟩
theorem foldl_take_succ {l : List Nat} {i d : Nat} (h : l[i]? = some d) : (l.take (i + 1)).foldl max 0 = max ((l.take i).foldl max 0) d := by
  rw [List.take_add_one, h, List.foldl_append]
  rfl
theorem FAtNd.below' {w w' : World} {K : Nat → Prop} {G : FNd} {ps : List Value} (h : FAtNd w K G ps) (hb : Below w.heap.size w w') : FAtNd w' K G ps := h.below hb
set_option maxRecDepth 100000 in
set_option maxHeartbeats 2000000 in
theorem depth_aux : ∀ (N : Nat) (x : Nd) (kids : FNd), kids.flat.length < N → kids.flat.length ≤ 1048576 → ∀ (b : Nat) (w : World) (K : Nat → Prop), (FNd.cons x kids .nil).ok → FAtNd w K (.cons x kids .nil) [.pointer (some ⟨b, 0, none⟩)] →
    Calls Tryz.prog 77 #[.pointer (some ⟨b, 0, none⟩)] w fun e w' => e = .returned (.int .i64 (opD x (kids.fold opD) : Nat)) ∧ Below w.heap.size w w' := by
  intro N
  induction N with
  | zero => intro x kids h; exact absurd h (by omega)
  | succ N ihN => ?_
  intro x kids hNk hM b w K hok hF
  have IH := Lib.hid ihN
  clear ihN
  obtain ⟨b', qs, v, ps', e, h1, h2, h3, h4, ⟨a, cap, rfl, h5, h6, h7⟩, h8, h9⟩ := hF
  cases e
  have c0 : w.cell? ⟨b, 0, none⟩ = some (.int .i64 x.kind) := h3 0 (by decide)
  have c1 : w.cell? ⟨b, 1, none⟩ = some (.int .i64 x.var) := h3 1 (by decide)
  have c2 : w.cell? ⟨b, 2, none⟩ = some (.string x.lab) := h3 2 (by decide)
  have c3 : w.cell? ⟨b, 3, none⟩ = some (.bool x.neg) := h3 3 (by decide)
  have hql := h8.len
  obtain ⟨n, hn⟩ : ∃ n, n = qs.length := ⟨_, rfl⟩
  rw [← hn] at h4 h5 h7
  have Hn := Lib.hid hn
  have Hok := Lib.hid hok.2.1
  have H8 := Lib.hid h8
  have Hql := Lib.hid hql
  have HB := Lib.hid (foldD_le kids)
  have HNk := Lib.hid hNk
  have HM := Lib.hid hM
  clear h3 h9 hok h8 hql hn hNk hM
  unfold maxLen at h6
  go_enter Tryz.func77, Tryz.ntmps77
  go_wp2_with fail
  go_loopw [3, 11] (fun so si wr => ∃ k : Nat, k ≤ n ∧ si = .int .i64 k ∧ so = .int .i64 (((kids.fold opD).take k).foldl max 0 : Nat) ∧ Below w.heap.size w wr) (fun _ si _ => n - (intOf si).toNat)
  case atStart => exact ⟨0, Nat.zero_le _, rfl, rfl, Below.refl _ _⟩
  case round =>
    obtain ⟨k, hk, rfl, rfl, hbl⟩ := hrel
    by_cases hlt : k < n
    · obtain ⟨y, kk, b1, e1, e2, e3, e4, e5⟩ := H8.out.nth Hok.out (i := k) (by rw [← Hql.out, ← Hn.out]; exact hlt)
      obtain ⟨b2, o2, rfl, k2, hb2, hc2⟩ := h7 (by omega)
      have g1 : wr.cell? ⟨b2, o2 + k, none⟩ = some (.pointer (some ⟨b1, 0, none⟩)) := (hbl.cell (by exact hb2)).trans (by rw [hc2 k hlt, List.getD_eq_getElem?_getD, e1]; rfl)
      have hd := e5 opD
      obtain ⟨d, hde⟩ : ∃ d, d = opD y (kk.fold opD) := ⟨_, rfl⟩
      rw [← hde] at hd
      have hm1 := foldl_take_succ hd
      have hdl : d ≤ kids.flat.length := HB.out d (List.mem_of_getElem? hd)
      have hml : ((kids.fold opD).take k).foldl max 0 ≤ kids.flat.length := foldl_max_le _ _ (Nat.zero_le _) fun d hd => HB.out d (List.mem_of_mem_take hd)
      obtain ⟨M, hM⟩ : ∃ M, M = ((kids.fold opD).take k).foldl max 0 := ⟨_, rfl⟩
      rw [← hM] at hm1 hml ⊢
      have HM1 := Lib.hid hm1
      have hC := IH.out y kk (by have := HNk.out; omega) (by have := HM.out; omega) b1 wr K e3 (e2.below' hbl)
      rw [← hde] at hC
      have HC := Lib.hid hC
      clear e1 e2 e3 e4 e5 hc2 hd hde hM hm1 hC
      go_wp2_with fail
      refine HC.out.mono ?_
      rintro e w1 ⟨rfl, hb1⟩
      have hbl2 := below_trans' hbl hb1
      go_wp2_with fail
      go_roundw
      case rel => exact ⟨k + 1, by omega, by go_num, by rw [HM1.out]; go_num, hbl2⟩
      case measure => simp [intOf]; omega
    · obtain rfl : k = n := by omega
      have hfl : (kids.fold opD).take k = kids.fold opD := List.take_of_length_le (by rw [FNd.fold_len, ← Hql.out, ← Hn.out]; exact Nat.le_refl _)
      rw [hfl]
      have hml : (kids.fold opD).foldl max 0 ≤ kids.flat.length := foldl_max_le _ _ (Nat.zero_le _) HB.out
      obtain ⟨M, hM⟩ : ∃ M, M = (kids.fold opD).foldl max 0 := ⟨_, rfl⟩
      have hD : Hid (opD x (kids.fold opD) = M + (if isModal x.kind then 1 else 0)) := Lib.hid (by rw [opD, hM])
      rw [← hM] at hml ⊢
      have hM2 : M ≤ 1048576 := Nat.le_trans hml HM.out
      have d0 := (hbl.cell (by exact h2)).trans c0
      have d1 := (hbl.cell (by exact h2)).trans c1
      have d2 := (hbl.cell (by exact h2)).trans c2
      have d3 := (hbl.cell (by exact h2)).trans c3
      clear hfl hM c0 c1 c2 c3 h4 h7
      cases hmo : isModal x.kind with
      | true =>
        rw [hmo] at hD
        have hD2 : Hid (opD x (kids.fold opD) = M + 1) := hD
        go_wp2_with fail
        refine (isModality_any x.kind _ _ _ _).mono ?_
        rw [hmo]
        rintro e w1 ⟨rfl, hb1⟩
        have hbl2 := below_trans' hbl hb1
        go_wp2_with fail
        go_ret
        exact ⟨by rw [hD2.out]; go_num, hbl2⟩
      | false =>
        rw [hmo] at hD
        have hD2 : Hid (opD x (kids.fold opD) = M) := hD
        go_wp2_with fail
        refine (isModality_any x.kind _ _ _ _).mono ?_
        rw [hmo]
        rintro e w1 ⟨rfl, hb1⟩
        have hbl2 := below_trans' hbl hb1
        go_wp2_with fail
        go_ret
        exact ⟨by rw [hD2.out]; rfl, hbl2⟩
def nv (d : Nat) : Value := .int .i64 (d : Int)
def depE (f : List Nd) : Nat := if validM f = true then ((FNd.build f).fold opD).getD 0 0 else 0
def depC (f : List Nd) : Int := if validM f = true then 0 else 1
theorem validM_shape {f : List Nd} (h : validM f = true) : (∀ i, i < f.length → needN f i ≠ 0) ∧ needN f f.length = 0 := by
  unfold validM shapeN at h
  simp only [Bool.and_eq_true, decide_eq_true_eq] at h
  exact h.1.2
theorem validM_five {f : List Nd} (h : validM f = true) (i : Nat) (hi : i < f.length) : inR (ndnth f i).kind 0 5 = true := by
  unfold validM at h
  simp only [Bool.and_eq_true, decide_eq_true_eq] at h
  have := h.2 i hi
  unfold nodeM at this
  simp only [Bool.and_eq_true] at this
  exact this.1.1
theorem validM_step {β : Type} (op : Nd → List β → β) {f : List Nd} (h : validM f = true) {i : Nat} (hi : i < f.length) :
    (FNd.build (f.drop i)).fold op = op (ndnth f i) (((FNd.build (f.drop (i + 1))).fold op).take (arity (ndnth f i).kind).toNat) :: ((FNd.build (f.drop (i + 1))).fold op).drop (arity (ndnth f i).kind).toNat
    ∧ (arity (ndnth f i).kind).toNat ≤ ((FNd.build (f.drop (i + 1))).fold op).length := by
  obtain ⟨hs1, hs2⟩ := validM_shape h
  obtain ⟨_, e2⟩ := FNd.suffix hs1 hs2 i (by omega)
  rw [List.drop_eq_getElem_cons hi, ← ndnth_eq f i hi] at e2 ⊢
  obtain ⟨G, hG⟩ : ∃ G, G = FNd.build (f.drop (i + 1)) := ⟨_, rfl⟩
  have hB : FNd.build (ndnth f i :: f.drop (i + 1)) = .cons (ndnth f i) (.tak (arity (ndnth f i).kind).toNat G) (.drp (arity (ndnth f i).kind).toNat G) := by rw [hG]; rfl
  rw [hB] at e2 ⊢
  rw [← hG, FNd.fold_len]
  have e3 := e2.1
  rw [(FNd.len_parts _ G).1] at e3
  have := arity_bd (ndnth f i).kind
  refine ⟨?_, by omega⟩
  show op _ _ :: _ = _
  rw [(FNd.fold_parts op _ G).1, (FNd.fold_parts op _ G).2]
theorem ownsRow_cut {w : World} {base e g n cap : Nat} {xs : List Value} (h : w.ownsRow base e 1 (.slice (some ⟨g, 0, none⟩) n cap) n xs) {k : Nat} (hk : k ≤ n) : w.ownsRow base e 1 (.slice (some ⟨g, 0, none⟩) k cap) k (xs.take k) := by
  obtain ⟨h1, h2⟩ := h
  rcases h2 with ⟨h2, _⟩ | ⟨g', cap', cur, e', hg, hh, hn, hm, hs, ht⟩
  · cases h2
  · cases e'
    refine ⟨by rw [List.length_take]; omega, Or.inr ⟨g, cap, cur, rfl, hg, hh, by omega, hm, hs, ?_⟩⟩
    rw [← ht, List.take_take]
    congr 1
    omega
theorem owned_at {w : World} {B T sz : Nat} {a : Option Addr} {n cap : Nat} {xs : List Value} (h : w.ownsRow B T sz (.slice a n cap) n xs) (hn : 0 < n) : ∃ g, a = some ⟨g, 0, none⟩ ∧ B ≤ g ∧ n ≤ cap := by
  rcases h.2 with ⟨h2, _⟩ | ⟨g', cap', cur, e', hg, hh, hn', hm, hs, ht⟩
  · cases h2; omega
  · cases e'; exact ⟨g', rfl, hg, hn'⟩
theorem l00MaxN_any (a b : Nat) (w : World) : Calls Tryz.prog 87 #[.int .i64 (a : Int), .int .i64 (b : Int)] w fun e w' => e = .returned (.int .i64 ((max a b : Nat) : Int)) ∧ w = w' := by
  by_cases h : b < a
  · have e : Hid (max a b = a) := Lib.hid (by omega)
    go_enter Tryz.func87, Tryz.ntmps87
    go_wp2_with fail
    go_ret
    exact ⟨by rw [e.out]; rfl, rfl⟩
  · have e : Hid (max a b = b) := Lib.hid (by omega)
    go_enter Tryz.func87, Tryz.ntmps87
    go_wp2_with fail
    go_ret
    exact ⟨by rw [e.out]; rfl, rfl⟩
theorem l00MaxN_b (a b x : Nat) (w : World) (n : Nat) (hx : x = max a b) : Calls Tryz.prog 87 #[.int .i64 (a : Int), .int .i64 (b : Int)] (w.drewN n) fun e w' => e = .returned (.int .i64 (x : Int)) ∧ w' = w.drewN n :=
  (l00MaxN_any a b (w.drewN n)).mono fun e w' q => ⟨by rw [hx]; exact q.1, q.2.symm⟩
theorem opD_zero {Y : Nd} {kd : Int} (hk : kd = Y.kind) (h : kd = 0 ∨ kd = 1) : opD Y [] = 0 := by
  unfold opD isModal
  rw [← hk]
  rcases h with rfl | rfl <;> rfl
theorem opD_one {Y : Nd} {kd : Int} (hk : kd = Y.kind) (h : kd = 4 ∨ kd = 5) (u : Nat) : opD Y [u] = u + 1 := by
  unfold opD isModal
  rw [← hk]
  rcases h with rfl | rfl <;> simp
theorem opD_two {Y : Nd} {kd : Int} (hk : kd = Y.kind) (h : kd = 2 ∨ kd = 3) (u v : Nat) : opD Y [u, v] = max u v := by
  unfold opD isModal
  rw [← hk]
  rcases h with rfl | rfl <;> simp
set_option maxRecDepth 100000 in
set_option maxHeartbeats 2000000 in
theorem l14Depth_any (v : Value) (f : List Nd) (w : World) (hn : f.length ≤ 1048576) (hvm : validM f = true) (hv : RdNd w v f) :
    Calls Tryz.prog 75 #[v] w fun e w' => e = .returned (.int .i64 (((FNd.build f).fold opD).getD 0 0 : Nat)) ∧ Below w.heap.size w w' := by
  have HV := Lib.hid hv
  obtain ⟨a, cap, rfl⟩ := hv.slice
  obtain ⟨n, hxn⟩ : ∃ n, n = f.length := ⟨_, rfl⟩
  rw [← hxn] at HV hn ⊢
  have Hxn := Lib.hid hxn
  clear hxn hv
  obtain ⟨i0, hi, hz0, hz1, hz2⟩ := info_parts infoI64
  have HVM := Lib.hid hvm
  clear hvm
  go_enter Tryz.func75, Tryz.ntmps75
  go_wp2_with fail
  go_loopw [3, 4] (fun st si wr => ∃ (j m : Nat) (l : List Nat), j ≤ n ∧ si = .int .i64 ((j : Int) - 1) ∧ Hid (l = (FNd.build (f.drop j)).fold opD) ∧ Hid (m = l.length) ∧ m ≤ 1048576 ∧ Hid (wr.ownsRow w.heap.size 2 1 st m (l.reverse.map nv)) ∧ Below w.heap.size w wr)
    (fun _ si _ => (intOf si + 1).toNat)
  case atStart => exact ⟨n, 0, [], Nat.le_refl _, rfl, Lib.hid (by rw [Hxn.out, List.drop_length]; rfl), Lib.hid rfl, by omega, Lib.hid (nil_owned _ _ (Nat.le_refl _)), (Below.refl _ _).alloc (Nat.le_refl _) _⟩
  case round =>
    obtain ⟨j, m, l, hj, rfl, HL, HM, hm2, HO, hbl⟩ := hrel
    obtain ⟨ast, cst, rfl⟩ := owned_slice HO.out
    by_cases hj0 : 0 < j
    · obtain ⟨i, rfl⟩ : ∃ i, j = i + 1 := ⟨j - 1, by omega⟩
      have hi1 : (((i + 1 : Nat) : Int) - 1) = (i : Int) := by omega
      rw [hi1]
      have hkf : i < f.length := by rw [← Hxn.out]; omega
      obtain ⟨b, o, rfl, hb, g0, _, _, _⟩ := RdNd.cells HV.out hkf
      have q0 := (hbl.cell (by exact hb)).trans g0
      have hkd := validM_five HVM.out i hkf
      obtain ⟨hst1, hst2⟩ := validM_step opD HVM.out hkf
      have hml : m ≤ n - (i + 1) := by
        have h1 := FNd.len_le_flat (FNd.build (f.drop (i + 1)))
        rw [FNd.flat_build, List.length_drop, ← FNd.fold_len opD, ← HL.out, ← HM.out, ← Hxn.out] at h1
        exact h1
      have hdl : Hid (∀ d ∈ l, d ≤ 1048576) := Lib.hid (by
        intro d hd
        rw [HL.out] at hd
        have h1 := foldD_le _ d hd
        rw [FNd.flat_build, List.length_drop, ← Hxn.out] at h1
        omega)
      rw [← HL.out] at hst1 hst2
      obtain ⟨Y, hY⟩ : ∃ Y, Y = ndnth f i := ⟨_, rfl⟩
      rw [← hY] at q0 hkd hst1 hst2
      obtain ⟨kd, hk⟩ : ∃ kd, kd = Y.kind := ⟨_, rfl⟩
      rw [← hk] at q0 hkd hst1 hst2
      have h8 : inR kd 0 8 = true := by have := inR_true hkd; exact inR_mk (by omega) (by omega)
      have hkr := inR_true hkd
      have hin : i < n := by omega
      have hwl := hbl.size
      have Hk := Lib.hid hk
      have H8 := Lib.hid h8
      clear hY g0 hkd hi1 h8 hk
      have hc : (kd = 0 ∨ kd = 1) ∨ (kd = 4 ∨ kd = 5) ∨ (kd = 2 ∨ kd = 3) := by omega
      clear hkr
      rcases hc with hc | hc | hc
      · have har : arity kd = 0 := by rcases hc with rfl | rfl <;> rfl
        have HL2 : Hid (0 :: l = (FNd.build (f.drop i)).fold opD) := Lib.hid (by rw [hst1, har]; show _ = opD Y [] :: l; rw [opD_zero Hk.out hc])
        have HAr := Lib.hid har
        have HS := HO
        have Hq := HM
        have HLt := Lib.hid (fun j hj => (HO.out.lt j hj).1)
        clear hst1 hst2 har hc HO HL HM
        go_wp2_with fail
        refine (l14Arity_any kd _ H8.out).mono ?_
        rw [HAr.out]
        rintro e w' ⟨rfl, rfl⟩
        go_wp2_with (at_builtin; refine wpList_append_own_at _ rfl _ _ 84 rfl w.heap.size 2 i0 (.int .i64 0) 1 8 Tryz.underlying84 hi hz0 hz1 hz2 rfl (by decide) _ m _ rfl (HS.out.alloc _) ⟨wr.heap.size, 0, none⟩ 1 1 [.int .i64 0] rfl rfl (new_cell _ _ _ _ rfl) (by simp [Value.oneCell']) ?c2 ?c3 ?c4 ?_)
        case c2 => unfold maxLen; omega
        case c3 => omega
        case c4 => simp; omega
        intro v' w3 hown' hgrow hnil hloc
        have HO3 : Hid (w3.ownsRow w.heap.size 2 1 v' (m + 1) ((0 :: l).reverse.map nv)) := Lib.hid (by
          rw [List.reverse_cons, List.map_append, List.map_reverse]; exact hown')
        have hbl3 : Below w.heap.size w w3 := (hbl.alloc hwl _).grown hgrow (by simp; omega) HLt.out
        have HM3 : Hid (m + 1 = (0 :: l).length) := Lib.hid (by rw [List.length_cons, ← Hq.out])
        clear hown' hgrow hnil hloc HS
        obtain ⟨ast', cst', rfl⟩ := owned_slice HO3.out
        go_wp2_with fail
        go_roundw
        case rel => exact ⟨i, m + 1, 0 :: l, by omega, rfl, HL2, HM3, by omega, HO3, hbl3⟩
        case measure => simp [intOf] <;> omega
      · have har : arity kd = 1 := by rcases hc with rfl | rfl <;> rfl
        rw [har] at hst1 hst2
        obtain ⟨u, l0, rfl⟩ : ∃ u l0, l = u :: l0 := by
          match l, hst2 with
          | u :: l0, _ => exact ⟨u, l0, rfl⟩
        obtain ⟨q, hq⟩ : ∃ q, q = l0.length := ⟨_, rfl⟩
        obtain rfl : m = q + 1 := by have := HM.out; simp only [List.length_cons] at this; omega
        have hu : u ≤ 1048576 := hdl.out u (List.mem_cons_self ..)
        have hrl : (l0.reverse.map nv).length = q := by simp [hq]
        have hown := HO.out
        rw [show (u :: l0).reverse.map nv = l0.reverse.map nv ++ [nv u] by simp] at hown
        obtain ⟨g, rfl, hg, hcap⟩ := owned_at hown (by omega)
        have t0 : wr.cell? ⟨g, q, none⟩ = some (.int .i64 (u : Int)) := (hown.cellAt q (by omega)).trans (show _ = some (nv u) by rw [List.getElem?_append_right (by omega), hrl]; simp)
        have hfz := hown.frozenAt q
        have hs1 := (hown.stored q (.int .i64 ((u : Int) + 1))).1
        have HO3 : Hid ((wr.setCell ⟨g, q, none⟩ (.int .i64 ((u : Int) + 1))).ownsRow w.heap.size 2 1 (.slice (some ⟨g, 0, none⟩) (q + 1) cst) (q + 1) (((u + 1) :: l0).reverse.map nv)) := Lib.hid (by
          rw [show ((u + 1) :: l0).reverse.map nv = l0.reverse.map nv ++ [.int .i64 ((u : Int) + 1)] by simp [nv]]
          rw [List.set_append_right _ _ (by omega), hrl, Nat.sub_self] at hs1
          exact hs1)
        have HL2 : Hid ((u + 1) :: l0 = (FNd.build (f.drop i)).fold opD) := Lib.hid (by rw [hst1]; show _ = opD Y [u] :: l0; rw [opD_one Hk.out hc])
        have HM3 : Hid (q + 1 = ((u + 1) :: l0).length) := Lib.hid (by rw [List.length_cons, ← hq])
        have hb3 : Below w.heap.size w (wr.setCell ⟨g, q, none⟩ (.int .i64 ((u : Int) + 1))) := hbl.setCell hg _
        have hi1 : ((q + 1 : Nat) : Int) - 1 = (q : Int) := by omega
        have HAr := Lib.hid har
        clear hst1 hst2 hrl hown HO HL HM hq hs1 har hc
        go_wp2_with fail
        refine (l14Arity_any kd _ H8.out).mono ?_
        rw [HAr.out]
        rintro e w' ⟨rfl, rfl⟩
        go_wp2_with fail
        go_roundw
        case rel => exact ⟨i, q + 1, (u + 1) :: l0, by omega, rfl, HL2, HM3, by omega, HO3, hb3⟩
        case measure => simp [intOf] <;> omega
      · have har : arity kd = 2 := by rcases hc with rfl | rfl <;> rfl
        rw [har] at hst1 hst2
        obtain ⟨u, v, l0, rfl⟩ : ∃ u v l0, l = u :: v :: l0 := by
          match l, hst2 with
          | u :: v :: l0, _ => exact ⟨u, v, l0, rfl⟩
        obtain ⟨q, hq⟩ : ∃ q, q = l0.length := ⟨_, rfl⟩
        obtain ⟨p, hp⟩ : ∃ p, p = q + 1 := ⟨_, rfl⟩
        have hmp : m = p + 1 := by have := HM.out; simp only [List.length_cons] at this; omega
        have hrl : (l0.reverse.map nv).length = q := by simp [hq]
        have hown := HO.out
        rw [show (u :: v :: l0).reverse.map nv = l0.reverse.map nv ++ [nv v, nv u] by simp] at hown
        obtain ⟨g, rfl, hg, hcap⟩ := owned_at hown (by omega)
        have t0 : wr.cell? ⟨g, p, none⟩ = some (.int .i64 (u : Int)) := (hown.cellAt p (by omega)).trans (show _ = some (nv u) by rw [List.getElem?_append_right (by omega), hrl, hp]; simp)
        have t1 : wr.cell? ⟨g, q, none⟩ = some (.int .i64 (v : Int)) := (hown.cellAt q (by omega)).trans (show _ = some (nv v) by rw [List.getElem?_append_right (by omega), hrl]; simp)
        have HS := ownsRow_cut hown (k := q) (by omega)
        rw [List.take_append_of_le_length (by omega), List.take_of_length_le (by omega)] at HS
        obtain ⟨x, hx⟩ : ∃ x, x = max u v := ⟨_, rfl⟩
        have HL2 : Hid (x :: l0 = (FNd.build (f.drop i)).fold opD) := Lib.hid (by rw [hst1]; show _ = opD Y [u, v] :: l0; rw [opD_two Hk.out hc, hx])
        have Hq := Lib.hid hq
        have HAr := Lib.hid har
        have HX := Lib.hid hx
        have hi1 : (m : Int) - 1 = (p : Int) := by omega
        have hwq : IntKind.i64.wrap (q : Int) = (q : Int) := by rw [IntKind.wrap_i64]; omega
        have hpm : p < m := by omega
        have hqm : q < m := by omega
        have hq1 : q + 1 ≤ 1048576 := by omega
        have hpq : (p : Int) - 1 = (q : Int) := by omega
        have hp1 : 1 ≤ p := by omega
        have hqp : q < p := by omega
        have HLt := Lib.hid (fun j hj => by exact (HS.lt j hj).1)
        have HS := Lib.hid HS
        clear hst1 hst2 hrl hown HO HL HM hq har hc hx hp hmp
        go_wp2_with fail
        refine (l14Arity_any kd _ H8.out).mono ?_
        rw [HAr.out]
        rintro e w' ⟨rfl, rfl⟩
        go_wp2_with fail
        go_quiet ((go_at_call 87; exact Calls.quiet_of_same (l00MaxN_b u v x wr _ HX.out)))
        rename_i nq
        obtain ⟨wq, hwq'⟩ : ∃ wq, wq = wr.drewN nq := ⟨_, rfl⟩
        have HSq : Hid (wq.ownsRow w.heap.size 2 1 (.slice (some ⟨g, 0, none⟩) q cst) q (l0.reverse.map nv)) := by rw [hwq']; exact Lib.hid HS.out
        have hblq : Below w.heap.size w wq := by rw [hwq']; exact hbl.trans ⟨rfl, rfl, rfl, Nat.le_refl _, fun _ _ => rfl⟩
        have hwlq := hblq.size
        rw [← hwq']
        clear hwq' hbl
        go_wp2_with (at_builtin; refine wpList_append_own_at _ rfl _ _ 84 rfl w.heap.size 2 i0 (.int .i64 0) 1 8 Tryz.underlying84 hi hz0 hz1 hz2 rfl (by decide) _ q _ rfl (HSq.out.alloc _) ⟨wq.heap.size, 0, none⟩ 1 1 [.int .i64 (x : Int)] rfl rfl (new_cell _ _ _ _ rfl) (by simp [Value.oneCell']) ?c2 ?c3 ?c4 ?_)
        case c2 => unfold maxLen; omega
        case c3 => omega
        case c4 => simp; omega
        intro v' w3 hown' hgrow hnil hloc
        have HO3 : Hid (w3.ownsRow w.heap.size 2 1 v' (q + 1) ((x :: l0).reverse.map nv)) := Lib.hid (by
          rw [List.reverse_cons, List.map_append, List.map_reverse]; simpa [nv] using hown')
        have hbl3 : Below w.heap.size w w3 := (hblq.alloc hwlq _).grown hgrow (by simp; omega) HLt.out
        have HM3 : Hid (q + 1 = (x :: l0).length) := Lib.hid (by rw [List.length_cons, ← Hq.out])
        clear hown' hgrow hnil hloc HS HSq
        obtain ⟨ast', cst', rfl⟩ := owned_slice HO3.out
        go_wp2_with fail
        go_roundw
        case rel => exact ⟨i, q + 1, x :: l0, by omega, rfl, HL2, HM3, by omega, HO3, hbl3⟩
        case measure => simp [intOf] <;> omega
    · obtain rfl : j = 0 := by omega
      obtain ⟨hs1, hs2⟩ := validM_shape HVM.out
      obtain ⟨x, kids, hB, hok, hf⟩ := FNd.one hs1 hs2
      have hl := HL.out
      rw [List.drop_zero, hB] at hl
      obtain ⟨y, hy⟩ : ∃ y, y = opD x (kids.fold opD) := ⟨_, rfl⟩
      have hR : Hid (((FNd.build f).fold opD).getD 0 0 = y) := Lib.hid (by rw [hB, hy]; rfl)
      obtain rfl : l = [y] := by rw [hl, hy]; rfl
      obtain rfl : m = 1 := HM.out
      obtain ⟨g, rfl, hg, hcap⟩ := owned_at HO.out (by omega)
      have t0 : wr.cell? ⟨g, 0, none⟩ = some (.int .i64 (y : Int)) := (HO.out.cellAt 0 (by omega)).trans (show _ = some (nv y) by simp)
      clear hl hy hB hok hf hs1 hs2 HL HM HO
      go_wp2_with fail
      go_ret
      exact ⟨by rw [hR.out]; rfl, hbl⟩
theorem ModalDepth_any (v : Value) (f : List Nd) (w : World) (hn : f.length ≤ 1048576) (hls : ∀ i, i < f.length → (ndnth f i).lab.size ≤ 1048576) (hT : Env w) (hv : RdNd w v f) :
    Calls Tryz.prog 32 #[v] w fun e w' => e = .returned (.tuple #[.int .i64 (depE f : Nat), .int .i64 (depC f)]) ∧ Below w.heap.size w w' := by
  have HV := Lib.hid hv
  obtain ⟨a, cap, rfl⟩ := hv.slice
  clear hv
  cases hvm : validM f with
  | false =>
    have hM : Hid (depE f = 0) := Lib.hid (by unfold depE; rw [hvm]; rfl)
    have hC : Hid (depC f = 1) := Lib.hid (by unfold depC; rw [hvm]; rfl)
    rw [hM.out, hC.out]
    go_enter Tryz.func32, Tryz.ntmps32
    go_wp2_with fail
    refine (ValidModal_any _ f _ hn hls hT HV.out).mono ?_
    rw [hvm]
    rintro e w1 ⟨rfl, hb1⟩
    go_wp2_with fail
    go_ret2
    exact ⟨rfl, hb1⟩
  | true =>
    obtain ⟨hs1, hs2⟩ := validM_shape hvm
    obtain ⟨x, kids, hB, hok, hf⟩ := FNd.one hs1 hs2
    have hM : Hid (depE f = opD x (kids.fold opD)) := Lib.hid (by unfold depE; rw [hvm, if_pos rfl, hB]; rfl)
    have hC : Hid (depC f = 0) := Lib.hid (by unfold depC; rw [hvm]; rfl)
    rw [hM.out, hC.out]
    have Hok := Lib.hid hok
    have Hf := Lib.hid hf
    obtain ⟨L, hL⟩ : ∃ L, L = f.length := ⟨_, rfl⟩
    have hkl : Hid (kids.flat.length ≤ 1048576) := Lib.hid (by rw [hf] at hn; simp at hn; omega)
    rw [← hL] at HV ⊢
    have hL1 := Lib.hid hL
    clear hs1 hs2 hB hok hf hL
    go_enter Tryz.func32, Tryz.ntmps32
    go_wp2_with fail
    refine (ValidModal_any _ f _ hn hls hT HV.out).mono ?_
    rw [hvm]
    rintro e w1 ⟨rfl, hb1⟩
    go_wp2_with fail
    refine (formulaOf_any x kids _ _ Hok.out (by rw [← Hf.out]; exact hn) (by rw [← Hf.out]; exact HV.out.below hb1)).mono ?_
    rintro e w2 ⟨b, rfl, hF, hb2⟩
    have HF := Lib.hid hF
    have hbl := below_trans' hb1 hb2
    clear hF
    go_wp2_with fail
    refine (depth_aux (kids.flat.length + 1) x kids (Nat.lt_succ_self _) hkl.out b _ _ Hok.out HF.out).mono ?_
    rintro e w3 ⟨rfl, hb3⟩
    go_wp2_with fail
    go_ret2
    exact ⟨rfl, below_trans' hbl hb3⟩
theorem spec_ModalDepth_any (v : Value) (f : List Nd) (w : World) (hn : f.length ≤ 1048576) (hls : ∀ i, i < f.length → (ndnth f i).lab.size ≤ 1048576) (hv : RdNd w v f) :
    Calls Tryz.prog 31 #[v] w fun e w' => e = .returned (.tuple #[.int .i64 (depE f : Nat), .int .i64 (depC f)]) ∧ Below w.heap.size w w' := by
  have HV := Lib.hid hv
  obtain ⟨a, cap, rfl⟩ := hv.slice
  clear hv
  cases hvm : validM f with
  | false =>
    have hM : Hid (depE f = 0) := Lib.hid (by unfold depE; rw [hvm]; rfl)
    have hC : Hid (depC f = 1) := Lib.hid (by unfold depC; rw [hvm]; rfl)
    rw [hM.out, hC.out]
    go_enter Tryz.func31, Tryz.ntmps31
    go_wp2_with fail
    refine (l14Is_any _ f _ hn hls HV.out).mono ?_
    rw [hvm]
    rintro e w1 ⟨rfl, hb1⟩
    go_wp2_with fail
    go_ret2
    exact ⟨rfl, hb1⟩
  | true =>
    have hM : Hid (depE f = ((FNd.build f).fold opD).getD 0 0) := Lib.hid (by unfold depE; rw [hvm, if_pos rfl])
    have hC : Hid (depC f = 0) := Lib.hid (by unfold depC; rw [hvm]; rfl)
    rw [hM.out, hC.out]
    go_enter Tryz.func31, Tryz.ntmps31
    go_wp2_with fail
    refine (l14Is_any _ f _ hn hls HV.out).mono ?_
    rw [hvm]
    rintro e w1 ⟨rfl, hb1⟩
    go_wp2_with fail
    refine (l14Depth_any _ f _ hn hvm (HV.out.below hb1)).mono ?_
    rintro e w2 ⟨rfl, hb2⟩
    go_wp2_with fail
    go_ret2
    exact ⟨rfl, below_trans' hb1 hb2⟩
end Go.Proofs.YtmaadfoiaegdjaaGreatDoor
