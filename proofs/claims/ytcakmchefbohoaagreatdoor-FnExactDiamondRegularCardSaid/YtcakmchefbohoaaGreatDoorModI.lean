/- Contracts: the replacement of a regular modality, by the program: what it keeps; full; a test. -/
import Derived.Test.YtcakmchefbohoaaGreatDoorProg
import Derived.Test.YtcakmchefbohoaaGreatDoorMem
import Derived.Test.YtcakmchefbohoaaGreatDoorMath
import Derived.Test.YtcakmchefbohoaaGreatDoorBasics
import Derived.Test.YtcakmchefbohoaaGreatDoorOpenI
import Derived.Test.YtcakmchefbohoaaGreatDoorHelpI
import Derived.Test.YtcakmchefbohoaaGreatDoorGrid
import Derived.Test.YtcakmchefbohoaaGreatDoorLab
import Derived.Test.YtcakmchefbohoaaGreatDoorDec
import Derived.Test.YtcakmchefbohoaaGreatDoorEnv
import Derived.Test.YtcakmchefbohoaaGreatDoorNode
import Derived.Test.YtcakmchefbohoaaGreatDoorNodeW
import Derived.Test.YtcakmchefbohoaaGreatDoorReg
import Derived.Test.YtcakmchefbohoaaGreatDoorVReg
import Derived.Test.YtcakmchefbohoaaGreatDoorTreeR
import Derived.Test.YtcakmchefbohoaaGreatDoorConc
import Derived.Test.YtcakmchefbohoaaGreatDoorNds
import Derived.Test.YtcakmchefbohoaaGreatDoorInst
import Derived.Test.YtcakmchefbohoaaGreatDoorEmp
import Derived.Test.YtcakmchefbohoaaGreatDoorModP
import Derived.Test.YtcakmchefbohoaaGreatDoorModE
import Derived.Test.YtcakmchefbohoaaGreatDoorModJ
import Derived.Test.YtcakmchefbohoaaGreatDoorModB
import Derived.WalkKit
import Derived.BigQuiet
import Derived.BigRegion
import Derived.Deep.QuietTactic
import Derived.Deep.RegionHeld3
import Derived.Deep.RegionLaw
import Derived.Deep.AppendLies
import Derived.Maps.AppendAt
import Derived.Laws.OwnMore
import Derived.Lib.SliceRun
import Derived.Lib.Hide
import Derived.Outline
set_option linter.unusedVariables false
set_option linter.unusedSimpArgs false
namespace Go.Proofs.YtcakmchefbohoaaGreatDoor
open Go.RowKit

def OfPost (box : Bool) (R : Option (List Nd)) (B X d : Nat) (uv : Value) (w : World) (e : Ending) (w' : World) : Prop := ∃ u uv' l, e = .returned u ∧ NdK w' (fun c => w.heap.size ≤ c ∧ uv'.ownBlock ≠ some c) u l ∧ OwNd w' w.heap.size u l ∧ l.length ≤ B ∧
  (∀ y, R = some y → l = y) ∧ Rp w' X box uv' d R.isNone ∧ Exc (KX X uv) w w' ∧ (∀ c, uv'.ownBlock = some c → uv.ownBlock = some c ∨ w.heap.size ≤ c)
def Of0 (box : Bool) (x : Rg) (k : FRg) : Prop := ∀ (b X d : Nat) (vf uv : Value) (f : List Nd) (w : World),
  FAtRg w (KX X uv) (.cons x k .nil) [.pointer (some ⟨b, 0, none⟩)] → NdK w (KX X uv) vf f → 0 < f.length → f.length ≤ 30 → d ≤ 3 → Rp w X box uv d false →
  Calls Tryz.prog 75 #[.pointer (some ⟨X, 0, none⟩), .pointer (some ⟨b, 0, none⟩), vf] w (OfPost box (opMI box x (FRg.fold (opMI box) k) f d) (32 * (1 + k.flat.length)) X d uv w)
def OfA (box : Bool) (x : Rg) (k : FRg) : Prop := ∀ (b X d : Nat) (vf uv : Value) (f : List Nd) (full : Bool) (w : World),
  FAtRg w (KX X uv) (.cons x k .nil) [.pointer (some ⟨b, 0, none⟩)] → NdK w (KX X uv) vf f → (full = false → 0 < f.length) → f.length ≤ 1048576 → d ≤ 3 → Rp w X box uv d full →
  Calls Tryz.prog 75 #[.pointer (some ⟨X, 0, none⟩), .pointer (some ⟨b, 0, none⟩), vf] w (OfPost box (if full = true then none else opMI box x (FRg.fold (opMI box) k) f d) (32 * (1 + k.flat.length)) X d uv w)
theorem ownil (w : World) (B : Nat) : OwNd w B (.slice none 0 0) [] := ⟨none, 0, rfl, Nat.le_refl _, Nat.zero_le _, fun h => absurd h (by simp)⟩
theorem FAtRg.leaf {w : World} {K : Nat → Prop} {x : Rg} {k : FRg} {b : Nat} (h : FAtRg w K (.cons x k .nil) [.pointer (some ⟨b, 0, none⟩)]) :
    K b ∧ b < w.heap.size ∧ w.cell? ⟨b, 0, none⟩ = some (.int .i64 x.kind) ∧ w.cell? ⟨b, 1, none⟩ = some (.string x.lab) ∧ w.cell? ⟨b, 2, none⟩ = some (.bool x.neg) := by
  obtain ⟨b', qs, v, ps', e, h1, h2, h3, _⟩ := h
  cases e
  exact ⟨h1, h2, h3 0 (by decide), h3 1 (by decide), h3 2 (by decide)⟩
theorem FAtRg.kids2 {w : World} {K : Nat → Prop} {x y1 y2 : Rg} {k1 k2 : FRg} {b : Nat} (h : FAtRg w K (.cons x (.cons y1 k1 (.cons y2 k2 .nil)) .nil) [.pointer (some ⟨b, 0, none⟩)]) :
    ∃ b2 o2 cap p1 p2, w.cell? ⟨b, 3, none⟩ = some (.slice (some ⟨b2, o2, none⟩) 2 cap) ∧ 2 ≤ cap ∧ K b2 ∧ b2 < w.heap.size ∧ w.cell? ⟨b2, o2, none⟩ = some (.pointer (some ⟨p1, 0, none⟩)) ∧ w.cell? ⟨b2, o2 + 1, none⟩ = some (.pointer (some ⟨p2, 0, none⟩)) ∧
      FAtRg w K (.cons y1 k1 .nil) [.pointer (some ⟨p1, 0, none⟩)] ∧ FAtRg w K (.cons y2 k2 .nil) [.pointer (some ⟨p2, 0, none⟩)] := by
  obtain ⟨b', qs, v, ps', e, h1, h2, h3, h4, ⟨a, cap, rfl, h5, h6, h7⟩, h8, h9⟩ := h
  cases e
  obtain ⟨q1, qs1, rfl⟩ := h8.cons_ps
  obtain ⟨f1, f2, p1, rfl⟩ := h8.head
  obtain ⟨q2, qs2, rfl⟩ := f2.cons_ps
  obtain ⟨f3, f4, p2, rfl⟩ := f2.head
  obtain rfl : qs2 = [] := f4
  obtain ⟨b2, o2, rfl, g1, g2, g3⟩ := h7 (by simp)
  exact ⟨b2, o2, cap, p1, p2, h4, h5, g1, g2, g3 0 (by simp), g3 1 (by simp), f1, f3⟩
theorem FAtRg.kids1 {w : World} {K : Nat → Prop} {x y1 : Rg} {k1 : FRg} {b : Nat} (h : FAtRg w K (.cons x (.cons y1 k1 .nil) .nil) [.pointer (some ⟨b, 0, none⟩)]) :
    ∃ b2 o2 cap p1, w.cell? ⟨b, 3, none⟩ = some (.slice (some ⟨b2, o2, none⟩) 1 cap) ∧ 1 ≤ cap ∧ K b2 ∧ b2 < w.heap.size ∧ w.cell? ⟨b2, o2, none⟩ = some (.pointer (some ⟨p1, 0, none⟩)) ∧ FAtRg w K (.cons y1 k1 .nil) [.pointer (some ⟨p1, 0, none⟩)] := by
  obtain ⟨b', qs, v, ps', e, h1, h2, h3, h4, ⟨a, cap, rfl, h5, h6, h7⟩, h8, h9⟩ := h
  cases e
  obtain ⟨q1, qs1, rfl⟩ := h8.cons_ps
  obtain ⟨f1, f2, p1, rfl⟩ := h8.head
  obtain rfl : qs1 = [] := f2
  obtain ⟨b2, o2, rfl, g1, g2, g3⟩ := h7 (by simp)
  exact ⟨b2, o2, cap, p1, h4, h5, g1, g2, g3 0 (by simp), f1⟩
theorem repKind_at (b : Nat) (box : Bool) (p q E : Int) (w : World) (hE : (if box = true then q else p) = E) (hb : w.cell? ⟨b, 0, none⟩ = some (.bool box)) :
    Calls Tryz.prog 119 #[.pointer (some ⟨b, 0, none⟩), .int .i64 p, .int .i64 q] w fun e w' => e = .returned (.int .i64 E) ∧ w = w' := by
  subst hE
  exact repKind_any b box p q w hb
theorem drw (w : World) : Below w.heap.size w w.drew := ⟨rfl, rfl, rfl, Nat.le_refl _, fun _ _ => rfl⟩
theorem alc (w : World) (o : Obj) : Below w.heap.size w (w.alloc o) := (Below.refl _ _).alloc (Nat.le_refl _) _
theorem cell_up {w w' : World} {b o : Nat} {v : Value} (h : w.cell? ⟨b, o, none⟩ = some v) (hb : Below w.heap.size w w') : w'.cell? ⟨b, o, none⟩ = some v := (hb.cell (p := ⟨b, o, none⟩) (World.block_lt_of_cell? w ⟨b, o, none⟩ h)).trans h
theorem Exc.cellv {K : Nat → Prop} {w w' : World} (h : Exc K w w') {b o : Nat} {v : Value} (hc : w.cell? ⟨b, o, none⟩ = some v) (hk : K b) : w'.cell? ⟨b, o, none⟩ = some v := (h.cell (World.block_lt_of_cell? w ⟨b, o, none⟩ hc) hk).trans hc
theorem keep3 {w W W' : World} {b1 o1 b2 o2 b3 o3 : Nat} {v1 v2 v3 : Value} (h : Below w.heap.size w W ∧ W.cell? ⟨b1, o1, none⟩ = some v1 ∧ W.cell? ⟨b2, o2, none⟩ = some v2 ∧ W.cell? ⟨b3, o3, none⟩ = some v3) (hb : Below W.heap.size W W') : Below w.heap.size w W' ∧ W'.cell? ⟨b1, o1, none⟩ = some v1 ∧ W'.cell? ⟨b2, o2, none⟩ = some v2 ∧ W'.cell? ⟨b3, o3, none⟩ = some v3 :=
  ⟨below_trans' h.1 hb, cell_up h.2.1 hb, cell_up h.2.2.1 hb, cell_up h.2.2.2 hb⟩
theorem bl3 {w W : World} {b1 o1 b2 o2 b3 o3 : Nat} {v1 v2 v3 : Value} (h : Below w.heap.size w W ∧ W.cell? ⟨b1, o1, none⟩ = some v1 ∧ W.cell? ⟨b2, o2, none⟩ = some v2 ∧ W.cell? ⟨b3, o3, none⟩ = some v3) : Below w.heap.size w W := h.1
theorem keep3g {w W W' : World} {b1 o1 b2 o2 b3 o3 n m c : Nat} {v1 v2 v3 : Value} (h : Below w.heap.size w W ∧ W.cell? ⟨b1, o1, none⟩ = some v1 ∧ W.cell? ⟨b2, o2, none⟩ = some v2 ∧ W.cell? ⟨b3, o3, none⟩ = some v3) (hg : W.grownBy W' (Value.slice (some ⟨n, 0, none⟩) m c).ownBlock) (hn : b1 < n ∧ b2 < n ∧ b3 < n ∧ w.heap.size ≤ n) : Below w.heap.size w W' ∧ W'.cell? ⟨b1, o1, none⟩ = some v1 ∧ W'.cell? ⟨b2, o2, none⟩ = some v2 ∧ W'.cell? ⟨b3, o3, none⟩ = some v3 := by
  have key : ∀ b o v, b < n → W.cell? ⟨b, o, none⟩ = some v → W'.cell? ⟨b, o, none⟩ = some v := fun b o v hb hc =>
    (World.cell?_of_block (a := ⟨b, o, none⟩) (hg.block b (World.block_lt_of_cell? W ⟨b, o, none⟩ hc) (fun e => by have e2 : b = n := Option.some.inj e; omega))).trans hc
  exact ⟨h.1.grown hg h.1.size (fun k hk => by cases hk; exact hn.2.2.2), key _ _ _ hn.1 h.2.1, key _ _ _ hn.2.1 h.2.2.1, key _ _ _ hn.2.2.1 h.2.2.2⟩
theorem lit_row {w : World} {cs : Array Value} {base n T sz m : Nat} {xs : List Value} (hx : cs.toList = xs) (hb : base ≤ n) (hn : n = w.heap.size) (hs : cs.size = m * sz) (hm : m ≤ maxLen) : (w.alloc (.cells cs T)).ownsRow base T sz (.slice (some ⟨n, 0, none⟩) m m) m xs := by
  subst hn
  subst hx
  refine ⟨by rw [Array.length_toList, hs], Or.inr ⟨w.heap.size, m, cs, rfl, hb, heap_alloc_new w _, Nat.le_refl _, hm, hs, ?_⟩⟩
  rw [List.take_of_length_le (by rw [Array.length_toList, hs]; exact Nat.le_refl _)]
/-- A list of the call's own, of a new block. -/
theorem ndk_own {w w0 : World} {X d : Nat} {box fl : Bool} {uv v : Value} {f : List Nd} (hR : Rp w0 X box uv d fl) (h : OwNd w w0.heap.size v f) {B : Nat} (hB : B ≤ w0.heap.size) : NdK w (fun c => B ≤ c ∧ uv.ownBlock ≠ some c) v f :=
  (NdK.of_ow h).mono (Nat.le_refl _) fun c hc _ => ⟨rfl, Nat.le_trans hB hc, fun e => by have := (hR.own.lt c e).2; omega⟩
theorem kx_up {w : World} {X c : Nat} {uv uv' : Value} (h : KX X uv c) (hg : ∀ c, uv'.ownBlock = some c → uv.ownBlock = some c ∨ w.heap.size ≤ c) (hc : c < w.heap.size) : KX X uv' c :=
  ⟨h.1, fun e => by rcases hg c e with h2 | h2; exact h.2 h2; omega⟩
theorem ndk_kx {w w0 : World} {X : Nat} {uv v : Value} {f : List Nd} (hX : X < w0.heap.size) (h : NdK w (fun c => w0.heap.size ≤ c ∧ uv.ownBlock ≠ some c) v f) : NdK w (KX X uv) v f :=
  h.mono (Nat.le_refl _) fun c hc _ => ⟨rfl, by have := hc.1; intro e; omega, hc.2⟩
set_option maxRecDepth 100000 in
set_option maxHeartbeats 1600000 in
theorem of_any (box : Bool) (x : Rg) (k : FRg) (h0 : Of0 box x k) : OfA box x k := by
  intro b X d vf uv f full w hF hN hf0 hf hd hR
  have HRp := Lib.hid hR
  by_cases hfull : full = true ∨ 30 < f.length
  · have hRn : (if full = true then none else opMI box x (FRg.fold (opMI box) k) f d) = none := by
      rcases hfull with h | h
      · rw [if_pos h]
      · split
        · rfl
        · exact opMI_long h d
    rw [hRn]
    obtain ⟨a, cap, rfl, hfc, hcm, _⟩ := hN
    obtain ⟨hX, c0, c1, c2, z1, z2, ho⟩ := hR
    obtain ⟨L, hL⟩ : ∃ L, L = f.length := ⟨_, rfl⟩
    rw [← hL] at hfull hf hfc ⊢
    clear hF c0 c1 z1 ho hRn hf0 hL h0
    cases full with
    | true =>
      go_enter Tryz.func75, Tryz.ntmps75
      go_wp2_with fail
      go_ret
      exact ⟨_, uv, [], rfl, NdK_nil _ _, ownil _ _, Nat.zero_le _, (fun y h => by cases h), HRp.out.setFull true, Exc.setCell (fun h => h.1 rfl), fun c h => Or.inl h⟩
    | false =>
      have h30 : 30 < L := by
        rcases hfull with h | h
        · cases h
        · exact h
      have h30b : decide ((30 : Int) < (L : Int)) = true := decide_eq_true (by omega)
      go_enter Tryz.func75, Tryz.ntmps75
      go_wp2_with fail
      go_ret
      exact ⟨_, uv, [], rfl, NdK_nil _ _, ownil _ _, Nat.zero_le _, (fun y h => by cases h), HRp.out.setFull true, Exc.setCell (fun h => h.1 rfl), fun c h => Or.inl h⟩
  · have hff : full = false := by
      cases full with
      | true => exact absurd (Or.inl rfl) hfull
      | false => rfl
    subst hff
    rw [if_neg (by decide)]
    exact h0 b X d vf uv f w hF hN (hf0 rfl) (by omega) hd hR
set_option maxRecDepth 100000 in
set_option maxHeartbeats 1600000 in
theorem of_test (box : Bool) (x : Rg) (k : FRg) (hk0 : x.kind = 0) : Of0 box x k := by
  intro b X d vf uv f w hF hN hf0 hf hd hR
  obtain ⟨i0, hi, hz0, hz1, hz2⟩ := info_parts infoNd
  have HF := Lib.hid hF
  have HN := Lib.hid hN
  have HRp := Lib.hid hR
  obtain ⟨hKb, hbl, g0, g1, g2⟩ := hF.leaf
  obtain ⟨hX, c0, c1, c2, z1, z2, ho⟩ := hR
  rw [hk0] at g0
  have HRR : Hid (opMI box x (FRg.fold (opMI box) k) f d = some (mTest box x f)) := Lib.hid (opMI_test hk0 hf d)
  rw [HRR.out]
  obtain ⟨a, cap, rfl, hfc, hcm, hN3⟩ := id hN
  obtain ⟨bf, of, rfl, hKf, hbf, hcf⟩ := hN3 hf0
  obtain ⟨L, hL⟩ : ∃ L, L = f.length := ⟨_, rfl⟩
  have HL := Lib.hid hL
  rw [← hL] at hf hfc hf0 ⊢
  have hnews : ∀ (W : World), Below w.heap.size w W → ∀ j u, (ndCells f)[j]? = some u → W.cell? ((⟨bf, of, none⟩ : Addr).add j) = some u := by
    intro W hW j u hj
    have hjl : j < (ndCells f).length := (List.getElem?_eq_some_iff.1 hj).1
    rw [ndCells_len] at hjl
    rw [Addr.add_lit, hW.cell (by exact hbf), hcf j hjl, ← hj, ndCells_get f hjl]
  have HNews := Lib.hid hnews
  obtain ⟨E, hE⟩ : ∃ E, E = mKind box := ⟨_, rfl⟩
  have HE : Hid ((if box = true then (5 : Int) else 4) = E) := Lib.hid (by rw [hE]; rfl)
  obtain ⟨Y, hY⟩ : ∃ Y : Nd, Y = ⟨E, 0, x.lab, x.neg⟩ := ⟨_, rfl⟩
  have HM : Hid (mTest box x f = [Y] ++ f) := Lib.hid (by rw [hY, hE]; rfl)
  have HY : Hid (ndCells [Y] = [.int .i64 E, .int .i64 0, .string x.lab, .bool x.neg]) := Lib.hid (by rw [ndCells_single, hY])
  have h30 : decide ((30 : Int) < (L : Int)) = false := decide_eq_false (by omega)
  clear hF hN hnews hcf hN3 hE hY hL c1 z1 z2 ho hKb hKf hk0
  go_enter Tryz.func75, Tryz.ntmps75
  go_wp2_with fail
  have hbD := drw w
  have d0 := cell_up c0 hbD
  have d1 := cell_up g1 hbD
  have d2 := cell_up g2 hbD
  go_region_held3 (fun W => Below w.heap.size w W ∧ W.cell? ⟨X, 0, none⟩ = some (.bool box) ∧ W.cell? ⟨b, 1, none⟩ = some (.string x.lab) ∧ W.cell? ⟨b, 2, none⟩ = some (.bool x.neg)) ((first | exact ⟨hbD, d0, d1, d2⟩ | assumption | exact hG1 | exact keep3 (by assumption) (alc _ _))) ((first | (go_at_call 119; refine (repKind_at X box 4 5 E _ HE.out d0).mono ?_; rintro e w1 ⟨rfl, rfl⟩) | (refine step_append_lies _ (by rfl) _ _ _ (by rfl) w.heap.size 65 i0 (.agg #[.int .i64 0, .int .i64 0, .string ByteArray.empty, .bool false]) 4 40 Tryz.underlying26 hi hz0 hz1 hz2 rfl (by decide) _ 1 (ndCells [Y]) (by first | rfl | simp [Act.eval, Act.put]) (by rw [HY.out]; exact lit_row rfl (by simp) (by simp) rfl (by unfold maxLen; decide)) ⟨bf, of, none⟩ L cap (ndCells f) (by first | rfl | simp [Act.eval, Act.put]) (by rw [ndCells_len, HL.out]) (HNews.out _ (bl3 (by assumption))) (ndCells_one f) hf0 (by unfold maxLen; omega) (by omega) (by simp) _ rfl ?_; intro g4 q4 w4 hown4 hgrow4 hloc4 hlt4; have hG1 := keep3g (by assumption) hgrow4 (by simp; omega)) | fail))
  have hb4 := hG1.1
  have HO : Hid (OwNd w4 w.heap.size (.slice (some ⟨g4, 0, none⟩) (1 + L) q4) ([Y] ++ f)) := Lib.hid (by have h := hown4; rw [ndCells_append] at h; exact own_nd h)
  clear hown4 hgrow4 hloc4 hlt4 hG1 HNews HN HF
  go_wp2_with fail
  go_ret
  refine ⟨_, uv, [Y] ++ f, rfl, ndk_own HRp.out HO.out (Nat.le_refl _), HO.out, ?_, fun y h => ?_, HRp.out.below hb4, Exc.of_below hb4, fun c h => Or.inl h⟩
  · have := HL.out
    simp only [List.length_append, List.length_cons, List.length_nil]
    omega
  · rw [HM.out] at h
    exact Option.some.inj h
end Go.Proofs.YtcakmchefbohoaaGreatDoor
