/- Contracts: a formula with nodes before and behind it, of the program and of the reference. -/
import Derived.Test.YtmaadfoiaegdjaaGreatDoorProg
import Derived.Test.YtmaadfoiaegdjaaGreatDoorMem
import Derived.Test.YtmaadfoiaegdjaaGreatDoorMath
import Derived.Test.YtmaadfoiaegdjaaGreatDoorBasics
import Derived.Test.YtmaadfoiaegdjaaGreatDoorOpenI
import Derived.Test.YtmaadfoiaegdjaaGreatDoorHelpI
import Derived.Test.YtmaadfoiaegdjaaGreatDoorGrid
import Derived.Test.YtmaadfoiaegdjaaGreatDoorLab
import Derived.Test.YtmaadfoiaegdjaaGreatDoorDec
import Derived.Test.YtmaadfoiaegdjaaGreatDoorEnv
import Derived.Test.YtmaadfoiaegdjaaGreatDoorNode
import Derived.Test.YtmaadfoiaegdjaaGreatDoorNodeW
import Derived.Test.YtmaadfoiaegdjaaGreatDoorVMod
import Derived.Test.YtmaadfoiaegdjaaGreatDoorEnd
import Derived.Test.YtmaadfoiaegdjaaGreatDoorBind
import Derived.Test.YtmaadfoiaegdjaaGreatDoorVFor
import Derived.Test.YtmaadfoiaegdjaaGreatDoorConc
import Derived.Test.YtmaadfoiaegdjaaGreatDoorNds
import Derived.WalkKit
import Derived.BigQuiet
import Derived.Maps.AppendAt
import Derived.Laws.OwnMore
import Derived.Lib.Hide
import Derived.Outline
set_option linter.unusedVariables false
set_option linter.unusedSimpArgs false
namespace Go.Proofs.YtmaadfoiaegdjaaGreatDoor
open Go.RowKit

def nk (k : Int) : Nd := ⟨k, 0, ByteArray.empty, false⟩
def frCode (bf f bh : List Nd) : Int := if validF f = true then (if (bf ++ (f ++ bh)).length ≤ 30 then 0 else 5) else 1
def frOut (bf f bh : List Nd) : List Nd := if frCode bf f bh = 0 then bf ++ (f ++ bh) else []
theorem frOut_len (bf f bh : List Nd) : (frOut bf f bh).length ≤ 30 := by
  unfold frOut
  split
  · next h =>
    unfold frCode at h
    split at h
    · split at h
      · next h2 => exact h2
      · cases h
    · cases h
  · simp
theorem validF_len {f : List Nd} (h : validF f = true) : f.length ≤ 30 := by
  unfold validF at h
  simp only [Bool.and_eq_true] at h
  have := inR_true h.1.1
  omega
theorem OwNd_none (w : World) (base : Nat) : OwNd w base (.slice none 0 0) [] := ⟨none, 0, rfl, Nat.le_refl _, Nat.zero_le _, fun h => absurd h (by simp)⟩
set_option maxRecDepth 100000 in
set_option maxHeartbeats 2000000 in
theorem frequent_any (v vb vh : Value) (f bf bh : List Nd) (w : World) (hn : f.length ≤ 1048576) (hls : ∀ i, i < f.length → (ndnth f i).lab.size ≤ 1048576) (hT : Env w) (hv : RdNd w v f) (hvb : RdNd w vb bf) (hvh : RdNd w vh bh) (hbf : bf.length ≤ 30) (hbh : bh.length ≤ 30) :
    Calls Tryz.prog 94 #[v, vb, vh] w fun e w' => ∃ u, e = .returned (.tuple #[u, .int .i64 (frCode bf f bh)]) ∧ OwNd w' w.heap.size u (frOut bf f bh) ∧ Below w.heap.size w w' := by
  have HV := Lib.hid hv
  have HVB := Lib.hid hvb
  have HVH := Lib.hid hvh
  obtain ⟨a1, c1, rfl⟩ := hv.slice
  obtain ⟨a2, c2, rfl⟩ := hvb.slice
  obtain ⟨a3, c3, rfl⟩ := hvh.slice
  clear hv hvb hvh
  cases hvm : validF f with
  | false =>
    have hC : Hid (frCode bf f bh = 1) := Lib.hid (by unfold frCode; rw [hvm]; rfl)
    have hM : Hid (frOut bf f bh = []) := Lib.hid (by unfold frOut; rw [hC.out]; rfl)
    rw [hM.out, hC.out]
    go_enter Tryz.func94, Tryz.ntmps94
    go_wp2_with fail
    refine (ValidFormula_any _ f _ hn hls hT HV.out).mono ?_
    rw [hvm]
    rintro e w1 ⟨rfl, hb1⟩
    go_wp2_with fail
    go_ret2
    exact ⟨_, rfl, OwNd_none _ _, hb1⟩
  | true =>
    have hf30 := validF_len hvm
    obtain ⟨L, hL⟩ : ∃ L, L = (bf ++ (f ++ bh)).length := ⟨_, rfl⟩
    have hL90 : L ≤ 90 := by rw [hL, List.length_append, List.length_append]; omega
    have hCe : Hid (frCode bf f bh = if L ≤ 30 then 0 else 5) := Lib.hid (by unfold frCode; rw [hvm, if_pos rfl, hL])
    have HL := Lib.hid hL
    have hcell : ∀ T (u1 u2 u3 : Value) (W : World), ∀ i, i < 3 * 1 → (W.alloc (.cells #[u1, u2, u3] T)).cell? ⟨W.heap.size, 0 + i, none⟩ = some (vnth [u1, u2, u3] i) := by
      intro T x y z W i hi
      match i, hi with
      | 0, _ => simp [vnth]
      | 1, _ => simp [vnth]
      | 2, _ => simp [vnth]
    have Hcell := Lib.hid hcell
    clear hcell hL
    go_enter Tryz.func94, Tryz.ntmps94
    go_wp2_with fail
    refine (ValidFormula_any _ f _ hn hls hT HV.out).mono ?_
    rw [hvm]
    rintro e w1 ⟨rfl, hb1⟩
    have z1 := hb1.size
    go_wp2_with fail
    refine (concatNd_any _ (vnth [.slice a2 bf.length c2, .slice a1 f.length c1, .slice a3 bh.length c3]) [bf, f, bh] _ ?f1 ?f2 ?f3 ?f4).mono ?_
    case f1 => simp; omega
    case f2 => simp
    case f3 => exact ⟨_, 3, rfl, Nat.le_refl _, by unfold maxLen; decide, fun _ => ⟨_, _, rfl, by simp, Hcell.out _ _ _ _ _⟩⟩
    case f4 =>
      intro k hk
      match k, hk with
      | 0, _ => exact (HVB.out.below hb1).below ((Below.refl _ _).alloc (Nat.le_refl _) _)
      | 1, _ => exact (HV.out.below hb1).below ((Below.refl _ _).alloc (Nat.le_refl _) _)
      | 2, _ => exact (HVH.out.below hb1).below ((Below.refl _ _).alloc (Nat.le_refl _) _)
    rintro e w2 ⟨u, rfl, hu, hb2⟩
    have hbl : Below w.heap.size w w2 := by
      have h1 : Below w.heap.size w (w1.alloc (.cells #[.slice a2 bf.length c2, .slice a1 f.length c1, .slice a3 bh.length c3] 33)) := hb1.alloc z1 _
      exact h1.trans (hb2.mono h1.size)
    have hu2 : OwNd w2 w.heap.size u (bf ++ (f ++ bh)) := by
      have h1 := own_nd hu
      rw [show [bf, f, bh].flatten = bf ++ (f ++ bh) by simp] at h1
      exact h1.mono (by simp; omega)
    have HU := Lib.hid hu2
    obtain ⟨a4, c4, rfl⟩ := hu2.rd.slice
    rw [← HL.out]
    clear hu hu2 hb2 hb1
    by_cases h30 : L ≤ 30
    · have hC : Hid (frCode bf f bh = 0) := Lib.hid (by rw [hCe.out, if_pos h30])
      have hM : Hid (frOut bf f bh = bf ++ (f ++ bh)) := Lib.hid (by unfold frOut; rw [hC.out]; rfl)
      have hd : ¬ (30 : Int) < L := by omega
      go_wp2_with fail
      go_ret2
      rw [hM.out, hC.out, HL.out]
      exact ⟨_, rfl, HU.out, hbl⟩
    · have hC : Hid (frCode bf f bh = 5) := Lib.hid (by rw [hCe.out, if_neg h30])
      have hM : Hid (frOut bf f bh = []) := Lib.hid (by unfold frOut; rw [hC.out]; rfl)
      have hd : (30 : Int) < L := by omega
      go_wp2_with fail
      go_ret2
      rw [hM.out, hC.out]
      exact ⟨_, rfl, OwNd_none _ _, hbl⟩
set_option maxRecDepth 100000 in
set_option maxHeartbeats 2000000 in
theorem l19Frame_any (v vb vh : Value) (f bf bh : List Nd) (w : World) (hn : f.length ≤ 1048576) (hls : ∀ i, i < f.length → (ndnth f i).lab.size ≤ 1048576) (hv : RdNd w v f) (hvb : RdNd w vb bf) (hvh : RdNd w vh bh) (hbf : bf.length ≤ 30) (hbh : bh.length ≤ 30) :
    Calls Tryz.prog 93 #[vb, v, vh] w fun e w' => ∃ u, e = .returned (.tuple #[u, .int .i64 (frCode bf f bh)]) ∧ OwNd w' w.heap.size u (frOut bf f bh) ∧ Below w.heap.size w w' := by
  have HV := Lib.hid hv
  have HVB := Lib.hid hvb
  have HVH := Lib.hid hvh
  obtain ⟨a1, c1, rfl⟩ := hv.slice
  obtain ⟨a2, c2, rfl⟩ := hvb.slice
  obtain ⟨a3, c3, rfl⟩ := hvh.slice
  clear hv hvb hvh
  cases hvm : validF f with
  | false =>
    have hC : Hid (frCode bf f bh = 1) := Lib.hid (by unfold frCode; rw [hvm]; rfl)
    have hM : Hid (frOut bf f bh = []) := Lib.hid (by unfold frOut; rw [hC.out]; rfl)
    rw [hM.out, hC.out]
    go_enter Tryz.func93, Tryz.ntmps93
    go_wp2_with fail
    refine (l19Is_any _ f _ hn hls HV.out).mono ?_
    rw [hvm]
    rintro e w1 ⟨rfl, hb1⟩
    go_wp2_with fail
    go_ret2
    exact ⟨_, rfl, OwNd_none _ _, hb1⟩
  | true =>
    have hf30 := validF_len hvm
    obtain ⟨L, hL⟩ : ∃ L, L = (bf ++ (f ++ bh)).length := ⟨_, rfl⟩
    have hL90 : L ≤ 90 := by rw [hL, List.length_append, List.length_append]; omega
    have hCe : Hid (frCode bf f bh = if L ≤ 30 then 0 else 5) := Lib.hid (by unfold frCode; rw [hvm, if_pos rfl, hL])
    have HL := Lib.hid hL
    clear hL
    by_cases h30 : L ≤ 30
    · have hC : Hid (frCode bf f bh = 0) := Lib.hid (by rw [hCe.out, if_pos h30])
      have hM : Hid (frOut bf f bh = bf ++ (f ++ bh)) := Lib.hid (by unfold frOut; rw [hC.out]; rfl)
      have hd : ¬ (30 : Int) < L := by omega
      go_enter Tryz.func93, Tryz.ntmps93
      go_wp2_with fail
      refine (l19Is_any _ f _ hn hls HV.out).mono ?_
      rw [hvm]
      rintro e w1 ⟨rfl, hb1⟩
      have z1 := hb1.size
      have hbA : Below w.heap.size w (w1.alloc (.cells #[] 49)) := hb1.alloc z1 _
      have HB1 := Lib.hid ((HVB.out.below hb1).below ((Below.refl _ _).alloc (Nat.le_refl _) (.cells #[] 49)))
      have H0 := Lib.hid (own_nd_nil (w := w1) w.heap.size z1)
      go_wp2_with (first
        | (at_builtin; refine wpList_append_nd rfl _ _ rfl w.heap.size _ _ 0 [] bf rfl rfl rfl H0.out HB1.out (by simp; omega) (by simp; omega) w.heap.size w hbA (Nat.le_refl _) ?_; intro v2 w2 hown2 hbl2; rw [List.nil_append, Nat.zero_add] at hown2; obtain ⟨a5, c5, rfl⟩ := owned_slice hown2.out; have HB2 := Lib.hid (HV.out.below hbl2); have z2 := hbl2.size)
        | (at_builtin; refine wpList_append_nd rfl _ _ rfl w.heap.size _ _ bf.length bf f rfl rfl rfl hown2.out HB2.out (by omega) z2 w.heap.size w hbl2 (Nat.le_refl _) ?_; intro v3 w3 hown3 hbl3; obtain ⟨a6, c6, rfl⟩ := owned_slice hown3.out; have HB3 := Lib.hid (HVH.out.below hbl3); have z3 := hbl3.size)
        | (at_builtin; refine wpList_append_nd rfl _ _ rfl w.heap.size _ _ (bf.length + f.length) (bf ++ f) bh (by rw [List.length_append]) rfl rfl hown3.out HB3.out (by rw [List.length_append]; omega) z3 w.heap.size w hbl3 (Nat.le_refl _) ?_; intro v4 w4 hown4 hbl4; rw [List.append_assoc, show bf.length + f.length + bh.length = L by rw [HL.out, List.length_append, List.length_append]; omega] at hown4; obtain ⟨a7, c7, rfl⟩ := owned_slice hown4.out))
      have HU := Lib.hid (own_nd hown4.out)
      clear hown2 hown3 hown4 H0 HB1 HB2 HB3 hbl2 hbl3
      go_ret2
      rw [hM.out, hC.out]
      exact ⟨_, rfl, HU.out, hbl4⟩
    · have hC : Hid (frCode bf f bh = 5) := Lib.hid (by rw [hCe.out, if_neg h30])
      have hM : Hid (frOut bf f bh = []) := Lib.hid (by unfold frOut; rw [hC.out]; rfl)
      have hd : (30 : Int) < L := by omega
      go_enter Tryz.func93, Tryz.ntmps93
      go_wp2_with fail
      refine (l19Is_any _ f _ hn hls HV.out).mono ?_
      rw [hvm]
      rintro e w1 ⟨rfl, hb1⟩
      have z1 := hb1.size
      have hbA : Below w.heap.size w (w1.alloc (.cells #[] 49)) := hb1.alloc z1 _
      have HB1 := Lib.hid ((HVB.out.below hb1).below ((Below.refl _ _).alloc (Nat.le_refl _) (.cells #[] 49)))
      have H0 := Lib.hid (own_nd_nil (w := w1) w.heap.size z1)
      go_wp2_with (first
        | (at_builtin; refine wpList_append_nd rfl _ _ rfl w.heap.size _ _ 0 [] bf rfl rfl rfl H0.out HB1.out (by simp; omega) (by simp; omega) w.heap.size w hbA (Nat.le_refl _) ?_; intro v2 w2 hown2 hbl2; rw [List.nil_append, Nat.zero_add] at hown2; obtain ⟨a5, c5, rfl⟩ := owned_slice hown2.out; have HB2 := Lib.hid (HV.out.below hbl2); have z2 := hbl2.size)
        | (at_builtin; refine wpList_append_nd rfl _ _ rfl w.heap.size _ _ bf.length bf f rfl rfl rfl hown2.out HB2.out (by omega) z2 w.heap.size w hbl2 (Nat.le_refl _) ?_; intro v3 w3 hown3 hbl3; obtain ⟨a6, c6, rfl⟩ := owned_slice hown3.out; have HB3 := Lib.hid (HVH.out.below hbl3); have z3 := hbl3.size)
        | (at_builtin; refine wpList_append_nd rfl _ _ rfl w.heap.size _ _ (bf.length + f.length) (bf ++ f) bh (by rw [List.length_append]) rfl rfl hown3.out HB3.out (by rw [List.length_append]; omega) z3 w.heap.size w hbl3 (Nat.le_refl _) ?_; intro v4 w4 hown4 hbl4; rw [List.append_assoc, show bf.length + f.length + bh.length = L by rw [HL.out, List.length_append, List.length_append]; omega] at hown4; obtain ⟨a7, c7, rfl⟩ := owned_slice hown4.out))
      have HU := Lib.hid (own_nd hown4.out)
      clear hown2 hown3 hown4 H0 HB1 HB2 HB3 hbl2 hbl3
      go_ret2
      rw [hM.out, hC.out]
      exact ⟨_, rfl, OwNd_none _ _, hbl4⟩
end Go.Proofs.YtmaadfoiaegdjaaGreatDoor
