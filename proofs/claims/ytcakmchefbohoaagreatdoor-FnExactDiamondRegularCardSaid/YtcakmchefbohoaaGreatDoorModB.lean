/- Contracts: is a number in a list, and a copy of a list, of the program and of the reference. -/
import Derived.Test.YtcakmchefbohoaaGreatDoorProg
import Derived.Test.YtcakmchefbohoaaGreatDoorMem
import Derived.Test.YtcakmchefbohoaaGreatDoorMath
import Derived.Test.YtcakmchefbohoaaGreatDoorBasics
import Derived.Test.YtcakmchefbohoaaGreatDoorOpenI
import Derived.Test.YtcakmchefbohoaaGreatDoorHelpI
import Derived.Test.YtcakmchefbohoaaGreatDoorGrid
import Derived.Test.YtcakmchefbohoaaGreatDoorLab
import Derived.Test.YtcakmchefbohoaaGreatDoorPart
import Derived.Test.YtcakmchefbohoaaGreatDoorConc
import Derived.Test.YtcakmchefbohoaaGreatDoorModJ
import Derived.WalkKit
import Derived.BigQuiet
import Derived.Maps.AppendAt
import Derived.Laws.OwnMore
import Derived.Lib.Hide
import Derived.Outline
set_option linter.unusedVariables false
set_option linter.unusedSimpArgs false
namespace Go.Proofs.YtcakmchefbohoaaGreatDoor
open Go.RowKit

/-- Is a number in a list? -/
def hasI (L : List Int) (n : Int) : Bool := L.contains n
theorem has_at {xs : List Int} {n : Int} {k : Nat} (hk : k < xs.length) (h : nth xs k = n) : hasI xs n = true := by
  unfold hasI
  rw [List.contains_iff_mem, ← h, nth_eq xs k hk]
  exact List.getElem_mem hk
theorem has_none {xs : List Int} {n : Int} (h : ∀ i, i < xs.length → nth xs i ≠ n) : hasI xs n = false := by
  cases hc : hasI xs n with
  | false => rfl
  | true =>
    unfold hasI at hc
    rw [List.contains_iff_mem] at hc
    obtain ⟨i, hi, e⟩ := List.getElem_of_mem hc
    exact absurd (by rw [nth_eq xs i hi]; exact e) (h i hi)
theorem hasI_lt {d v : Nat} (h : v < d) : hasI (upto d) (v : Int) = true := has_at (k := v) (by rw [upto_len]; exact h) (nth_upto h)
theorem hasI_ge {d v : Nat} (h : d ≤ v) : hasI (upto d) (v : Int) = false := has_none fun i hi => by
  rw [upto_len] at hi
  rw [nth_upto hi]
  omega
theorem l00Has_any (v : Value) (xs : List Int) (n : Int) (w : World) (hv : RdI w v xs) : Calls Tryz.prog 72 #[v, .int .i64 n] w fun e w' => e = .returned (.bool (hasI xs n)) ∧ w = w' := by
  obtain ⟨a, cap, rfl, hcap, hm, hv⟩ := hv
  unfold maxLen at hm
  go_enter Tryz.func72, Tryz.ntmps72
  go_wp2
  go_loop [5] (fun si => ∃ k : Nat, k ≤ xs.length ∧ si = .int .i64 k ∧ Hid (∀ i, i < k → nth xs i ≠ n)) (fun si => xs.length - (intOf si).toNat)
  case atStart => exact ⟨0, Nat.zero_le _, rfl, Lib.hid fun i h => absurd h (by omega)⟩
  case round =>
    obtain ⟨k, hk, rfl, hn⟩ := hrel
    by_cases hlt : k < xs.length
    · obtain ⟨b, o, rfl, hb, hc⟩ := hv (by omega)
      have g1 : w.cell? ⟨b, o + k, none⟩ = some (.int .i64 (nth xs k)) := hc k (by omega)
      clear hc
      by_cases he : nth xs k = n
      · have he2 : (nth xs k == n) = true := by simp [he]
        have H : Hid (hasI xs n = true) := Lib.hid (has_at hlt he)
        clear he
        go_wp2
        go_ret
        exact ⟨by rw [H.out]; rfl, rfl⟩
      · have he2 : (nth xs k == n) = false := by simp [he]
        have H : Hid (∀ i, i < k + 1 → nth xs i ≠ n) := Lib.hid (next_all hn.out he)
        clear he
        go_wp2
        go_round
        case rel => exact ⟨k + 1, by omega, by go_num, H⟩
        case measure => simp [intOf]; omega
    · have H : Hid (hasI xs n = false) := Lib.hid (has_none fun i hi => hn.out i (by omega))
      go_wp2
      go_ret
      exact ⟨by rw [H.out]; rfl, rfl⟩
theorem slicesContainsI_index (v : Value) (xs : List Int) (n : Int) (w : World) (hv : RdI w v xs) : Calls Tryz.prog 90 #[v, .int .i64 n] w fun e w' => ∃ r : Int, e = .returned (.int .i64 r) ∧ decide (0 ≤ r) = hasI xs n ∧ w = w' := by
  obtain ⟨a, cap, rfl, hcap, hm, hv⟩ := hv
  unfold maxLen at hm
  go_enter Tryz.func90, Tryz.ntmps90
  go_wp2
  go_loop [8] (fun si => ∃ k : Nat, k ≤ xs.length ∧ si = .int .i64 k ∧ Hid (∀ i, i < k → nth xs i ≠ n)) (fun si => xs.length - (intOf si).toNat)
  case atStart => exact ⟨0, Nat.zero_le _, rfl, Lib.hid fun i h => absurd h (by omega)⟩
  case round =>
    obtain ⟨k, hk, rfl, hn⟩ := hrel
    by_cases hlt : k < xs.length
    · obtain ⟨b, o, rfl, hb, hc⟩ := hv (by omega)
      have g1 : w.cell? ⟨b, o + k, none⟩ = some (.int .i64 (nth xs k)) := hc k (by omega)
      clear hc
      by_cases he : nth xs k = n
      · have he2 : (n == nth xs k) = true := by simp [he]
        have H : Hid (hasI xs n = true) := Lib.hid (has_at hlt he)
        clear he
        go_wp2
        go_ret
        exact ⟨k, rfl, by rw [H.out]; exact decide_eq_true (by omega), rfl⟩
      · have he2 : (n == nth xs k) = false := by simp; exact fun e => he e.symm
        have H : Hid (∀ i, i < k + 1 → nth xs i ≠ n) := Lib.hid (next_all hn.out he)
        clear he
        go_wp2
        go_round
        case rel => exact ⟨k + 1, by omega, by go_num, H⟩
        case measure => simp [intOf]; omega
    · have H : Hid (hasI xs n = false) := Lib.hid (has_none fun i hi => hn.out i (by omega))
      go_wp2
      go_ret
      exact ⟨-1, rfl, by rw [H.out]; rfl, rfl⟩
theorem slicesContainsI_any (v : Value) (xs : List Int) (n : Int) (w : World) (hv : RdI w v xs) : Calls Tryz.prog 53 #[v, .int .i64 n] w fun e w' => e = .returned (.bool (hasI xs n)) ∧ w = w' := by
  obtain ⟨a, cap, rfl⟩ := hv.slice
  have HV := Lib.hid hv
  clear hv
  go_enter Tryz.func53, Tryz.ntmps53
  go_wp2_with fail
  refine (slicesContainsI_index _ xs n _ HV.out).mono ?_
  rintro e w' ⟨r, rfl, hr, rfl⟩
  go_wp2_with fail
  go_ret
  exact ⟨by rw [← hr]; rfl, rfl⟩
set_option maxHeartbeats 800000 in
theorem l00OwnRow_any (v : Value) (p : List Int) (w : World) (hn : p.length ≤ 1048576) (rp : RdI w v p) :
    Calls Tryz.prog 73 #[v] w fun e w' => ∃ u, e = .returned u ∧ w'.ownsRow w.heap.size 2 1 u p.length (p.map (Value.int .i64)) ∧ Below w.heap.size w w' := by
  obtain ⟨i0, hi, hz0, hz1, hz2⟩ := info_parts infoI64
  obtain ⟨a, cap, rfl, hcap, hcm, rp⟩ := rp
  unfold maxLen at hcm
  have Rp := Lib.hid rp
  have hown : (w.alloc (.cells #[] 2)).ownsRow w.heap.size 2 1 (.slice (some ⟨w.heap.size, 0, none⟩) 0 0) 0 [] :=
    ⟨rfl, Or.inr ⟨w.heap.size, 0, #[], rfl, Nat.le_refl _, by show (w.heap.push _)[w.heap.size]? = some _; simp, Nat.le_refl _, Nat.zero_le _, rfl, rfl⟩⟩
  have Hown := Lib.hid hown
  have hb0 : Below w.heap.size w (w.alloc (.cells #[] 2)) := (Below.refl _ _).alloc (Nat.le_refl _) _
  clear hown rp
  cases a with
  | none =>
    have h0 : p.length = 0 := by
      by_cases e : 0 < p.length
      · obtain ⟨_, _, e2, _⟩ := Rp.out e; cases e2
      · omega
    have hpn : p = [] := List.length_eq_zero_iff.1 h0
    subst hpn
    clear h0
    go_enter Tryz.func73, Tryz.ntmps73
    go_wp2_with (at_builtin; refine wpList_append_none' rfl _ _ 47 rfl w.heap.size 2 i0 1 Tryz.underlying47 hi _ 0 cap _ rfl Hown.out rfl ?_)
    go_wp2
    go_ret
    exact ⟨_, rfl, Hown.out, hb0⟩
  | some ad =>
    obtain ⟨news, hne⟩ : ∃ news : List Value, news = p.map fun x => .int .i64 x := ⟨_, rfl⟩
    have hnl : news.length = p.length := by rw [hne, List.length_map]
    have hget : ∀ i, i < p.length → news[i]? = some (ic p i) := fun i hi => by
      rw [hne, List.getElem?_map, nth_get? p i hi]; rfl
    have hone : ∀ u ∈ news, u.oneCell' = true := by
      intro u hu; rw [hne] at hu
      obtain ⟨x, _, rfl⟩ := List.mem_map.1 hu; rfl
    have hnews : ∀ j u, news[j]? = some u → (w.alloc (.cells #[] 2)).cell? (ad.add j) = some u := fun j u hj => by
      have hjl : j < p.length := by rw [← hnl]; exact (List.getElem?_eq_some_iff.1 hj).1
      obtain ⟨b2, o2, e2, hb2, hc2⟩ := Rp.out (by omega)
      cases e2
      rw [hget j hjl] at hj
      cases hj
      rw [Addr.add_lit, hb0.cell (by exact hb2)]
      exact hc2 j (by omega)
    have Hnews := Lib.hid hnews
    have Hone := Lib.hid hone
    have Hget := Lib.hid hget
    have Hnl := Lib.hid hnl
    have Hne := Lib.hid hne
    clear hne hnl hget hone hnews
    go_enter Tryz.func73, Tryz.ntmps73
    go_wp2_with (at_builtin; refine wpList_append_own_at _ rfl _ _ 47 rfl w.heap.size 2 i0 (.int .i64 0) 1 8 Tryz.underlying47 hi hz0 hz1 hz2 rfl (by decide) _ 0 _ rfl Hown.out ad p.length cap news rfl (by rw [Hnl.out, Nat.mul_one]) Hnews.out Hone.out ?c2 ?c3 ?c4 ?_)
    case c2 => unfold maxLen; omega
    case c3 => omega
    case c4 => simp
    intro v' w1 hown' hgrow hnil hloc
    have hres : w1.ownsRow w.heap.size 2 1 v' p.length (p.map (Value.int .i64)) := by
      have h2 := hown'
      rw [Hne.out] at h2
      exact h2
    have Hres := Lib.hid hres
    have hb2 : Below w.heap.size w w1 := hb0.grown hgrow (by simp) (fun j hj => (Hown.out.lt j hj).1)
    clear hown' hgrow hnil hloc hres
    go_wp2
    go_ret
    exact ⟨_, rfl, Hres.out, hb2⟩
end Go.Proofs.YtcakmchefbohoaaGreatDoor
