/- Contracts: lists of numbers as text, of the program and of the reference. -/
import Derived.Test.YtcakmchefbohoaaGreatDoorProg
import Derived.Test.YtcakmchefbohoaaGreatDoorMem
import Derived.Test.YtcakmchefbohoaaGreatDoorMath
import Derived.Test.YtcakmchefbohoaaGreatDoorBasics
import Derived.Test.YtcakmchefbohoaaGreatDoorHelpI
import Derived.Test.YtcakmchefbohoaaGreatDoorOpenI
import Derived.Test.YtcakmchefbohoaaGreatDoorGrid
import Derived.Test.YtcakmchefbohoaaGreatDoorShelf
import Derived.Test.YtcakmchefbohoaaGreatDoorDec
import Derived.Test.YtcakmchefbohoaaGreatDoorNum
import Derived.Test.YtcakmchefbohoaaGreatDoorRead
import Derived.Test.YtcakmchefbohoaaGreatDoorText
import Derived.Test.YtcakmchefbohoaaGreatDoorLab
import Derived.Test.YtcakmchefbohoaaGreatDoorSplit
import Derived.WalkKit
import Derived.BigQuiet
import Derived.Maps.AppendAt
import Derived.Lib.Hide
import Derived.Outline
set_option linter.unusedVariables false
set_option linter.unusedSimpArgs false
namespace Go.Proofs.YtcakmchefbohoaaGreatDoor
open Go.RowKit

theorem i64_nth {xs : List Int} (h : I64s xs) {k : Nat} (hk : k < xs.length) : -9223372036854775808 ≤ nth xs k ∧ nth xs k ≤ 9223372036854775807 := by
  rw [nth_eq xs k hk]
  exact h _ (List.getElem_mem hk)
/-- A number that has a text in a list; a list that has a text. -/
def isWide (n : Int) : Bool := inR n (-1000000000000) 1000000000000
def fits (xs : List Int) : Bool := decide (xs.length ≤ 64) && xs.all isWide
def notB (p : Int → Bool) (n : Int) : Bool := !p n
theorem any_not (p : Int → Bool) (xs : List Int) : xs.any (notB p) = !xs.all p := by
  induction xs with
  | nil => rfl
  | cons a r ih => rw [List.any_cons, List.all_cons, ih, notB]; cases p a <;> rfl
theorem all_hit {p : Int → Bool} {xs : List Int} {k : Nat} (h : k < xs.length) (hp : p (nth xs k) = false) : xs.all p = false := by
  cases he : xs.all p with
  | false => rfl
  | true =>
    have := List.all_eq_true.1 he _ (List.getElem_mem h)
    rw [← nth_eq xs k h, hp] at this
    cases this
theorem all_next {p : Int → Bool} {xs : List Int} {k : Nat} (h : k < xs.length) (h0 : (xs.take k).all p = true) (hp : p (nth xs k) = true) : (xs.take (k + 1)).all p = true := by
  rw [take_nth xs k h, List.all_append, h0]
  simp [hp]
theorem areVal1_any (n : Int) (w : World) : Calls Tryz.prog 201 #[.int .i64 n] w fun e w' => e = .returned (.bool (notB isVal n)) ∧ w = w' := by
  go_enter Tryz.func201, Tryz.ntmps201
  go_wp2_with (go_at_call 202; refine (isValue_any _ _).mono ?_; rintro e w' ⟨rfl, rfl⟩)
  go_ret
  exact ⟨rfl, rfl⟩
theorem areVal1_index (v : Value) (xs : List Int) (w : World) (hn : xs.length ≤ 4611686018427387904) (hv : RdI w v xs) :
    Calls Tryz.prog 138 #[v, .func (.func 201) #[] #[]] w fun e w' => ∃ r : Int, e = .returned (.int .i64 r) ∧ decide (0 ≤ r) = !xs.all isVal ∧ w = w' := by
  obtain ⟨a, cap, rfl, hcap, hm, hv⟩ := hv
  obtain ⟨n, hxn⟩ : ∃ n, n = xs.length := ⟨_, rfl⟩
  rw [← hxn] at hcap hv hn ⊢
  have Hxn := Lib.hid hxn; clear hxn
  go_enter Tryz.func138, Tryz.ntmps138
  go_wp2_with fail
  go_loop [8] (fun si => ∃ k : Nat, k ≤ n ∧ si = .int .i64 k ∧ Hid ((xs.take k).all isVal = true)) (fun si => n - (intOf si).toNat)
  case atStart => exact ⟨0, Nat.zero_le _, rfl, Lib.hid rfl⟩
  case round =>
    obtain ⟨k, hk, rfl, HL⟩ := hrel
    by_cases hlt : k < n
    · obtain ⟨b, o, rfl, hb, hc⟩ := hv (by omega)
      have hg : w.cell? ⟨b, o + k, none⟩ = some (.int .i64 (nth xs k)) := hc k (by omega)
      clear hc
      cases hp : isVal (nth xs k) with
      | true =>
        have H2 := Lib.hid (all_next (by rw [← Hxn.out]; exact hlt) HL.out hp)
        have hq : notB isVal (nth xs k) = false := by rw [notB, hp]; rfl
        clear HL hp
        go_wp2_with (go_at_call 201; refine (areVal1_any _ _).mono ?_; rintro e w' ⟨rfl, rfl⟩)
        go_round
        case rel => exact ⟨k + 1, by omega, by go_num, H2⟩
        case measure => simp [intOf]; omega
      | false =>
        have H2 := Lib.hid (all_hit (by rw [← Hxn.out]; exact hlt) hp)
        have hq : notB isVal (nth xs k) = true := by rw [notB, hp]; rfl
        clear HL hp
        go_wp2_with (go_at_call 201; refine (areVal1_any _ _).mono ?_; rintro e w' ⟨rfl, rfl⟩)
        go_ret
        exact ⟨k, rfl, by rw [H2.out]; exact decide_eq_true (by omega), rfl⟩
    · obtain rfl : k = n := by omega
      have H2 : Hid (xs.all isVal = true) := Lib.hid (by have := HL.out; rwa [List.take_of_length_le (by rw [Hxn.out]; exact Nat.le_refl _)] at this)
      go_wp2_with fail
      go_ret
      exact ⟨-1, rfl, by rw [H2.out]; rfl, rfl⟩
theorem areVal1_contains (v : Value) (xs : List Int) (w : World) (hn : xs.length ≤ 4611686018427387904) (hv : RdI w v xs) :
    Calls Tryz.prog 104 #[v, .func (.func 201) #[] #[]] w fun e w' => e = .returned (.bool (!xs.all isVal)) ∧ w = w' := by
  obtain ⟨a, cap, rfl⟩ := hv.slice
  have HV := Lib.hid hv
  clear hv
  go_enter Tryz.func104, Tryz.ntmps104
  go_wp2_with fail
  refine (areVal1_index _ xs _ hn HV.out).mono ?_
  rintro e w' ⟨r, rfl, hr, rfl⟩
  go_wp2_with fail
  go_ret
  exact ⟨by rw [← hr]; rfl, rfl⟩
theorem join_snoc (l : List (List UInt8)) (y sep : List UInt8) (h : l ≠ []) : Lib.join (l ++ [y]) sep = Lib.join l sep ++ sep ++ y := by
  cases l with
  | nil => exact absurd rfl h
  | cons x r => simp [Lib.join_cons, Lib.joinTail, List.append_assoc]
theorem joinN_nil (c : UInt8) : joinN [] c = [] := rfl
theorem joinN_first {xs : List Int} (c : UInt8) (h : 0 < xs.length) : joinN (xs.take 1) c = Lib.itoa (nth xs 0) := by
  rw [take_nth xs 0 h, List.take_zero, List.nil_append]
  exact Lib.join_one _ _
theorem joinN_step {xs : List Int} (c : UInt8) {k : Nat} (h : k < xs.length) (h0 : 0 < k) : joinN (xs.take (k + 1)) c = joinN (xs.take k) c ++ [c] ++ Lib.itoa (nth xs k) := by
  unfold joinN
  rw [take_nth xs k h, List.map_append, List.map_cons, List.map_nil, join_snoc]
  intro e
  have := congrArg List.length e
  have e0 : ([] : List (List UInt8)).length = 0 := rfl
  rw [List.length_map, List.length_take, e0] at this
  omega
theorem ba_append (x y : List UInt8) : ba x ++ ba y = ba (x ++ y) := by
  apply ByteArray.ext
  simp [ba]
theorem itoa_len (n : Int) (h0 : -9223372036854775808 ≤ n) (h1 : n ≤ 9223372036854775807) : (Lib.itoa n).length ≤ 21 := by
  unfold Lib.itoa
  split
  · have h := nDigits_le 19 n.natAbs (by omega)
    rw [List.length_cons, Lib.decDigits_length]; omega
  · have h := nDigits_le 19 n.toNat (by omega)
    rw [Lib.decDigits_length]; omega
theorem joinN_take_len {xs : List Int} (c : UInt8) (h : I64s xs) (k : Nat) (hlen : ∀ ys : List Int, I64s ys → (joinN ys c).length ≤ 22 * ys.length) : (ba (joinN (xs.take k) c)).size ≤ 22 * k := by
  have h1 := hlen (xs.take k) (fun z hz => h z (List.mem_of_mem_take hz))
  have h2 : (xs.take k).length ≤ k := by rw [List.length_take]; omega
  have h3 : (ba (joinN (xs.take k) c)).size = (joinN (xs.take k) c).length := rfl
  omega
theorem joinN_len (xs : List Int) (c : UInt8) (h : I64s xs) : (joinN xs c).length ≤ 22 * xs.length := by
  cases xs with
  | nil => simp [joinN_nil]
  | cons x r =>
    unfold joinN
    rw [List.map_cons, Lib.join_cons, List.length_append]
    have hx := h x (by simp)
    have h1 := itoa_len x hx.1 hx.2
    have h2 : ∀ l : List Int, (∀ y ∈ l, -9223372036854775808 ≤ y ∧ y ≤ 9223372036854775807) → (Lib.joinTail [c] (l.map Lib.itoa)).length ≤ 22 * l.length := by
      intro l
      induction l with
      | nil => intro _; simp [Lib.joinTail]
      | cons y q ih =>
        intro hl
        have hy := hl y (by simp)
        have h3 := itoa_len y hy.1 hy.2
        have h4 := ih (fun z hz => hl z (by simp [hz]))
        simp only [Lib.joinTail, List.map_cons, List.flatten_cons, List.length_append, List.length_cons, List.length_nil] at h4 ⊢
        omega
    have := h2 r (fun z hz => h z (by simp [hz]))
    simp only [List.length_cons]
    omega
set_option maxHeartbeats 1600000 in
theorem joined_any (v : Value) (xs : List Int) (sp : ByteArray) (c : UInt8) (w : World) (hsp : sp = ⟨#[c]⟩) (hT : PowTab w) (hn : xs.length ≤ 1048576) (h64 : I64s xs) (hv : RdI w v xs) :
    Calls Tryz.prog 110 #[v, .string sp] w fun e w' => e = .returned (.string (ba (joinN xs c))) ∧ Below w.heap.size w w' := by
  obtain ⟨a, cap, rfl, hcap, hm, hv⟩ := hv
  obtain ⟨i0, hi, hz0, hz1, hz2⟩ := info_parts infoStr
  obtain ⟨n, hxn⟩ : ∃ n, n = xs.length := ⟨_, rfl⟩
  have hlen := Lib.hid (joinN_len xs c h64)
  rw [← hxn] at hcap hv hn
  have Hxn := Lib.hid hxn; clear hxn
  have H64 := Lib.hid h64; clear h64
  have HT := Lib.hid hT; clear hT
  have Hsp := Lib.hid hsp; clear hsp
  obtain ⟨cs, hcs⟩ : ∃ cs : Nat → Value, cs = fun i => .string (ba (Lib.itoa (nth xs i))) := ⟨_, rfl⟩
  have Hcs := Lib.hid hcs; clear hcs
  rw [← Hxn.out] at hlen ⊢
  go_enter Tryz.func110, Tryz.ntmps110
  go_wp2_with (at_make; refine wpList_make_full _ rfl _ _ 37 rfl w.heap.size 9 i0 (.string ByteArray.empty) 1 Tryz.underlying37 hi hz0 hz1 _ _ _ _ n rfl rfl rfl rfl ?b2 ?b3 (Nat.le_refl _) ?_)
  case b2 => rw [hz2]; omega
  case b3 => unfold maxLen; omega
  intro w0 hown0 hgrow0
  rw [toList_madeCells_one] at hown0
  go_wp2_with fail
  rw [← fillRow_zero cs] at hown0
  go_loopw [13] (fun si wr => ∃ k : Nat, k ≤ n ∧ si = .int .i64 k ∧ Hid (wr.ownsRow w.heap.size 9 1 (.slice (some ⟨w.heap.size, 0, none⟩) n n) n (fillRow cs n k (.string ByteArray.empty))) ∧ Below w.heap.size w wr)
    (fun si _ => n - (intOf si).toNat)
  case atStart => exact ⟨0, Nat.zero_le _, rfl, Lib.hid hown0, (Below.refl _ _).grown hgrow0 (Nat.le_refl _) (fun k h => by cases h)⟩
  case round =>
    clear hown0 hgrow0
    obtain ⟨k, hk, rfl, hown, hbl⟩ := hrel
    by_cases hlt : k < n
    · obtain ⟨b, o, rfl, hb, hc⟩ := hv (by omega)
      have hg : wr.cell? ⟨b, o + k, none⟩ = some (.int .i64 (nth xs k)) := (hbl.cell (by exact hb)).trans (hc k (by omega))
      have hr := Lib.hid (i64_nth H64.out (show k < xs.length by rw [← Hxn.out]; exact hlt))
      have hck : Hid (cs k = .string (ba (Lib.itoa (nth xs k)))) := Lib.hid (by rw [Hcs.out])
      clear hc
      obtain ⟨x, hx⟩ : ∃ x, x = nth xs k := ⟨_, rfl⟩
      rw [← hx] at hg hr hck
      clear hx
      go_wp2_with fail
      refine (Decimal_any x _ hr.out.1 hr.out.2 (HT.out.below hbl)).mono ?_
      rintro e w1 ⟨rfl, hb1⟩
      have hown1 := ownsRow_below hown.out hb1
      have hold : w1.cell? ⟨w.heap.size, k, none⟩ = some (.string ByteArray.empty) := (hown1.cellAt k (by omega)).trans (fillRow_get _ _ _ _ hlt)
      have hfz := hown1.frozenAt k
      have hs1 := (hown1.stored k (.string (ba (Lib.itoa x)))).1
      rw [← hck.out, fillRow_set _ _ _ _ hlt, hck.out] at hs1
      have hs2 : Below w.heap.size w (w1.setCell ⟨w.heap.size, k, none⟩ (.string (ba (Lib.itoa x)))) := (below_trans' hbl hb1).setCell (Nat.le_refl _) _
      have Hs1 := Lib.hid hs1
      clear hs1 hown1 hown
      go_wp2_with fail
      go_roundw
      case rel => exact ⟨k + 1, by omega, by go_num, Hs1, hs2⟩
      case measure => simp [intOf]; omega
    · obtain rfl : k = n := by omega
      have hcells : Hid (∀ (j : Nat) (x : ByteArray), (xs.map fun z => ba (Lib.itoa z))[j]? = some x → wr.cell? ⟨w.heap.size, 0 + j, none⟩ = some (.string x)) := Lib.hid (by
        intro j x hj
        have hjl : j < xs.length := by
          have := (List.getElem?_eq_some_iff.1 hj).1
          simpa using this
        rw [List.getElem?_map, nth_get? xs j hjl] at hj
        simp only [Option.map_some, Option.some.injEq] at hj
        rw [Nat.zero_add, hown.out.cellAt j (by rw [Hxn.out]; omega), fillRow_full _ _ _ _ (by rw [Hxn.out]; exact hjl), Hcs.out, ← hj])
      have hbk : w.heap.size < wr.heap.size := by
        by_cases h : 0 < k
        · exact (hown.out.lt _ rfl).2
        · exact (hown.out.lt _ rfl).2
      have hml : Hid ((xs.map fun z => ba (Lib.itoa z)).length = k) := Lib.hid (by rw [List.length_map, Hxn.out])
      have hjoin : Hid (Lib.join ((xs.map fun z => ba (Lib.itoa z)).map (·.data.toList)) sp.data.toList = joinN xs c) := Lib.hid (by
        rw [Hsp.out]
        unfold joinN
        rw [List.map_map]; rfl)
      have hJ := Tryz_strings_Join w.heap.size 0 k (xs.map fun z => ba (Lib.itoa z)) sp wr hcells.out hbk (by rw [hml.out]; omega) (by rw [hml.out]; exact Nat.le_refl _) (by rw [hjoin.out]; have := hlen.out; omega)
      rw [hml.out, hjoin.out] at hJ
      have HJ := Lib.hid hJ
      clear hJ
      go_wp2_with fail
      refine HJ.out.mono ?_
      rintro e w2 ⟨rfl, hb2⟩
      go_wp2_with fail
      go_ret
      exact ⟨rfl, below_trans' hbl hb2⟩
/-- The text of a list. -/
def listText (xs : List Int) : ByteArray := if fits xs = true then (if xs.length = 0 then ba [45] else ba (joinN xs 44)) else ByteArray.empty
theorem fits_len {xs : List Int} (h : fits xs = true) : xs.length ≤ 64 := by
  simp only [fits, Bool.and_eq_true, decide_eq_true_eq] at h
  exact h.1
end Go.Proofs.YtcakmchefbohoaaGreatDoor
