/- Contracts: the text of a partition, of the program and of the reference. -/
import Derived.Test.YtcakmchefbohoaaGreatDoorProg
import Derived.Test.YtcakmchefbohoaaGreatDoorMem
import Derived.Test.YtcakmchefbohoaaGreatDoorMath
import Derived.Test.YtcakmchefbohoaaGreatDoorBasics
import Derived.Test.YtcakmchefbohoaaGreatDoorHelpI
import Derived.Test.YtcakmchefbohoaaGreatDoorHelpII
import Derived.Test.YtcakmchefbohoaaGreatDoorOpenI
import Derived.Test.YtcakmchefbohoaaGreatDoorGrid
import Derived.Test.YtcakmchefbohoaaGreatDoorPart
import Derived.Test.YtcakmchefbohoaaGreatDoorPartW
import Derived.Test.YtcakmchefbohoaaGreatDoorBlocks
import Derived.Test.YtcakmchefbohoaaGreatDoorShelf
import Derived.Test.YtcakmchefbohoaaGreatDoorDec
import Derived.Test.YtcakmchefbohoaaGreatDoorNum
import Derived.Test.YtcakmchefbohoaaGreatDoorText
import Derived.Test.YtcakmchefbohoaaGreatDoorSplit
import Derived.Test.YtcakmchefbohoaaGreatDoorList
import Derived.WalkKit
import Derived.BigQuiet
import Derived.Maps.AppendAt
import Derived.Lib.SmallJoins
import Derived.Lib.Hide
import Derived.Outline
set_option linter.unusedVariables false
set_option linter.unusedSimpArgs false
namespace Go.Proofs.YtcakmchefbohoaaGreatDoor
open Go.RowKit

/-- Rows of numbers as one text. -/
def rowT (xs : List Int) : List UInt8 := joinN xs 32
def rowsT (xss : List (List Int)) : List UInt8 := Lib.join (xss.map rowT) [124]
def partText (p : List Int) : ByteArray := if isPart p = true then ba (rowsT (blocksL p)) else ByteArray.empty
theorem rowsT_first {xss : List (List Int)} (h : 0 < xss.length) : rowsT (xss.take 1) = rowT (rnth xss 0) := by
  rw [take_rnth xss 0 h, List.take_zero, List.nil_append]
  exact Lib.join_one _ _
theorem rowsT_step {xss : List (List Int)} {k : Nat} (h : k < xss.length) (h0 : 0 < k) : rowsT (xss.take (k + 1)) = rowsT (xss.take k) ++ [124] ++ rowT (rnth xss k) := by
  unfold rowsT
  rw [take_rnth xss k h, List.map_append, List.map_cons, List.map_nil, join_snoc]
  intro e
  have := congrArg List.length e
  have e0 : ([] : List (List UInt8)).length = 0 := rfl
  rw [List.length_map, List.length_take, e0] at this
  omega
theorem join_len (c : UInt8) (m : Nat) : ∀ xs : List (List UInt8), (∀ x ∈ xs, x.length ≤ m) → (Lib.join xs [c]).length ≤ (m + 1) * xs.length := by
  have h2 : ∀ l : List (List UInt8), (∀ y ∈ l, y.length ≤ m) → (Lib.joinTail [c] l).length ≤ (m + 1) * l.length := by
    intro l
    induction l with
    | nil => intro _; simp [Lib.joinTail]
    | cons y q ih =>
      intro hl
      have h3 := hl y (by simp)
      have h4 := ih (fun z hz => hl z (by simp [hz]))
      simp only [Lib.joinTail, List.map_cons, List.flatten_cons, List.length_append, List.length_cons, List.length_nil] at h4 ⊢
      rw [Nat.mul_succ]
      omega
  intro xs h
  cases xs with
  | nil => simp [Lib.join_nil]
  | cons x r =>
    have h1 := h x (by simp)
    have h3 := h2 r (fun z hz => h z (by simp [hz]))
    rw [Lib.join_cons, List.length_append, List.length_cons, Nat.mul_succ]
    omega
theorem items_bd (p : List Int) (b i : Nat) : ∀ x ∈ itemsTo p b i, 0 ≤ x ∧ x < (i : Int) := by
  intro x hx
  obtain ⟨j, hj, rfl⟩ := List.mem_map.1 hx
  have := List.mem_range.1 (List.mem_filter.1 hj).1
  constructor
  · exact Int.natCast_nonneg j
  · show (j : Int) < i
    omega
theorem block_row {p : List Int} (h : isPart p = true) {k : Nat} (hk : k < (blocksL p).length) : I64s (rnth (blocksL p) k) ∧ (rnth (blocksL p) k).length ≤ 40 := by
  have h1 := (isPart_iff.1 h).2.1
  have hl : (blocksL p).length = nx p p.length := blocksTo_length _ _ _
  unfold blocksL
  rw [rnth_blocksTo _ _ _ _ (by omega)]
  refine ⟨fun x hx => ?_, Nat.le_trans (itemsTo_length _ _ _) h1⟩
  have := items_bd p k p.length x hx
  omega
theorem blocks_count {p : List Int} (h : isPart p = true) : 1 ≤ (blocksL p).length ∧ (blocksL p).length ≤ 40 := by
  have h1 := isPart_iff.1 h
  have hl : (blocksL p).length = nx p p.length := blocksTo_length _ _ _
  have h2 := nx_le p p.length
  have h3 := nb_lt p (i := 0) (k := p.length) (by omega)
  omega
theorem rows_len {p : List Int} (h : isPart p = true) (k : Nat) : (rowsT ((blocksL p).take k)).length ≤ 36000 := by
  have h1 := blocks_count h
  have h2 := join_len 124 880 (((blocksL p).take k).map rowT) (by
    intro x hx
    obtain ⟨r, hr, rfl⟩ := List.mem_map.1 hx
    obtain ⟨i, hi, rfl⟩ := List.mem_iff_getElem.1 (List.mem_of_mem_take hr)
    have h3 := block_row h hi
    have e : rnth (blocksL p) i = (blocksL p)[i] := by simp [rnth, hi]
    rw [e] at h3
    have := joinN_len _ 32 h3.1
    unfold rowT
    omega)
  rw [List.length_map, List.length_take] at h2
  unfold rowsT
  have : min k (blocksL p).length ≤ 40 := by omega
  have h4 : (880 + 1) * min k (blocksL p).length ≤ 881 * 40 := Nat.mul_le_mul_left _ this
  omega
set_option maxRecDepth 100000 in
set_option maxHeartbeats 1600000 in
theorem PartitionText_any (v : Value) (p : List Int) (w : World) (hn : p.length ≤ 1048576) (h64 : I64s p) (hT : PowTab w) (hv : RdI w v p) :
    Calls Tryz.prog 64 #[v] w fun e w' => e = .returned (.string (partText p)) ∧ Below w.heap.size w w' := by
  obtain ⟨i0, hi, hz0, hz1, hz2⟩ := info_parts infoStr
  have HV := Lib.hid hv
  have H64 := Lib.hid h64
  have HT := Lib.hid hT
  clear hv h64 hT
  cases hp : isPart p with
  | false =>
    have HX : Hid (partText p = ByteArray.empty) := Lib.hid (by unfold partText; rw [hp]; rfl)
    go_enter Tryz.func64, Tryz.ntmps64
    go_wp2_with fail
    refine (IsPartition_any _ p _ hn H64.out HV.out).mono ?_
    rw [hp]
    rintro e w1 ⟨rfl, hb1⟩
    go_wp2_with fail
    go_ret
    exact ⟨by rw [HX.out]; rfl, hb1⟩
  | true =>
    have HX : Hid (partText p = ba (rowsT (blocksL p))) := Lib.hid (by unfold partText; rw [if_pos hp])
    have hcnt := blocks_count hp
    have Hrow : Hid (∀ k, k < (blocksL p).length → I64s (rnth (blocksL p) k) ∧ (rnth (blocksL p) k).length ≤ 40) := Lib.hid fun k hk => block_row hp hk
    have Hlen : Hid ((rowsT (blocksL p)).length ≤ 36000) := Lib.hid (by have := rows_len hp (blocksL p).length; rwa [List.take_length] at this)
    have HP := Lib.hid hp
    clear hp
    go_enter Tryz.func64, Tryz.ntmps64
    go_wp2_with fail
    refine (IsPartition_any _ p _ hn H64.out HV.out).mono ?_
    rw [HP.out]
    rintro e w1 ⟨rfl, hb1⟩
    go_wp2_with fail
    refine (blocks_any _ p _ HP.out (HV.out.below hb1)).mono ?_
    rintro e w2 ⟨u, rfl, hu, hb2⟩
    have hbw := below_trans' hb1 hb2
    obtain ⟨X, hX⟩ : ∃ X, X = blocksL p := ⟨_, rfl⟩
    rw [← hX] at hu Hrow Hlen HX hcnt
    obtain ⟨cs, ⟨a, cap, rfl, hcap, hm, hc⟩, hrow⟩ := hu.rd
    obtain ⟨n, hxn⟩ : ∃ n, n = X.length := ⟨_, rfl⟩
    rw [← hxn] at hc hcap hcnt ⊢
    have Hxn := Lib.hid hxn
    have HRo := Lib.hid hrow
    clear hu hX hxn hrow
    go_wp2_with fail
    go_loopw [3, 12] (fun sv si wr => ∃ k : Nat, k ≤ n ∧ si = .int .i64 k ∧ Hid (wr.ownsRow w2.heap.size 9 1 sv k (((X.take k).map fun r => ba (rowT r)).map Value.string)) ∧ Below w2.heap.size w2 wr) (fun _ si _ => n - (intOf si).toNat)
    case atStart => exact ⟨0, Nat.zero_le _, rfl, Lib.hid (World.ownsRow_nil _ _ _ _), Below.refl _ _⟩
    case round =>
      obtain ⟨k, hk, rfl, HO, hbo⟩ := hrel
      obtain ⟨a5, c5, rfl⟩ := owned_slice HO.out
      by_cases hlt : k < n
      · obtain ⟨b, o, rfl, hb, hcc⟩ := hc (by omega)
        have hkx : k < X.length := by rw [← Hxn.out]; exact hlt
        obtain ⟨ar, cr, hr⟩ := (HRo.out k hkx).slice
        have hg : wr.cell? ⟨b, o + k, none⟩ = some (cs k) := (hbo.cell (by exact hb)).trans (hcc k (by omega))
        have HRk : Hid (RdI wr (cs k) (rnth X k)) := Lib.hid ((HRo.out k hkx).below hbo)
        rw [hr] at hg HRk
        obtain ⟨Y, hY⟩ : ∃ Y, Y = rnth X k := ⟨_, rfl⟩
        have H6 := Lib.hid (Hrow.out k hkx)
        have HT2 : Hid ((X.take (k + 1)).map (fun r => ba (rowT r)) = (X.take k).map (fun r => ba (rowT r)) ++ [ba (joinN Y 32)]) := Lib.hid (by rw [take_rnth X k hkx, List.map_append, hY]; rfl)
        rw [← hY] at hg HRk H6
        have hyl := H6.out.2
        clear hY hr hcc hkx
        go_wp2_with fail
        refine (joined_any _ Y _ 32 _ rfl ((HT.out.below hbw).below hbo) (by omega) H6.out.1 HRk.out).mono ?_
        rintro e w3 ⟨rfl, hb3⟩
        have HO3 := Lib.hid (ownsRow_below HO.out hb3)
        have hbo3 := below_trans' hbo hb3
        obtain ⟨L, hL⟩ : ∃ L, L = ((X.take k).map fun r => ba (rowT r)).map Value.string := ⟨_, rfl⟩
        rw [← hL] at HO3
        have HL := Lib.hid hL
        clear HO hL
        go_wp2_with (at_builtin; refine wpList_append_own_at _ rfl _ _ 37 rfl w2.heap.size 9 i0 (.string ByteArray.empty) 1 16 Tryz.underlying37 hi hz0 hz1 hz2 rfl (by decide) _ k _ rfl (HO3.out.alloc _) ⟨w3.heap.size, 0, none⟩ 1 1 [.string (ba (joinN Y 32))] rfl rfl (new_cell _ _ _ _ rfl) (str_one _) ?c2 ?c3 ?c4 ?_)
        case c2 => unfold maxLen; omega
        case c3 => omega
        case c4 => have := hbo3.size; first | omega | (simp; omega)
        intro v' w4 hown' hgrow hnil hloc
        have hbo4 : Below w2.heap.size w2 w4 := (hbo3.alloc hbo3.size _).grown hgrow (by have := hbo3.size; first | omega | (simp; omega)) (fun j hj => (HO3.out.lt j hj).1)
        have HO4 : Hid (w4.ownsRow w2.heap.size 9 1 v' (k + 1) (((X.take (k + 1)).map fun r => ba (rowT r)).map Value.string)) := by
          refine Lib.hid ?_
          rw [HT2.out, List.map_append, ← HL.out]
          exact hown'
        clear hown' hgrow hnil hloc HO3
        go_wp2_with fail
        go_roundw
        case rel => exact ⟨k + 1, by omega, by go_num, HO4, hbo4⟩
        case measure => simp [intOf]; omega
      · obtain rfl : k = n := by omega
        have hO := HO.out
        rw [List.take_of_length_le (by rw [Hxn.out]; exact Nat.le_refl _)] at hO
        obtain ⟨g, cap2, hgv⟩ := Joins.ownsRow_form hO (by omega)
        simp only [Value.slice.injEq] at hgv
        obtain ⟨rfl, _, rfl⟩ := hgv
        have hkc : k ≤ c5 := by
          rcases hO.2 with ⟨e, _⟩ | ⟨_, _, _, e, _, _, h, _⟩
          · cases e
          · cases e; exact h
        have hcells : ∀ (j : Nat) (x : ByteArray), (X.map fun r => ba (rowT r))[j]? = some x → wr.cell? ⟨g, 0 + j, none⟩ = some (.string x) := by
          intro j x hj
          have hjl : j < k := by
            have := (List.getElem?_eq_some_iff.1 hj).1
            rw [List.length_map] at this
            rw [Hxn.out]; exact this
          rw [Nat.zero_add, hO.cellAt j (by omega), List.getElem?_map, hj]; rfl
        have hgs : g < wr.heap.size := (hO.lt g rfl).2
        have hml : (X.map fun r => ba (rowT r)).length = k := by rw [List.length_map, Hxn.out]
        have hjoin : Lib.join ((X.map fun r => ba (rowT r)).map (·.data.toList)) ({ data := #[124] } : ByteArray).data.toList = rowsT X := by
          unfold rowsT
          rw [List.map_map]; rfl
        have hJ := Tryz_strings_Join g 0 c5 (X.map fun r => ba (rowT r)) ⟨#[124]⟩ wr hcells hgs (by rw [hml]; omega) (by rw [hml]; exact hkc) (by rw [hjoin]; have := Hlen.out; omega)
        rw [hml, hjoin] at hJ
        have HJ := Lib.hid hJ
        clear hJ hcells hml hjoin hO hkc
        go_wp2_with fail
        refine HJ.out.mono ?_
        rintro e w3 ⟨rfl, hb3⟩
        go_wp2_with fail
        go_ret
        exact ⟨by rw [HX.out]; rfl, below_trans' hbw (below_trans' hbo hb3)⟩
/-- What stands ahead of block b's numbers. -/
def preT (xss : List (List Int)) (b : Nat) : List UInt8 := if b = 0 then [] else rowsT (xss.take b) ++ [124]
theorem preT_end {xss : List (List Int)} {b : Nat} (h : b < xss.length) : preT xss b ++ rowT (rnth xss b) = rowsT (xss.take (b + 1)) := by
  unfold preT
  by_cases h0 : b = 0
  · subst h0; rw [if_pos rfl, List.nil_append, rowsT_first h]
  · rw [if_neg h0, rowsT_step h (by omega)]
set_option maxRecDepth 100000 in
set_option maxHeartbeats 1600000 in
theorem l02Text_any (v : Value) (p : List Int) (w : World) (hp : isPart p = true) (hv : RdI w v p) :
    Calls Tryz.prog 59 #[v] w fun e w' => e = .returned (.string (ba (rowsT (blocksL p)))) ∧ Below w.heap.size w w' := by
  have HV := Lib.hid hv
  have hcnt := blocks_count hp
  have Hrow : Hid (∀ k, k < (blocksL p).length → I64s (rnth (blocksL p) k) ∧ (rnth (blocksL p) k).length ≤ 40) := Lib.hid fun k hk => block_row hp hk
  have Hlen : Hid (∀ k, (rowsT ((blocksL p).take k)).length ≤ 36000) := Lib.hid fun k => rows_len hp k
  have HP := Lib.hid hp
  clear hp hv
  go_enter Tryz.func59, Tryz.ntmps59
  go_wp2_with fail
  refine (l02Blocks_any _ p _ HP.out HV.out).mono ?_
  rintro e w1 ⟨u, rfl, hu, hb1⟩
  obtain ⟨X, hX⟩ : ∃ X, X = blocksL p := ⟨_, rfl⟩
  rw [← hX] at hu Hrow Hlen hcnt
  obtain ⟨cs, ⟨a, cap, rfl, hcap, hm, hc⟩, hrow⟩ := hu.rd
  obtain ⟨n, hxn⟩ : ∃ n, n = X.length := ⟨_, rfl⟩
  rw [← hxn] at hc hcap hcnt ⊢
  have Hxn := Lib.hid hxn
  have HRo := Lib.hid hrow
  have HXe := Lib.hid hX
  clear hu hX hxn hrow HP HV
  go_wp2_with fail
  go_loopw [4, 5] (fun so sb wr => ∃ b : Nat, b ≤ n ∧ sb = .int .i64 b ∧ so = .string (ba (rowsT (X.take b))) ∧ Below w1.heap.size w1 wr) (fun _ sb _ => n - (intOf sb).toNat)
  case atStart => exact ⟨0, Nat.zero_le _, rfl, rfl, Below.refl _ _⟩
  case round =>
    obtain ⟨b, hbn, rfl, rfl, hbo⟩ := hrel
    by_cases hlt : b < n
    · obtain ⟨bl, o, rfl, hbb, hcc⟩ := hc (by omega)
      have hkx : b < X.length := by rw [← Hxn.out]; exact hlt
      obtain ⟨ar, cr, hr⟩ := (HRo.out b hkx).slice
      have hg0 : w1.cell? ⟨bl, o + b, none⟩ = some (cs b) := hcc b (by omega)
      have HRk := HRo.out b hkx
      rw [hr] at hg0 HRk
      have H6 := Lib.hid (Hrow.out b hkx)
      have HE := Lib.hid (preT_end hkx)
      obtain ⟨Y, hY⟩ : ∃ Y, Y = rnth X b := ⟨_, rfl⟩
      rw [← hY] at hg0 HRk H6 HE
      have hyl := H6.out.2
      obtain ⟨ar2, cr2, e9, hcap2, hm2, hcy⟩ := HRk
      obtain ⟨N, hN⟩ : ∃ N, N = Y.length := ⟨_, rfl⟩
      rw [← hN] at hg0 hyl hcap2 hcy e9
      cases e9
      have HN := Lib.hid hN
      have hPs : (ba (preT X b)).size ≤ 36001 := by
        have := Hlen.out b
        show (preT X b).length ≤ 36001
        unfold preT
        split
        · simp
        · rw [List.length_append]; simp; omega
      have hSs : (ba (rowsT (X.take b))).size ≤ 36000 := Hlen.out b
      have h124 : (⟨#[124]⟩ : ByteArray).size = 1 := rfl
      have HPre : Hid (b = 0 → ba (rowsT (X.take b)) = ba (preT X b)) := Lib.hid fun h => by subst h; rfl
      have HPre2 : Hid (0 < b → ba (rowsT (X.take b)) ++ ⟨#[124]⟩ = ba (preT X b)) := Lib.hid fun h => by
        unfold preT
        rw [if_neg (by omega), ← ba_append]; rfl
      clear hY hr hcc hN
      obtain ⟨wo, hwo⟩ : ∃ wo : World, wo = wr := ⟨_, rfl⟩
      rw [← hwo] at hbo ⊢
      clear hwo
      --INNER
      by_cases hb0 : b = 0
      · have HS0 := Lib.hid (HPre.out hb0)
        subst hb0
        obtain ⟨S0, hS0⟩ : ∃ S0, S0 = ba (rowsT (X.take 0)) := ⟨_, rfl⟩
        rw [← hS0] at HS0 hSs ⊢
        have HSt : Hid (ba (preT X 0 ++ joinN (Y.take 0) 32) = S0) := Lib.hid (by rw [List.take_zero, joinN_nil, List.append_nil, HS0.out])
        rw [Nat.add_zero] at hg0
        clear hS0 HPre HPre2
        rw [show ((0 : Nat) : Int) = 0 from rfl]
        go_wp2_with fail
        go_loopw [4, 6] (fun so si wr => ∃ i : Nat, i ≤ N ∧ si = .int .i64 i ∧ so = .string (ba (preT X 0 ++ joinN (Y.take i) 32)) ∧ Below w1.heap.size w1 wr) (fun _ si _ => N - (intOf si).toNat)
        case atStart => exact ⟨0, Nat.zero_le _, rfl, by rw [HSt.out], hbo⟩
        case round =>
          obtain ⟨i, hiN, rfl, rfl, hbi⟩ := hrel
          have hg1 : wr.cell? ⟨bl, o, none⟩ = some (.slice ar N cr) := (hbi.cell (by exact hbb)).trans hg0
          by_cases hli : i < N
          · obtain ⟨br, orr, rfl, hbr, hcr⟩ := hcy (by omega)
            have hg2 : wr.cell? ⟨br, orr + i, none⟩ = some (.int .i64 (nth Y i)) := (hbi.cell (by exact hbr)).trans (hcr i (by omega))
            have hr := Lib.hid (i64_nth H6.out.1 (show i < Y.length by rw [← HN.out]; exact hli))
            have hJl := joinN_take_len 32 H6.out.1 i (fun ys hy => joinN_len ys 32 hy)
            have hJs : (ba (preT X 0 ++ joinN (Y.take i) 32)).size ≤ 40000 := by
              rw [← ba_append, ByteArray.size_append]; omega
            obtain ⟨x, hx⟩ : ∃ x, x = nth Y i := ⟨_, rfl⟩
            rw [← hx] at hg2 hr
            obtain ⟨Z, hZ⟩ : ∃ Z : ByteArray, Z = ⟨(Lib.itoa x).toArray⟩ := ⟨_, rfl⟩
            have hZs : Z.size ≤ 21 := by rw [hZ]; exact itoa_len x hr.out.1 hr.out.2
            have HZ := Lib.hid hZ
            have hiy : i < Y.length := by rw [← HN.out]; exact hli
            clear hcr hJl
            by_cases hi0 : i = 0
            · subst hi0
              have HJ : Hid (ba (preT X 0 ++ joinN (Y.take (0 + 1)) 32) = ba (preT X 0 ++ joinN (Y.take 0) 32) ++ Z) := Lib.hid (by
                rw [Nat.zero_add, joinN_first _ hiy, List.take_zero, joinN_nil, List.append_nil, ← hx, ← ba_append, hZ]; rfl)
              rw [Nat.add_zero] at hg2
              obtain ⟨S, hSe⟩ : ∃ S, S = ba (preT X 0 ++ joinN (Y.take 0) 32) := ⟨_, rfl⟩
              rw [← hSe] at HJ hJs ⊢
              clear hSe hx hZ hiy
              go_wp2_with fail
              refine (l01Dec_any x _ hr.out.1 hr.out.2).mono ?_
              rw [← HZ.out]
              rintro e w3 ⟨rfl, hb3⟩
              go_wp2_with fail
              go_roundw
              case rel => exact ⟨0 + 1, by omega, by go_num, by rw [HJ.out], below_trans' hbi hb3⟩
              case measure => simp [intOf]; omega
            · have HJ : Hid (ba (preT X 0 ++ joinN (Y.take (i + 1)) 32) = ba (preT X 0 ++ joinN (Y.take i) 32) ++ ⟨#[32]⟩ ++ Z) := Lib.hid (by
                rw [joinN_step _ hiy (by omega), ← hx, ← ba_append, ← ba_append, ← ba_append, ← ba_append, hZ, ByteArray.append_assoc, ByteArray.append_assoc, ByteArray.append_assoc]; rfl)
              have hki : (0 : Int) < (i : Int) := by omega
              have hkn : 0 < i := by omega
              obtain ⟨S, hSe⟩ : ∃ S, S = ba (preT X 0 ++ joinN (Y.take i) 32) := ⟨_, rfl⟩
              rw [← hSe] at HJ hJs ⊢
              have hc32 : (⟨#[32]⟩ : ByteArray).size = 1 := rfl
              obtain ⟨C, hC⟩ : ∃ C : ByteArray, C = S ++ ⟨#[32]⟩ := ⟨_, rfl⟩
              have hCs : C.size ≤ 40001 := by rw [hC, ByteArray.size_append, hc32]; omega
              have HC := Lib.hid hC
              clear hSe hx hC hZ hiy
              go_wp2_with fail
              refine (l01Dec_any x _ hr.out.1 hr.out.2).mono ?_
              rw [← HZ.out, ← HC.out]
              rintro e w3 ⟨rfl, hb3⟩
              go_wp2_with fail
              go_roundw
              case rel => exact ⟨i + 1, by omega, by go_num, by rw [HJ.out, HC.out], below_trans' hbi hb3⟩
              case measure => simp [intOf]; omega
          · obtain rfl : i = N := by omega
            have HT : Hid (ba (preT X 0 ++ joinN (Y.take i) 32) = ba (rowsT (X.take (0 + 1)))) := Lib.hid (by rw [List.take_of_length_le (by rw [HN.out]; exact Nat.le_refl _), ← HE.out]; rfl)
            rw [HT.out]
            go_wp2_with fail
            go_roundw
            case rel => exact ⟨0 + 1, by omega, by go_num, rfl, hbi⟩
            case measure => simp [intOf]; omega
      · have HS0 := Lib.hid (HPre2.out (by omega))
        have hbi0 : (0 : Int) < (b : Int) := by omega
        have hbn0 : 0 < b := by omega
        obtain ⟨S0, hS0⟩ : ∃ S0, S0 = ba (rowsT (X.take b)) := ⟨_, rfl⟩
        rw [← hS0] at HS0 hSs ⊢
        have HSt : Hid (ba (preT X b ++ joinN (Y.take 0) 32) = S0 ++ ⟨#[124]⟩) := Lib.hid (by rw [List.take_zero, joinN_nil, List.append_nil, HS0.out])
        clear hS0 HPre HPre2
        go_wp2_with fail
        go_loopw [4, 6] (fun so si wr => ∃ i : Nat, i ≤ N ∧ si = .int .i64 i ∧ so = .string (ba (preT X b ++ joinN (Y.take i) 32)) ∧ Below w1.heap.size w1 wr) (fun _ si _ => N - (intOf si).toNat)
        case atStart => exact ⟨0, Nat.zero_le _, rfl, by rw [HSt.out], hbo⟩
        case round =>
          obtain ⟨i, hiN, rfl, rfl, hbi⟩ := hrel
          have hg1 : wr.cell? ⟨bl, o + b, none⟩ = some (.slice ar N cr) := (hbi.cell (by exact hbb)).trans hg0
          by_cases hli : i < N
          · obtain ⟨br, orr, rfl, hbr, hcr⟩ := hcy (by omega)
            have hg2 : wr.cell? ⟨br, orr + i, none⟩ = some (.int .i64 (nth Y i)) := (hbi.cell (by exact hbr)).trans (hcr i (by omega))
            have hr := Lib.hid (i64_nth H6.out.1 (show i < Y.length by rw [← HN.out]; exact hli))
            have hJl := joinN_take_len 32 H6.out.1 i (fun ys hy => joinN_len ys 32 hy)
            have hJs : (ba (preT X b ++ joinN (Y.take i) 32)).size ≤ 40000 := by
              rw [← ba_append, ByteArray.size_append]; omega
            obtain ⟨x, hx⟩ : ∃ x, x = nth Y i := ⟨_, rfl⟩
            rw [← hx] at hg2 hr
            obtain ⟨Z, hZ⟩ : ∃ Z : ByteArray, Z = ⟨(Lib.itoa x).toArray⟩ := ⟨_, rfl⟩
            have hZs : Z.size ≤ 21 := by rw [hZ]; exact itoa_len x hr.out.1 hr.out.2
            have HZ := Lib.hid hZ
            have hiy : i < Y.length := by rw [← HN.out]; exact hli
            clear hcr hJl
            by_cases hi0 : i = 0
            · subst hi0
              have HJ : Hid (ba (preT X b ++ joinN (Y.take (0 + 1)) 32) = ba (preT X b ++ joinN (Y.take 0) 32) ++ Z) := Lib.hid (by
                rw [Nat.zero_add, joinN_first _ hiy, List.take_zero, joinN_nil, List.append_nil, ← hx, ← ba_append, hZ]; rfl)
              rw [Nat.add_zero] at hg2
              obtain ⟨S, hSe⟩ : ∃ S, S = ba (preT X b ++ joinN (Y.take 0) 32) := ⟨_, rfl⟩
              rw [← hSe] at HJ hJs ⊢
              clear hSe hx hZ hiy
              go_wp2_with fail
              refine (l01Dec_any x _ hr.out.1 hr.out.2).mono ?_
              rw [← HZ.out]
              rintro e w3 ⟨rfl, hb3⟩
              go_wp2_with fail
              go_roundw
              case rel => exact ⟨0 + 1, by omega, by go_num, by rw [HJ.out], below_trans' hbi hb3⟩
              case measure => simp [intOf]; omega
            · have HJ : Hid (ba (preT X b ++ joinN (Y.take (i + 1)) 32) = ba (preT X b ++ joinN (Y.take i) 32) ++ ⟨#[32]⟩ ++ Z) := Lib.hid (by
                rw [joinN_step _ hiy (by omega), ← hx, ← ba_append, ← ba_append, ← ba_append, ← ba_append, hZ, ByteArray.append_assoc, ByteArray.append_assoc, ByteArray.append_assoc]; rfl)
              have hki : (0 : Int) < (i : Int) := by omega
              have hkn : 0 < i := by omega
              obtain ⟨S, hSe⟩ : ∃ S, S = ba (preT X b ++ joinN (Y.take i) 32) := ⟨_, rfl⟩
              rw [← hSe] at HJ hJs ⊢
              have hc32 : (⟨#[32]⟩ : ByteArray).size = 1 := rfl
              obtain ⟨C, hC⟩ : ∃ C : ByteArray, C = S ++ ⟨#[32]⟩ := ⟨_, rfl⟩
              have hCs : C.size ≤ 40001 := by rw [hC, ByteArray.size_append, hc32]; omega
              have HC := Lib.hid hC
              clear hSe hx hC hZ hiy
              go_wp2_with fail
              refine (l01Dec_any x _ hr.out.1 hr.out.2).mono ?_
              rw [← HZ.out, ← HC.out]
              rintro e w3 ⟨rfl, hb3⟩
              go_wp2_with fail
              go_roundw
              case rel => exact ⟨i + 1, by omega, by go_num, by rw [HJ.out, HC.out], below_trans' hbi hb3⟩
              case measure => simp [intOf]; omega
          · obtain rfl : i = N := by omega
            have HT : Hid (ba (preT X b ++ joinN (Y.take i) 32) = ba (rowsT (X.take (b + 1)))) := Lib.hid (by rw [List.take_of_length_le (by rw [HN.out]; exact Nat.le_refl _), ← HE.out]; rfl)
            rw [HT.out]
            go_wp2_with fail
            go_roundw
            case rel => exact ⟨b + 1, by omega, by go_num, rfl, hbi⟩
            case measure => simp [intOf]; omega
      --ENDINNER
    · obtain rfl : b = n := by omega
      have HT : Hid (X.take b = X) := Lib.hid (List.take_of_length_le (by rw [Hxn.out]; exact Nat.le_refl _))
      go_wp2_with fail
      go_ret
      exact ⟨by rw [HT.out, HXe.out]; rfl, below_trans' hb1 hbo⟩
end Go.Proofs.YtcakmchefbohoaaGreatDoor
