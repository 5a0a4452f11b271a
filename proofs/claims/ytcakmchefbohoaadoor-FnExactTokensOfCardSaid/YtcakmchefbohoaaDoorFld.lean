/- Plain law: the words of a text between spaces, by runes and by bytes. -/
import Derived.Test.YtcakmchefbohoaaDoorText
import Derived.Lib.FieldsP
import Derived.Lib.TrimUEq
import Derived.Lib.MapLaws
set_option linter.unusedVariables false
set_option linter.unusedSimpArgs false
namespace Go.Proofs.YtcakmchefbohoaaDoor
open Go.RowKit

/-- A space, as a rune; a piece that is not empty. -/
def isSp (r : Nat) : Bool := decide (r = 32)
def full (l : List UInt8) : Bool := !l.isEmpty
def fldB : List UInt8 → List UInt8 → List (List UInt8)
  | cur, [] => if cur = [] then [] else [cur]
  | cur, b :: t => if b = 32 then (if cur = [] then fldB [] t else cur :: fldB [] t) else fldB (cur ++ [b]) t
/-- A text laid ahead of the first piece. -/
def headWith (cur : List UInt8) : List (List UInt8) → List (List UInt8)
  | [] => [cur]
  | h :: t => (cur ++ h) :: t
theorem headWith_nil {L : List (List UInt8)} (h : L ≠ []) : headWith [] L = L := by cases L with
  | nil => exact absurd rfl h
  | cons a r => rfl
theorem full_ne {l : List UInt8} (h : l ≠ []) : full l = true := by cases l with
  | nil => exact absurd rfl h
  | cons a r => rfl
theorem fldB_split : ∀ (l cur : List UInt8), fldB cur l = (headWith cur (splitD 32 l)).filter full
  | [], cur => by
    rw [splitD_nil, fldB]
    by_cases h : cur = []
    · subst h; rfl
    · rw [if_neg h]; simp [headWith, full_ne h]
  | b :: t, cur => by
    rw [fldB]
    by_cases hb : b = 32
    · subst hb
      have ih := fldB_split t []
      rw [headWith_nil (splitD_ne 32 t)] at ih
      rw [if_pos rfl, splitD_hit, ih, headWith, List.append_nil, List.filter_cons]
      by_cases h : cur = []
      · subst h; rfl
      · rw [if_neg h, full_ne h]; rfl
    · rw [if_neg hb, splitD_miss t hb, fldB_split t (cur ++ [b])]
      congr 1
      cases hs : splitD 32 t with
      | nil => exact absurd hs (splitD_ne 32 t)
      | cons x r => simp [headWith, consHead]
theorem fldB_skip : ∀ (m : Nat) (cur l : List UInt8), m ≤ l.length → (∀ j, j < m → l.getD j 0 ≠ 32) → fldB cur l = fldB (cur ++ l.take m) (l.drop m)
  | 0, cur, l, _, _ => by simp
  | m + 1, cur, [], h, _ => by simp at h
  | m + 1, cur, b :: t, h, hz => by
    have h0 : b ≠ 32 := by have := hz 0 (by omega); simpa using this
    have e : fldB cur (b :: t) = fldB (cur ++ [b]) t := by
      conv => lhs; unfold fldB
      rw [if_neg h0]
    rw [e, fldB_skip m (cur ++ [b]) t (by simp at h; omega) (fun j hj => by have := hz (j + 1) (by omega); simpa using this)]
    simp
theorem rune_sp (s : ByteArray) (pos : Nat) (h : pos < s.size) :
    ((Utf8.decode s pos).1 = 32 → s.data.toList.getD pos 0 = 32 ∧ (Utf8.decode s pos).2 = 1) ∧ ((Utf8.decode s pos).1 ≠ 32 → ∀ j, j < (Utf8.decode s pos).2 → s.data.toList.getD (pos + j) 0 ≠ 32) := by
  rw [Lib.decode_N]
  have n0 : ∀ x : UInt8, x = 32 → x.toNat = 32 := by intro x hx; subst hx; rfl
  obtain ⟨b0, h0⟩ : ∃ b, b = s.data.toList.getD pos 0 := ⟨_, rfl⟩
  obtain ⟨b1, h1⟩ : ∃ b, b = s.data.toList.getD (pos + 1) 0 := ⟨_, rfl⟩
  obtain ⟨b2, h2⟩ : ∃ b, b = s.data.toList.getD (pos + 2) 0 := ⟨_, rfl⟩
  obtain ⟨b3, h3⟩ : ∃ b, b = s.data.toList.getD (pos + 3) 0 := ⟨_, rfl⟩
  obtain ⟨n, hn⟩ : ∃ n, n = s.data.toList.length - pos := ⟨_, rfl⟩
  rw [← h0, ← h1, ← h2, ← h3, ← hn]
  have g0 := b0.toNat_lt
  have k0 : ∀ (P : Nat), (∀ j, j < P → (j = 0 → b0 ≠ 32) ∧ (j = 1 → b1 ≠ 32) ∧ (j = 2 → b2 ≠ 32) ∧ (j = 3 → b3 ≠ 32)) → P ≤ 4 → ∀ j, j < P → s.data.toList.getD (pos + j) 0 ≠ 32 := by
    intro P hP hP4 j hj
    obtain ⟨q0, q1, q2, q3⟩ := hP j hj
    match j, hj with
    | 0, _ => rw [Nat.add_zero, ← h0]; exact q0 rfl
    | 1, _ => rw [← h1]; exact q1 rfl
    | 2, _ => rw [← h2]; exact q2 rfl
    | 3, _ => rw [← h3]; exact q3 rfl
    | j + 4, hj => omega
  rcases Lib.decodeN_shape n b0.toNat b1.toNat b2.toNat b3.toNat with ⟨c, e⟩ | ⟨c, _, c1, d, e⟩ | ⟨c, _, c1, c2, d, _, e⟩ | ⟨c, _, c1, c2, c3, d, _, e⟩ | e
  · rw [e]
    refine ⟨fun hh => ⟨UInt8.toNat_inj.1 hh, rfl⟩, fun hh => k0 1 (fun j hj => ⟨fun _ hx => hh (n0 _ hx), by omega, by omega, by omega⟩) (by omega)⟩
  · rw [e]
    refine ⟨fun hh => by simp only at hh; omega, fun hh => k0 2 (fun j hj => ⟨fun _ hx => by have := n0 _ hx; omega, fun _ hx => by have := n0 _ hx; omega, by omega, by omega⟩) (by omega)⟩
  · rw [e]
    refine ⟨fun hh => by simp only at hh; omega, fun hh => k0 3 (fun j hj => ⟨fun _ hx => by have := n0 _ hx; omega, fun _ hx => by have := n0 _ hx; omega, fun _ hx => by have := n0 _ hx; omega, by omega⟩) (by omega)⟩
  · rw [e]
    refine ⟨fun hh => by simp only at hh; omega, fun hh => k0 4 (fun j hj => ⟨fun _ hx => by have := n0 _ hx; omega, fun _ hx => by have := n0 _ hx; omega, fun _ hx => by have := n0 _ hx; omega, fun _ hx => by have := n0 _ hx; omega⟩) (by omega)⟩
  · have hb : b0 ≠ 32 := by
      intro hx
      have hx2 := n0 _ hx
      have : Lib.decodeN n b0.toNat b1.toNat b2.toNat b3.toNat = (32, 1) := by rw [hx2]; rfl
      rw [this] at e
      cases e
    rw [e]
    exact ⟨fun hh => absurd (show (65533 : Nat) = 32 from hh) (by decide), fun hh => k0 1 (fun j hj => ⟨fun _ => hb, by omega, by omega, by omega⟩) (by omega)⟩
theorem spans_fld (s : ByteArray) : ∀ (f pos : Nat) (st : Option Nat) (acc : List (Nat × Nat)), s.size ≤ pos + f → pos ≤ s.size → (∀ a, st = some a → a < pos) →
    acc.map (fun p => Lib.pieceU s.data.toList p.1 p.2) ++ fldB (Lib.openPiece s.data.toList st pos) (s.data.toList.drop pos) = (Lib.closeSpans s (Lib.spansFromP isSp s f pos st acc)).map (fun p => Lib.pieceU s.data.toList p.1 p.2) := by
  have hsz : s.size = s.data.toList.length := by rw [ByteArray.size, Array.length_toList]
  have hend : ∀ (pos : Nat) (st : Option Nat) (acc : List (Nat × Nat)), pos = s.size → (∀ a, st = some a → a < pos) →
      acc.map (fun p => Lib.pieceU s.data.toList p.1 p.2) ++ fldB (Lib.openPiece s.data.toList st pos) (s.data.toList.drop pos) = (Lib.closeSpans s (acc, st)).map (fun p => Lib.pieceU s.data.toList p.1 p.2) := by
    intro pos st acc hp hst
    subst hp
    rw [List.drop_eq_nil_of_le (by omega)]
    cases st with
    | none => simp [Lib.closeSpans, Lib.openPiece, fldB]
    | some a =>
      have := Lib.pieceU_ne s.data.toList a s.size (hst a rfl) (by omega)
      simp [Lib.closeSpans, Lib.openPiece, fldB, this]
  intro f
  induction f with
  | zero =>
    intro pos st acc h hp hst
    rw [Lib.spansFromP]
    exact hend pos st acc (by omega) hst
  | succ f ih =>
    intro pos st acc h hp hst
    by_cases hlt : pos < s.size
    · obtain ⟨r1, r2⟩ := rune_sp s pos hlt
      have hw := Lib.width_pos s pos
      have hwn : pos + (Utf8.decode s pos).2 ≤ s.size := by
        have := Lib.decodeN_le_n' (s.size - pos) (s.get! pos).toNat (s.get! (pos + 1)).toNat (s.get! (pos + 2)).toNat (s.get! (pos + 3)).toNat (by omega)
        rw [← Lib.decode_at] at this
        omega
      by_cases hr : (Utf8.decode s pos).1 = 32
      · obtain ⟨q1, q2⟩ := r1 hr
        have hp1 : isSp (Utf8.decode s pos).1 = true := decide_eq_true hr
        have hd : s.data.toList.drop pos = 32 :: s.data.toList.drop (pos + 1) := by
          rw [List.drop_eq_getElem_cons (by omega)]
          rw [List.getD_eq_getElem?_getD, List.getElem?_eq_getElem (by omega)] at q1
          simp only [Option.getD_some] at q1
          rw [q1]
        cases st with
        | none =>
          simp only [Lib.spansFromP, if_pos hlt, if_pos hp1, q2]
          rw [hd]
          have e := ih (pos + 1) none acc (by omega) (by omega) (fun a h => by cases h)
          rw [← e]
          simp only [Lib.openPiece]
          congr 1
        | some a =>
          simp only [Lib.spansFromP, if_pos hlt, if_pos hp1, q2]
          rw [hd]
          have hpn := Lib.pieceU_ne s.data.toList a pos (hst a rfl) (by omega)
          have e := ih (pos + 1) none (acc ++ [(a, pos)]) (by omega) (by omega) (fun a h => by cases h)
          rw [← e]
          simp only [Lib.openPiece]
          rw [fldB, if_pos rfl, if_neg hpn]
          simp
      · have hp1 : ¬ isSp (Utf8.decode s pos).1 = true := by unfold isSp; simpa using hr
        have hsk := fldB_skip (Utf8.decode s pos).2 (Lib.openPiece s.data.toList st pos) (s.data.toList.drop pos) (by rw [List.length_drop]; omega) (fun j hj => by rw [Lib.getD_dropU]; exact r2 hr j hj)
        rw [hsk, List.drop_drop]
        cases st with
        | none =>
          simp only [Lib.spansFromP, if_pos hlt, if_neg hp1]
          have e := ih (pos + (Utf8.decode s pos).2) (some pos) acc (by omega) hwn (fun a h => by cases h; omega)
          rw [← e]
          simp only [Lib.openPiece, List.nil_append, Lib.pieceU, Nat.add_sub_cancel_left]
        | some a =>
          simp only [Lib.spansFromP, if_pos hlt, if_neg hp1]
          have e := ih (pos + (Utf8.decode s pos).2) (some a) acc (by omega) hwn (fun b h => by cases h; have := hst a rfl; omega)
          rw [← e]
          simp only [Lib.openPiece]
          rw [Lib.pieceU_grow _ _ _ _ (Nat.le_of_lt (hst a rfl))]
    · rw [Lib.spansFromP_end _ _ _ _ _ _ hlt]
      exact hend pos st acc (by omega) hst
theorem fields_sp (s : ByteArray) : (Lib.goFieldsP isSp s).map (·.data.toList) = (splitD 32 s.data.toList).filter full := by
  have h := spans_fld s s.size 0 none [] (by omega) (Nat.zero_le _) (fun a h => by cases h)
  simp only [List.map_nil, List.nil_append, Lib.openPiece, List.drop_zero] at h
  rw [fldB_split, headWith_nil (splitD_ne 32 _)] at h
  unfold Lib.goFieldsP Lib.spansOfP
  rw [h, List.map_map]
  congr 1
  funext p
  simp [Lib.pieceU]
end Go.Proofs.YtcakmchefbohoaaDoor
