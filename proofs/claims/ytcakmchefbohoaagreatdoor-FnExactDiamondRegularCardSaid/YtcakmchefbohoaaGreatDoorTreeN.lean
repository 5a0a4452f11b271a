/- Prefix lists as forests, and the program's trees of Node: regularFrom, formulaFrom. -/
import Derived.Test.YtcakmchefbohoaaGreatDoorProg
import Derived.Test.YtcakmchefbohoaaGreatDoorMem
import Derived.Test.YtcakmchefbohoaaGreatDoorMath
import Derived.Test.YtcakmchefbohoaaGreatDoorBasics
import Derived.Test.YtcakmchefbohoaaGreatDoorOpenI
import Derived.Test.YtcakmchefbohoaaGreatDoorHelpI
import Derived.Test.YtcakmchefbohoaaGreatDoorGrid
import Derived.Test.YtcakmchefbohoaaGreatDoorLab
import Derived.Test.YtcakmchefbohoaaGreatDoorEnv
import Derived.Test.YtcakmchefbohoaaGreatDoorRLab
import Derived.Test.YtcakmchefbohoaaGreatDoorNode
import Derived.Test.YtcakmchefbohoaaGreatDoorNodeW
import Derived.Test.YtcakmchefbohoaaGreatDoorVMod
import Derived.Test.YtcakmchefbohoaaGreatDoorDec
import Derived.WalkKit
import Derived.BigQuiet
import Derived.BigRegion
import Derived.Deep.QuietTactic
import Derived.Maps.AppendAt
import Derived.Laws.OwnMore
import Derived.Lib.SliceRun
import Derived.Lib.Hide
import Derived.Outline
set_option linter.unusedVariables false
set_option linter.unusedSimpArgs false
namespace Go.Proofs.YtcakmchefbohoaaGreatDoor
open Go.RowKit

/-- A forest: the first tree's root, its operands, the trees behind it. -/
inductive FNd where
  | nil
  | cons (x : Nd) (kids next : FNd)
namespace FNd
def len : FNd → Nat
  | .nil => 0
  | .cons _ _ n => len n + 1
def flat : FNd → List Nd
  | .nil => []
  | .cons x k n => x :: (flat k ++ flat n)
def ok : FNd → Prop
  | .nil => True
  | .cons x k n => (len k : Int) = arity x.kind ∧ ok k ∧ ok n
def app : FNd → FNd → FNd
  | .nil, B => B
  | .cons x k n, B => .cons x k (app n B)
def tak : Nat → FNd → FNd
  | 0, _ => .nil
  | _ + 1, .nil => .nil
  | m + 1, .cons x k n => .cons x k (tak m n)
def drp : Nat → FNd → FNd
  | 0, G => G
  | _ + 1, .nil => .nil
  | m + 1, .cons _ _ n => drp m n
def build : List Nd → FNd
  | [] => .nil
  | x :: l => .cons x (tak (arity x.kind).toNat (build l)) (drp (arity x.kind).toNat (build l))
def fold {β : Type} (op : Nd → List β → β) : FNd → List β
  | .nil => []
  | .cons x k n => op x (fold op k) :: fold op n
theorem flat_parts (m : Nat) (G : FNd) : flat (tak m G) ++ flat (drp m G) = flat G := by
  induction G generalizing m with
  | nil => cases m <;> rfl
  | cons x k n _ ih =>
    cases m with
    | zero => rfl
    | succ m =>
      show x :: (flat k ++ flat (tak m n)) ++ flat (drp m n) = x :: (flat k ++ flat n)
      rw [← ih m]; simp
theorem flat_build (l : List Nd) : flat (build l) = l := by
  induction l with
  | nil => rfl
  | cons x l ih =>
    show x :: (flat (tak _ (build l)) ++ flat (drp _ (build l))) = x :: l
    rw [flat_parts, ih]
theorem len_parts (m : Nat) (G : FNd) : len (tak m G) = min m (len G) ∧ len (drp m G) = len G - m := by
  induction G generalizing m with
  | nil => cases m <;> simp [tak, drp, len]
  | cons x k n _ ih =>
    cases m with
    | zero => simp [tak, drp, len]
    | succ m =>
      have := ih m
      simp only [tak, drp, len]
      omega
theorem ok_parts (m : Nat) (G : FNd) (h : ok G) : ok (tak m G) ∧ ok (drp m G) := by
  induction G generalizing m with
  | nil => cases m <;> exact ⟨trivial, trivial⟩
  | cons x k n _ ih =>
    cases m with
    | zero => exact ⟨trivial, h⟩
    | succ m => exact ⟨⟨h.1, h.2.1, (ih m h.2.2).1⟩, (ih m h.2.2).2⟩
theorem fold_parts {β : Type} (op : Nd → List β → β) (m : Nat) (G : FNd) : fold op (tak m G) = (fold op G).take m ∧ fold op (drp m G) = (fold op G).drop m := by
  induction G generalizing m with
  | nil => cases m <;> exact ⟨rfl, rfl⟩
  | cons x k n _ ih =>
    cases m with
    | zero => exact ⟨rfl, rfl⟩
    | succ m =>
      have := ih m
      simp only [tak, drp, fold, List.take_succ_cons, List.drop_succ_cons]
      exact ⟨by rw [this.1], this.2⟩
theorem fold_len {β : Type} (op : Nd → List β → β) (G : FNd) : (fold op G).length = len G := by
  induction G with
  | nil => rfl
  | cons x k n _ ih => simp [fold, len, ih]
theorem fold_app {β : Type} (op : Nd → List β → β) (A B : FNd) : fold op (app A B) = fold op A ++ fold op B := by
  induction A with
  | nil => rfl
  | cons x k n _ ih => simp [fold, app, ih]
theorem flat_app (A B : FNd) : flat (app A B) = flat A ++ flat B := by
  induction A with
  | nil => rfl
  | cons x k n _ ih => simp [flat, app, ih]
theorem app_nil (A : FNd) : app A .nil = A := by
  induction A with
  | nil => rfl
  | cons x k n _ ih => simp [app, ih]
theorem app_assoc (A B C : FNd) : app (app A B) C = app A (app B C) := by
  induction A with
  | nil => rfl
  | cons x k n _ ih => simp [app, ih]
theorem len_app (A B : FNd) : len (app A B) = len A + len B := by
  induction A with
  | nil => simp [app, len]
  | cons x k n _ ih => simp [app, len, ih]; omega
theorem len_le_flat (G : FNd) : len G ≤ (flat G).length := by
  induction G with
  | nil => exact Nat.le_refl _
  | cons x k n _ ih => simp only [len, flat, List.length_cons, List.length_append]; omega
/-- A list that is shaped right: each of its ends is a forest of as many trees as are wanted there. -/
theorem suffix {f : List Nd} (h1 : ∀ i, i < f.length → needN f i ≠ 0) (h2 : needN f f.length = 0) :
    ∀ i, i ≤ f.length → ((len (build (f.drop i)) : Nat) : Int) = needN f i ∧ ok (build (f.drop i)) := by
  have hnn : ∀ i, i ≤ f.length → 0 ≤ needN f i := by
    intro i
    induction i with
    | zero => intro _; simp [needN]
    | succ i ih =>
      intro hi
      have h := ih (by omega)
      have h0 := h1 i (by omega)
      have := arity_bd (ndnth f i).kind
      rw [needN]; omega
  have key : ∀ j, j ≤ f.length → ((len (build (f.drop (f.length - j))) : Nat) : Int) = needN f (f.length - j) ∧ ok (build (f.drop (f.length - j))) := by
    intro j
    induction j with
    | zero =>
      intro _
      rw [Nat.sub_zero, List.drop_length, h2]
      exact ⟨rfl, trivial⟩
    | succ j ih =>
      intro hj
      obtain ⟨i, hi⟩ : ∃ i, i = f.length - (j + 1) := ⟨_, rfl⟩
      have hij : f.length - j = i + 1 := by omega
      rw [← hi]
      have hif : i < f.length := by omega
      obtain ⟨e1, e2⟩ := ih (by omega)
      rw [hij] at e1 e2
      rw [List.drop_eq_getElem_cons hif, ← ndnth_eq f i hif]
      obtain ⟨G, hG⟩ : ∃ G, G = build (f.drop (i + 1)) := ⟨_, rfl⟩
      rw [← hG] at e1 e2
      have hb := arity_bd (ndnth f i).kind
      have hn := h1 i hif
      have hn0 := hnn i (by omega)
      rw [needN] at e1
      have hB : build (ndnth f i :: f.drop (i + 1)) = .cons (ndnth f i) (tak (arity (ndnth f i).kind).toNat G) (drp (arity (ndnth f i).kind).toNat G) := by rw [hG]; rfl
      rw [hB]
      obtain ⟨l1, l2⟩ := len_parts (arity (ndnth f i).kind).toNat G
      refine ⟨?_, ?_, (ok_parts _ G e2).1, (ok_parts _ G e2).2⟩
      · rw [len, l2]; omega
      · rw [l1]; omega
  intro i hi
  have := key (f.length - i) (by omega)
  rwa [show f.length - (f.length - i) = i by omega] at this
theorem one {f : List Nd} (h1 : ∀ i, i < f.length → needN f i ≠ 0) (h2 : needN f f.length = 0) :
    ∃ x kids, build f = .cons x kids .nil ∧ ok (.cons x kids .nil) ∧ f = x :: flat kids := by
  obtain ⟨e1, e2⟩ := suffix h1 h2 0 (Nat.zero_le _)
  rw [List.drop_zero] at e1 e2
  have hf := flat_build f
  cases hB : build f with
  | nil => rw [hB] at e1; simp [len, needN] at e1
  | cons x k n =>
    rw [hB] at e1 e2 hf
    have hn : len n = 0 := by simp [len, needN] at e1; omega
    cases n with
    | nil => exact ⟨x, k, rfl, e2, by rw [← hf]; simp [flat]⟩
    | cons y k2 n2 => simp [len] at hn
end FNd

/-- The trees lie in memory, in blocks that K lets through. -/
def FAtNd (w : World) (K : Nat → Prop) : FNd → List Value → Prop
  | .nil, ps => ps = []
  | .cons x k n, ps => ∃ b qs v ps', ps = .pointer (some ⟨b, 0, none⟩) :: ps' ∧ K b ∧ b < w.heap.size ∧ (∀ j, j < 4 → w.cell? ⟨b, j, none⟩ = some (ndv x j)) ∧ w.cell? ⟨b, 4, none⟩ = some v ∧
      (∃ a cap, v = .slice a qs.length cap ∧ qs.length ≤ cap ∧ cap ≤ maxLen ∧ (0 < qs.length → ∃ b2 o2, a = some ⟨b2, o2, none⟩ ∧ K b2 ∧ b2 < w.heap.size ∧ ∀ i, i < qs.length → w.cell? ⟨b2, o2 + i, none⟩ = some (qs.getD i undef))) ∧
      FAtNd w K k qs ∧ FAtNd w K n ps'
theorem FAtNd.mono {w w' : World} {K K' : Nat → Prop} {G : FNd} {ps : List Value} (h : FAtNd w K G ps) (hs : w.heap.size ≤ w'.heap.size) (hb : ∀ b, K b → b < w.heap.size → w'.heap[b]? = w.heap[b]? ∧ K' b) : FAtNd w' K' G ps := by
  induction G generalizing ps with
  | nil => exact h
  | cons x k n ihk ihn =>
    obtain ⟨b, qs, v, ps', rfl, h1, h2, h3, h4, ⟨a, cap, rfl, h5, h6, h7⟩, h8, h9⟩ := h
    obtain ⟨e1, e2⟩ := hb b h1 h2
    refine ⟨b, qs, _, ps', rfl, e2, by omega, fun j hj => (World.cell?_of_block (a := ⟨b, j, none⟩) e1).trans (h3 j hj), (World.cell?_of_block (a := ⟨b, 4, none⟩) e1).trans h4, ⟨a, cap, rfl, h5, h6, fun h0 => ?_⟩, ihk h8, ihn h9⟩
    obtain ⟨b2, o2, rfl, g1, g2, g3⟩ := h7 h0
    obtain ⟨e3, e4⟩ := hb b2 g1 g2
    exact ⟨b2, o2, rfl, e4, by omega, fun i hi => (World.cell?_of_block (a := ⟨b2, o2 + i, none⟩) e3).trans (g3 i hi)⟩
theorem FAtNd.below {w w' : World} {K : Nat → Prop} {G : FNd} {ps : List Value} (h : FAtNd w K G ps) (hb : Below w.heap.size w w') : FAtNd w' K G ps :=
  h.mono hb.size fun b h1 h2 => ⟨hb.block b h2, h1⟩
theorem FAtNd.app {w : World} {K : Nat → Prop} {A B : FNd} {ps qs : List Value} (h : FAtNd w K A ps) (g : FAtNd w K B qs) : FAtNd w K (A.app B) (ps ++ qs) := by
  induction A generalizing ps with
  | nil => obtain rfl : ps = [] := h; exact g
  | cons x k n _ ih =>
    obtain ⟨b, qs', v, ps', rfl, h1, h2, h3, h4, h5, h8, h9⟩ := h
    exact ⟨b, qs', v, ps' ++ qs, rfl, h1, h2, h3, h4, h5, h8, ih h9⟩
theorem FAtNd.len {w : World} {K : Nat → Prop} {G : FNd} {ps : List Value} (h : FAtNd w K G ps) : ps.length = G.len := by
  induction G generalizing ps with
  | nil => obtain rfl : ps = [] := h; rfl
  | cons x k n _ ih =>
    obtain ⟨b, qs', v, ps', rfl, h1, h2, h3, h4, h5, h8, h9⟩ := h
    simp [FNd.len, ih h9]
theorem RdNd.tail {w : World} {b o n cap : Nat} {x : Nd} {l : List Nd} (h : RdNd w (.slice (some ⟨b, o, none⟩) n cap) (x :: l)) : RdNd w (.slice (some ⟨b, o + 4, none⟩) (n - 1) (cap - 1)) l := by
  obtain ⟨a', cap', e, h1, h2, h3⟩ := h
  cases e
  refine ⟨_, _, rfl, ?_, ?_, fun h0 => ?_⟩
  · simp only [List.length_cons] at h1; omega
  · omega
  · obtain ⟨b', o', e, hb, hc⟩ := h3 (by simp)
    cases e
    refine ⟨b, o + 4, rfl, hb, fun i hi => ?_⟩
    have := hc (i + 4) (by simp only [List.length_cons]; omega)
    rw [show o + 4 + i = o + (i + 4) by omega, this]
    unfold ndc
    rw [show (i + 4) / 4 = i / 4 + 1 by omega, show (i + 4) % 4 = i % 4 by omega]
    rfl
theorem ownsRow_setCell_other {w : World} {base e size : Nat} {v : Value} {n : Nat} {xs : List Value} (h : w.ownsRow base e size v n xs) (p : Addr) (hp : p.block < base) (u : Value) : (w.setCell p u).ownsRow base e size v n xs := by
  obtain ⟨h1, h2⟩ := h
  rcases h2 with ⟨rfl, rfl⟩ | ⟨g, cap, cur, rfl, hg, hh, hn, hm, hs, ht⟩
  · exact ⟨h1, Or.inl ⟨rfl, rfl⟩⟩
  · exact ⟨h1, Or.inr ⟨g, cap, cur, rfl, hg, by rw [Below.heap_setCell _ _ _ _ (by omega)]; exact hh, hn, hm, hs, ht⟩⟩
end Go.Proofs.YtcakmchefbohoaaGreatDoor
