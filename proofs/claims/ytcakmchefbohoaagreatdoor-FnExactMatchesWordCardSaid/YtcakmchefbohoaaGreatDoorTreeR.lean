/- Prefix lists as forests, and the program's trees of Reg: regularFrom, formulaFrom. -/
import Derived.Test.YtcakmchefbohoaaGreatDoorProg
import Derived.Test.YtcakmchefbohoaaGreatDoorMem
import Derived.Test.YtcakmchefbohoaaGreatDoorMath
import Derived.Test.YtcakmchefbohoaaGreatDoorBasics
import Derived.Test.YtcakmchefbohoaaGreatDoorOpenI
import Derived.Test.YtcakmchefbohoaaGreatDoorHelpI
import Derived.Test.YtcakmchefbohoaaGreatDoorGrid
import Derived.Test.YtcakmchefbohoaaGreatDoorLab
import Derived.Test.YtcakmchefbohoaaGreatDoorEnv
import Derived.Test.YtcakmchefbohoaaGreatDoorRLab
import Derived.Test.YtcakmchefbohoaaGreatDoorReg
import Derived.Test.YtcakmchefbohoaaGreatDoorRegW
import Derived.Test.YtcakmchefbohoaaGreatDoorVReg
import Derived.Test.YtcakmchefbohoaaGreatDoorDec
import Derived.WalkKit
import Derived.BigQuiet
import Derived.BigRegion
import Derived.Deep.QuietTactic
import Derived.Maps.AppendAt
import Derived.Laws.OwnMore
import Derived.Lib.SliceRun
import Derived.Lib.Hide
import Derived.Outline
set_option linter.unusedVariables false
set_option linter.unusedSimpArgs false
namespace Go.Proofs.YtcakmchefbohoaaGreatDoor
open Go.RowKit

/-- A forest: the first tree's root, its operands, the trees behind it. -/
inductive FRg where
  | nil
  | cons (x : Rg) (kids next : FRg)
namespace FRg
def len : FRg → Nat
  | .nil => 0
  | .cons _ _ n => len n + 1
def flat : FRg → List Rg
  | .nil => []
  | .cons x k n => x :: (flat k ++ flat n)
def ok : FRg → Prop
  | .nil => True
  | .cons x k n => (len k : Int) = rarity x.kind ∧ ok k ∧ ok n
def app : FRg → FRg → FRg
  | .nil, B => B
  | .cons x k n, B => .cons x k (app n B)
def tak : Nat → FRg → FRg
  | 0, _ => .nil
  | _ + 1, .nil => .nil
  | m + 1, .cons x k n => .cons x k (tak m n)
def drp : Nat → FRg → FRg
  | 0, G => G
  | _ + 1, .nil => .nil
  | m + 1, .cons _ _ n => drp m n
def build : List Rg → FRg
  | [] => .nil
  | x :: l => .cons x (tak (rarity x.kind).toNat (build l)) (drp (rarity x.kind).toNat (build l))
def fold {β : Type} (op : Rg → List β → β) : FRg → List β
  | .nil => []
  | .cons x k n => op x (fold op k) :: fold op n
theorem flat_parts (m : Nat) (G : FRg) : flat (tak m G) ++ flat (drp m G) = flat G := by
  induction G generalizing m with
  | nil => cases m <;> rfl
  | cons x k n _ ih =>
    cases m with
    | zero => rfl
    | succ m =>
      show x :: (flat k ++ flat (tak m n)) ++ flat (drp m n) = x :: (flat k ++ flat n)
      rw [← ih m]; simp
theorem flat_build (l : List Rg) : flat (build l) = l := by
  induction l with
  | nil => rfl
  | cons x l ih =>
    show x :: (flat (tak _ (build l)) ++ flat (drp _ (build l))) = x :: l
    rw [flat_parts, ih]
theorem len_parts (m : Nat) (G : FRg) : len (tak m G) = min m (len G) ∧ len (drp m G) = len G - m := by
  induction G generalizing m with
  | nil => cases m <;> simp [tak, drp, len]
  | cons x k n _ ih =>
    cases m with
    | zero => simp [tak, drp, len]
    | succ m =>
      have := ih m
      simp only [tak, drp, len]
      omega
theorem ok_parts (m : Nat) (G : FRg) (h : ok G) : ok (tak m G) ∧ ok (drp m G) := by
  induction G generalizing m with
  | nil => cases m <;> exact ⟨trivial, trivial⟩
  | cons x k n _ ih =>
    cases m with
    | zero => exact ⟨trivial, h⟩
    | succ m => exact ⟨⟨h.1, h.2.1, (ih m h.2.2).1⟩, (ih m h.2.2).2⟩
theorem fold_parts {β : Type} (op : Rg → List β → β) (m : Nat) (G : FRg) : fold op (tak m G) = (fold op G).take m ∧ fold op (drp m G) = (fold op G).drop m := by
  induction G generalizing m with
  | nil => cases m <;> exact ⟨rfl, rfl⟩
  | cons x k n _ ih =>
    cases m with
    | zero => exact ⟨rfl, rfl⟩
    | succ m =>
      have := ih m
      simp only [tak, drp, fold, List.take_succ_cons, List.drop_succ_cons]
      exact ⟨by rw [this.1], this.2⟩
theorem fold_len {β : Type} (op : Rg → List β → β) (G : FRg) : (fold op G).length = len G := by
  induction G with
  | nil => rfl
  | cons x k n _ ih => simp [fold, len, ih]
theorem fold_app {β : Type} (op : Rg → List β → β) (A B : FRg) : fold op (app A B) = fold op A ++ fold op B := by
  induction A with
  | nil => rfl
  | cons x k n _ ih => simp [fold, app, ih]
theorem flat_app (A B : FRg) : flat (app A B) = flat A ++ flat B := by
  induction A with
  | nil => rfl
  | cons x k n _ ih => simp [flat, app, ih]
theorem app_nil (A : FRg) : app A .nil = A := by
  induction A with
  | nil => rfl
  | cons x k n _ ih => simp [app, ih]
theorem app_assoc (A B C : FRg) : app (app A B) C = app A (app B C) := by
  induction A with
  | nil => rfl
  | cons x k n _ ih => simp [app, ih]
theorem len_app (A B : FRg) : len (app A B) = len A + len B := by
  induction A with
  | nil => simp [app, len]
  | cons x k n _ ih => simp [app, len, ih]; omega
theorem len_le_flat (G : FRg) : len G ≤ (flat G).length := by
  induction G with
  | nil => exact Nat.le_refl _
  | cons x k n _ ih => simp only [len, flat, List.length_cons, List.length_append]; omega
/-- A list that is shaped right: each of its ends is a forest of as many trees as are wanted there. -/
theorem suffix {f : List Rg} (h1 : ∀ i, i < f.length → needR f i ≠ 0) (h2 : needR f f.length = 0) :
    ∀ i, i ≤ f.length → ((len (build (f.drop i)) : Nat) : Int) = needR f i ∧ ok (build (f.drop i)) := by
  have hnn : ∀ i, i ≤ f.length → 0 ≤ needR f i := by
    intro i
    induction i with
    | zero => intro _; simp [needR]
    | succ i ih =>
      intro hi
      have h := ih (by omega)
      have h0 := h1 i (by omega)
      have := rarity_bd (rgnth f i).kind
      rw [needR]; omega
  have key : ∀ j, j ≤ f.length → ((len (build (f.drop (f.length - j))) : Nat) : Int) = needR f (f.length - j) ∧ ok (build (f.drop (f.length - j))) := by
    intro j
    induction j with
    | zero =>
      intro _
      rw [Nat.sub_zero, List.drop_length, h2]
      exact ⟨rfl, trivial⟩
    | succ j ih =>
      intro hj
      obtain ⟨i, hi⟩ : ∃ i, i = f.length - (j + 1) := ⟨_, rfl⟩
      have hij : f.length - j = i + 1 := by omega
      rw [← hi]
      have hif : i < f.length := by omega
      obtain ⟨e1, e2⟩ := ih (by omega)
      rw [hij] at e1 e2
      rw [List.drop_eq_getElem_cons hif, ← rgnth_eq f i hif]
      obtain ⟨G, hG⟩ : ∃ G, G = build (f.drop (i + 1)) := ⟨_, rfl⟩
      rw [← hG] at e1 e2
      have hb := rarity_bd (rgnth f i).kind
      have hn := h1 i hif
      have hn0 := hnn i (by omega)
      rw [needR] at e1
      have hB : build (rgnth f i :: f.drop (i + 1)) = .cons (rgnth f i) (tak (rarity (rgnth f i).kind).toNat G) (drp (rarity (rgnth f i).kind).toNat G) := by rw [hG]; rfl
      rw [hB]
      obtain ⟨l1, l2⟩ := len_parts (rarity (rgnth f i).kind).toNat G
      refine ⟨?_, ?_, (ok_parts _ G e2).1, (ok_parts _ G e2).2⟩
      · rw [len, l2]; omega
      · rw [l1]; omega
  intro i hi
  have := key (f.length - i) (by omega)
  rwa [show f.length - (f.length - i) = i by omega] at this
theorem one {f : List Rg} (h1 : ∀ i, i < f.length → needR f i ≠ 0) (h2 : needR f f.length = 0) :
    ∃ x kids, build f = .cons x kids .nil ∧ ok (.cons x kids .nil) ∧ f = x :: flat kids := by
  obtain ⟨e1, e2⟩ := suffix h1 h2 0 (Nat.zero_le _)
  rw [List.drop_zero] at e1 e2
  have hf := flat_build f
  cases hB : build f with
  | nil => rw [hB] at e1; simp [len, needR] at e1
  | cons x k n =>
    rw [hB] at e1 e2 hf
    have hn : len n = 0 := by simp [len, needR] at e1; omega
    cases n with
    | nil => exact ⟨x, k, rfl, e2, by rw [← hf]; simp [flat]⟩
    | cons y k2 n2 => simp [len] at hn
end FRg

/-- The trees lie in memory, in blocks that K lets through. -/
def FAtRg (w : World) (K : Nat → Prop) : FRg → List Value → Prop
  | .nil, ps => ps = []
  | .cons x k n, ps => ∃ b qs v ps', ps = .pointer (some ⟨b, 0, none⟩) :: ps' ∧ K b ∧ b < w.heap.size ∧ (∀ j, j < 3 → w.cell? ⟨b, j, none⟩ = some (rgv x j)) ∧ w.cell? ⟨b, 3, none⟩ = some v ∧
      (∃ a cap, v = .slice a qs.length cap ∧ qs.length ≤ cap ∧ cap ≤ maxLen ∧ (0 < qs.length → ∃ b2 o2, a = some ⟨b2, o2, none⟩ ∧ K b2 ∧ b2 < w.heap.size ∧ ∀ i, i < qs.length → w.cell? ⟨b2, o2 + i, none⟩ = some (qs.getD i undef))) ∧
      FAtRg w K k qs ∧ FAtRg w K n ps'
theorem FAtRg.mono {w w' : World} {K K' : Nat → Prop} {G : FRg} {ps : List Value} (h : FAtRg w K G ps) (hs : w.heap.size ≤ w'.heap.size) (hb : ∀ b, K b → b < w.heap.size → w'.heap[b]? = w.heap[b]? ∧ K' b) : FAtRg w' K' G ps := by
  induction G generalizing ps with
  | nil => exact h
  | cons x k n ihk ihn =>
    obtain ⟨b, qs, v, ps', rfl, h1, h2, h3, h4, ⟨a, cap, rfl, h5, h6, h7⟩, h8, h9⟩ := h
    obtain ⟨e1, e2⟩ := hb b h1 h2
    refine ⟨b, qs, _, ps', rfl, e2, by omega, fun j hj => (World.cell?_of_block (a := ⟨b, j, none⟩) e1).trans (h3 j hj), (World.cell?_of_block (a := ⟨b, 3, none⟩) e1).trans h4, ⟨a, cap, rfl, h5, h6, fun h0 => ?_⟩, ihk h8, ihn h9⟩
    obtain ⟨b2, o2, rfl, g1, g2, g3⟩ := h7 h0
    obtain ⟨e3, e4⟩ := hb b2 g1 g2
    exact ⟨b2, o2, rfl, e4, by omega, fun i hi => (World.cell?_of_block (a := ⟨b2, o2 + i, none⟩) e3).trans (g3 i hi)⟩
theorem FAtRg.below {w w' : World} {K : Nat → Prop} {G : FRg} {ps : List Value} (h : FAtRg w K G ps) (hb : Below w.heap.size w w') : FAtRg w' K G ps :=
  h.mono hb.size fun b h1 h2 => ⟨hb.block b h2, h1⟩
theorem FAtRg.app {w : World} {K : Nat → Prop} {A B : FRg} {ps qs : List Value} (h : FAtRg w K A ps) (g : FAtRg w K B qs) : FAtRg w K (A.app B) (ps ++ qs) := by
  induction A generalizing ps with
  | nil => obtain rfl : ps = [] := h; exact g
  | cons x k n _ ih =>
    obtain ⟨b, qs', v, ps', rfl, h1, h2, h3, h4, h5, h8, h9⟩ := h
    exact ⟨b, qs', v, ps' ++ qs, rfl, h1, h2, h3, h4, h5, h8, ih h9⟩
theorem FAtRg.len {w : World} {K : Nat → Prop} {G : FRg} {ps : List Value} (h : FAtRg w K G ps) : ps.length = G.len := by
  induction G generalizing ps with
  | nil => obtain rfl : ps = [] := h; rfl
  | cons x k n _ ih =>
    obtain ⟨b, qs', v, ps', rfl, h1, h2, h3, h4, h5, h8, h9⟩ := h
    simp [FRg.len, ih h9]
theorem RdRg.tail {w : World} {b o n cap : Nat} {x : Rg} {l : List Rg} (h : RdRg w (.slice (some ⟨b, o, none⟩) n cap) (x :: l)) : RdRg w (.slice (some ⟨b, o + 3, none⟩) (n - 1) (cap - 1)) l := by
  obtain ⟨a', cap', e, h1, h2, h3⟩ := h
  cases e
  refine ⟨_, _, rfl, ?_, ?_, fun h0 => ?_⟩
  · simp only [List.length_cons] at h1; omega
  · omega
  · obtain ⟨b', o', e, hb, hc⟩ := h3 (by simp)
    cases e
    refine ⟨b, o + 3, rfl, hb, fun i hi => ?_⟩
    have := hc (i + 3) (by simp only [List.length_cons]; omega)
    rw [show o + 3 + i = o + (i + 3) by omega, this]
    unfold rgc
    rw [show (i + 3) / 3 = i / 3 + 1 by omega, show (i + 3) % 3 = i % 3 by omega]
    rfl
theorem ownsRow_setCell_other {w : World} {base e size : Nat} {v : Value} {n : Nat} {xs : List Value} (h : w.ownsRow base e size v n xs) (p : Addr) (hp : p.block < base) (u : Value) : (w.setCell p u).ownsRow base e size v n xs := by
  obtain ⟨h1, h2⟩ := h
  rcases h2 with ⟨rfl, rfl⟩ | ⟨g, cap, cur, rfl, hg, hh, hn, hm, hs, ht⟩
  · exact ⟨h1, Or.inl ⟨rfl, rfl⟩⟩
  · exact ⟨h1, Or.inr ⟨g, cap, cur, rfl, hg, by rw [Below.heap_setCell _ _ _ _ (by omega)]; exact hh, hn, hm, hs, ht⟩⟩
theorem infoPRg : (Tryz.prog.info? 80).map (fun i => (i.zero, i.size, i.bytes)) = some (some (.pointer none), 1, 8) := by kernel_rfl
set_option maxRecDepth 100000 in
set_option maxHeartbeats 2000000 in
theorem regularFrom_aux : ∀ (N : Nat) (x : Rg) (kids : FRg), kids.flat.length < N → ∀ (rest : List Rg) (v : Value) (w0 w : World), (FRg.cons x kids .nil).ok → (x :: (kids.flat ++ rest)).length ≤ 1048576 → RdRg w0 v (x :: (kids.flat ++ rest)) → Below w0.heap.size w0 w →
    Calls Tryz.prog 84 #[v] w fun e w' => ∃ p u, e = .returned (.tuple #[p, u]) ∧ FAtRg w' (fun b => w.heap.size ≤ b) (.cons x kids .nil) [p] ∧ RdRg w0 u rest ∧ Below w.heap.size w w' := by
  intro N
  induction N with
  | zero => intro x kids h; exact absurd h (by omega)
  | succ N ihN => ?_
  intro x kids hNk rest v w0 w hok hn hv hw0
  have Hw0 := Lib.hid hw0
  have IH := Lib.hid ihN
  clear ihN
  have HV := Lib.hid hv
  obtain ⟨a, cap, rfl, hcap, hcm, hv⟩ := hv
  obtain ⟨n, hxn⟩ : ∃ n, n = (x :: (kids.flat ++ rest)).length := ⟨_, rfl⟩
  obtain ⟨b, o, rfl, hb, g0, g1, g2⟩ := RdRg.cells (HV.out.below hw0) (i := 0) (by simp)
  clear hw0
  rw [← hxn] at hcap HV hn ⊢
  have Hxn := Lib.hid hxn
  have hn0 : 0 < n := by rw [hxn]; simp
  have e0 : rgnth (x :: (kids.flat ++ rest)) 0 = x := rfl
  rw [e0] at g0 g1 g2
  rw [Nat.zero_mul, Nat.add_zero] at g0 g1 g2
  clear hxn hv
  by_cases hc1 : cap = 1
  case pos =>
    subst hc1
    obtain rfl : n = 1 := by omega
    have hx2 := Hxn.out
    simp only [List.length_cons, List.length_append] at hx2
    have hrest : rest = [] := List.eq_nil_of_length_eq_zero (by omega)
    have hkl : kids.len = 0 := by have := FRg.len_le_flat kids; omega
    have hkn : kids = .nil := by
      cases kids with
      | nil => rfl
      | cons _ _ _ => simp [FRg.len] at hkl
    subst hrest
    subst hkn
    have hk1 : rarity x.kind = 0 := hok.1.symm
    clear hx2 hkl hn0 hcap e0 hn
    have HRe : Hid (RdRg w0 (.slice (some ⟨b, o, none⟩) 0 0) []) := Lib.hid ⟨_, 0, rfl, Nat.le_refl _, Nat.zero_le _, fun h => absurd h (by simp)⟩
    have hal : (w.alloc (.cells (#[.int .i64 x.kind, .string x.lab, .bool x.neg, .slice none 0 0]) 117)).heap.size = w.heap.size + 1 := by simp
    go_enter Tryz.func84, Tryz.ntmps84
    go_wp2_with fail
    refine (operandsR_any x.kind x.lab x.neg _).mono ?_
    rw [hk1]
    rintro e w1 ⟨rfl, hb1⟩
    have HT : Hid (FAtRg w1 (fun b => w.heap.size ≤ b) (.cons x .nil .nil) [.pointer (some ⟨w.heap.size, 0, none⟩)]) := Lib.hid (by
      have hXl : w.heap.size < w1.heap.size := by have := hb1.size; rw [hal] at this; omega
      refine ⟨w.heap.size, [], .slice none 0 0, [], rfl, Nat.le_refl _, hXl, ?_, ?_, ⟨none, 0, rfl, Nat.le_refl _, Nat.zero_le _, fun h => absurd h (by simp)⟩, rfl, rfl⟩
      · intro j hj
        rw [hb1.cell (by rw [hal]; exact Nat.lt_succ_self _), cell_of_row _ _ _ _ _ _ (heap_alloc_new w _)]
        have hc : j = 0 ∨ j = 1 ∨ j = 2 := by omega
        rcases hc with rfl | rfl | rfl <;> rfl
      · rw [hb1.cell (by rw [hal]; exact Nat.lt_succ_self _), cell_of_row _ _ _ _ _ _ (heap_alloc_new w _)]; rfl)
    have hbA : Below w.heap.size w w1 := ((Below.refl _ w).alloc (Nat.le_refl _) _).trans (hb1.mono (by rw [hal]; omega))
    clear hb1 hk1 hok
    go_wp2_with fail
    go_loopw [5, 18] (fun sr si wr => sr = .slice (some ⟨b, o, none⟩) 0 0 ∧ si = .int .i64 0 ∧ w1 = wr) (fun _ _ _ => 0)
    case atStart => exact ⟨rfl, rfl, rfl⟩
    case round =>
      obtain ⟨rfl, rfl, rfl⟩ := hrel
      go_wp2_with fail
      go_ret2
      exact ⟨_, _, rfl, HT.out, HRe.out, hbA⟩
  have hc2 : 1 < cap := by omega
  have hal : (w.alloc (.cells (#[.int .i64 x.kind, .string x.lab, .bool x.neg, .slice none 0 0]) 117)).heap.size = w.heap.size + 1 := by simp
  go_enter Tryz.func84, Tryz.ntmps84
  go_wp2_with fail
  refine (operandsR_any x.kind x.lab x.neg _).mono ?_
  rintro e w1 ⟨rfl, hb1⟩
  have hbA : Below w.heap.size w w1 := ((Below.refl _ w).alloc (Nat.le_refl _) _).trans (hb1.mono (by rw [hal]; omega))
  have hXl : w.heap.size < w1.heap.size := by have := hb1.size; rw [hal] at this; omega
  have hcs : ∀ j, j < 3 → w1.cell? ⟨w.heap.size, j, none⟩ = some (rgv x j) := by
    intro j hj
    rw [hb1.cell (by rw [hal]; exact Nat.lt_succ_self _), cell_of_row _ _ _ _ _ _ (heap_alloc_new w _)]
    have hc : j = 0 ∨ j = 1 ∨ j = 2 := by omega
    rcases hc with rfl | rfl | rfl <;> rfl
  have hca : w1.cell? ⟨w.heap.size, 3, none⟩ = some (.slice none 0 0) := by
    rw [hb1.cell (by rw [hal]; exact Nat.lt_succ_self _), cell_of_row _ _ _ _ _ _ (heap_alloc_new w _)]; rfl
  have hcf : w1.frozen? ⟨w.heap.size, 3, none⟩ = false := by
    rw [hb1.frozen (by rw [hal]; exact Nat.lt_succ_self _)]
    exact frozen_of_row _ _ _ _ _ (heap_alloc_new w _)
  have HR0 : Hid (RdRg w0 (.slice (some ⟨b, o + 3, none⟩) (n - 1) (cap - 1)) (kids.flat ++ rest)) := Lib.hid (by
    have h := RdRg.tail HV.out
    exact h)
  obtain ⟨hk1, hk2, _⟩ := hok
  obtain ⟨i0, hi, hz0, hz1, hz2⟩ := info_parts infoPRg
  obtain ⟨m, hm⟩ : ∃ m, m = kids.len := ⟨_, rfl⟩
  have Hm := Lib.hid hm
  have hmb : m ≤ 1048576 := by
    have h1 := FRg.len_le_flat kids
    have h2 := Hxn.out
    simp only [List.length_cons, List.length_append] at h2
    omega
  rw [← hk1, ← hm]
  clear hm hk1
  go_wp2_with fail
  go_loopw [5, 18] (fun sr si wr => ∃ (k : Nat) (D R : FRg) (ps : List Value) (av : Value) (asr : Option Addr) (L csr : Nat), k ≤ m ∧ si = .int .i64 k ∧ sr = .slice asr L csr ∧ Hid (D.app R = kids ∧ D.len = k ∧ R.ok) ∧ Hid (RdRg w0 (.slice asr L csr) (R.flat ++ rest)) ∧
      Hid (∀ j, j < 3 → wr.cell? ⟨w.heap.size, j, none⟩ = some (rgv x j)) ∧ wr.cell? ⟨w.heap.size, 3, none⟩ = some av ∧ wr.frozen? ⟨w.heap.size, 3, none⟩ = false ∧
      Hid (wr.ownsRow (w.heap.size + 1) 80 1 av k ps) ∧ Hid (FAtRg wr (fun b => w.heap.size < b ∧ av.ownBlock ≠ some b) D ps) ∧ w.heap.size < wr.heap.size ∧ Below w.heap.size w wr)
    (fun _ si _ => m - (intOf si).toNat)
  case atStart => exact ⟨0, .nil, kids, [], .slice none 0 0, _, _, _, Nat.zero_le _, rfl, rfl, Lib.hid ⟨rfl, rfl, hk2⟩, HR0, Lib.hid hcs, hca, hcf, Lib.hid (World.ownsRow_nil _ _ _ _), Lib.hid rfl, hXl, hbA⟩
  case round =>
    clear HR0 hcs hca hcf hbA hXl hb1
    obtain ⟨k, D, R, ps, av, asr, L, csr, hk, rfl, rfl, HD, HR, HC, hca, hcf, HO, HF, hXl, hbl⟩ := hrel
    by_cases hlt : k < m
    · obtain ⟨y, kk, nx, rfl⟩ : ∃ y kk nx, R = .cons y kk nx := by
        cases R with
        | nil =>
          exfalso
          have h := HD.out
          rw [FRg.app_nil] at h
          have := Hm.out
          rw [← h.1, h.2.1] at this
          omega
        | cons y kk nx => exact ⟨y, kk, nx, rfl⟩
      obtain ⟨hD1, hD2, hD3⟩ := HD.out
      have hfl : kids.flat = D.flat ++ (y :: (kk.flat ++ nx.flat)) := by rw [← hD1, FRg.flat_app]; rfl
      have hx2 := Hxn.out
      have hsz := congrArg List.length hfl
      simp only [List.length_cons, List.length_append] at hx2 hsz
      have HRy : Hid (RdRg w0 (.slice asr L csr) (y :: (kk.flat ++ (nx.flat ++ rest)))) := Lib.hid (by
        have h := HR.out
        rw [show ((FRg.cons y kk nx).flat ++ rest) = y :: (kk.flat ++ (nx.flat ++ rest)) by simp [FRg.flat]] at h
        exact h)
      have hyl : (y :: (kk.flat ++ (nx.flat ++ rest))).length ≤ 1048576 := by simp only [List.length_cons, List.length_append]; omega
      have hD4 : (D.app (.cons y kk .nil)).app nx = kids := by rw [FRg.app_assoc]; exact hD1
      have HD2 : Hid ((D.app (.cons y kk .nil)).app nx = kids ∧ (D.app (.cons y kk .nil)).len = k + 1 ∧ nx.ok) := Lib.hid ⟨hD4, by rw [FRg.len_app, hD2]; rfl, hD3.2.2⟩
      have hyk : (FRg.cons y kk .nil).ok := ⟨hD3.1, hD3.2.1, trivial⟩
      have hkN : kk.flat.length < N := by omega
      clear hfl hx2 hsz hD1 hD2 hD3 hD4 HD HR
      go_wp2_with fail
      refine (IH.out y kk hkN (nx.flat ++ rest) _ w0 _ hyk hyl HRy.out (Hw0.out.trans (hbl.mono Hw0.out.size))).mono ?_
      rintro e w2 ⟨p, u, rfl, hF2, hR2, hb2⟩
      obtain ⟨bp, rfl⟩ : ∃ bp, p = .pointer (some ⟨bp, 0, none⟩) := by
        obtain ⟨bp, _, _, _, e, _⟩ := hF2
        cases e; exact ⟨bp, rfl⟩
      obtain ⟨au, L2, cu, rfl⟩ : ∃ a L c, u = .slice a L c := by
        obtain ⟨a, c, e⟩ := hR2.slice
        exact ⟨a, _, c, e⟩
      have c2 := (hb2.cell (p := ⟨w.heap.size, 3, none⟩) hXl).trans hca
      have z2 := (hb2.frozen (p := ⟨w.heap.size, 3, none⟩) hXl).trans hcf
      have HO2 := Lib.hid (ownsRow_below HO.out hb2)
      have hs2 := hb2.size
      have hbl2 := below_trans' hbl hb2
      have HC2 : Hid (∀ j, j < 3 → w2.cell? ⟨w.heap.size, j, none⟩ = some (rgv x j)) := Lib.hid fun j hj => (hb2.cell (p := ⟨w.heap.size, j, none⟩) hXl).trans (HC.out j hj)
      have HF2 : Hid (FAtRg w2 (fun b => w.heap.size < b ∧ av.ownBlock ≠ some b) (D.app (.cons y kk .nil)) (ps ++ [.pointer (some ⟨bp, 0, none⟩)])) := Lib.hid (by
        refine FAtRg.app (HF.out.below hb2) (hF2.mono (Nat.le_refl _) fun b h1 _ => ⟨rfl, by omega, fun e => ?_⟩)
        have := HO.out.lt b e
        omega)
      have HR2 := Lib.hid hR2
      clear hF2 hR2 HF HC HO hca hcf hb2 hbl HRy hyl hkN hyk IH
      go_wp2_with (at_builtin; refine wpList_append_own_at _ rfl _ _ 115 rfl (w.heap.size + 1) 80 i0 (.pointer none) 1 8 Tryz.underlying115 hi hz0 hz1 hz2 rfl (by decide) _ k _ rfl (HO2.out.alloc _) ⟨w2.heap.size, 0, none⟩ 1 1 [.pointer (some ⟨bp, 0, none⟩)] rfl rfl (new_cell _ _ _ _ rfl) (by simp [Value.oneCell']) ?c2 ?c3 ?c4 ?_)
      case c2 => unfold maxLen; omega
      case c3 => omega
      case c4 => simp; omega
      intro v' w3 hown' hgrow hnil hloc
      obtain ⟨av', cv', rfl⟩ := owned_slice hown'
      have hXr : some w.heap.size ≠ av.ownBlock := fun e => by have := HO2.out.lt _ e.symm; omega
      have hal2 : (w2.alloc (.cells #[.pointer (some ⟨bp, 0, none⟩)] 80)).heap.size = w2.heap.size + 1 := by simp
      have hX3 : w3.heap[w.heap.size]? = w2.heap[w.heap.size]? := by
        rw [hgrow.block _ (by rw [hal2]; omega) hXr]
        exact ((Below.refl w2.heap.size w2).alloc (Nat.le_refl _) _).block _ (by omega)
      have c3 := (World.cell?_of_block (a := ⟨w.heap.size, 3, none⟩) hX3).trans c2
      have z3 := (World.frozen?_of_block (a := ⟨w.heap.size, 3, none⟩) hX3).trans z2
      have hs3 := hgrow.size
      rw [hal2] at hs3
      have HC3 : Hid (∀ j, j < 3 → (w3.setCell ⟨w.heap.size, 3, none⟩ (.slice av' (k + 1) cv')).cell? ⟨w.heap.size, j, none⟩ = some (rgv x j)) := Lib.hid fun j hj => by
        rw [World.cell?_setCell_other _ _ _ _ (by intro e; have := congrArg Addr.off e; simp only at this; omega)]
        exact (World.cell?_of_block (a := ⟨w.heap.size, j, none⟩) hX3).trans (HC2.out j hj)
      have hca3 : (w3.setCell ⟨w.heap.size, 3, none⟩ (.slice av' (k + 1) cv')).cell? ⟨w.heap.size, 3, none⟩ = some (.slice av' (k + 1) cv') := World.cell?_setCell_same _ _ _ c3
      have hcf3 : (w3.setCell ⟨w.heap.size, 3, none⟩ (.slice av' (k + 1) cv')).frozen? ⟨w.heap.size, 3, none⟩ = false := by rw [frozen_setCell]; exact z3
      have HO3 : Hid ((w3.setCell ⟨w.heap.size, 3, none⟩ (.slice av' (k + 1) cv')).ownsRow (w.heap.size + 1) 80 1 (.slice av' (k + 1) cv') (k + 1) (ps ++ [.pointer (some ⟨bp, 0, none⟩)])) := Lib.hid (ownsRow_setCell_other hown' _ (Nat.lt_succ_self _) _)
      have hXl3 : w.heap.size < (w3.setCell ⟨w.heap.size, 3, none⟩ (.slice av' (k + 1) cv')).heap.size := by rw [size_setCell]; omega
      have hbl3 : Below w.heap.size w (w3.setCell ⟨w.heap.size, 3, none⟩ (.slice av' (k + 1) cv')) := ((hbl2.alloc hbl2.size _).grown hgrow (by rw [hal2]; omega) (fun j hj => by have := HO2.out.lt j hj; omega)).setCell (Nat.le_refl _) _
      have HF3 : Hid (FAtRg (w3.setCell ⟨w.heap.size, 3, none⟩ (.slice av' (k + 1) cv')) (fun b => w.heap.size < b ∧ (Value.slice av' (k + 1) cv').ownBlock ≠ some b) (D.app (.cons y kk .nil)) (ps ++ [.pointer (some ⟨bp, 0, none⟩)])) := Lib.hid (by
        refine HF2.out.mono (by rw [size_setCell]; omega) fun b h1 h2 => ⟨?_, h1.1, fun e => ?_⟩
        · rw [Below.heap_setCell _ _ _ _ (by simp only; omega), hgrow.block b (by rw [hal2]; omega) (fun e => h1.2 e.symm)]
          exact ((Below.refl w2.heap.size w2).alloc (Nat.le_refl _) _).block _ h2
        · rcases hloc with h | h
          · exact h1.2 (h.symm.trans e)
          · rw [h] at e; simp at e
            omega)
      clear hown' hgrow hnil hloc hXr hX3 HO2 HF2 HC2 hbl2 c2 z2
      go_wp2_with fail
      go_roundw
      case rel => exact ⟨k + 1, D.app (.cons y kk .nil), nx, ps ++ [.pointer (some ⟨bp, 0, none⟩)], _, _, _, _, by omega, by go_num, rfl, HD2, HR2, HC3, hca3, hcf3, HO3, HF3, hXl3, hbl3⟩
      case measure => simp [intOf]; omega
    · obtain rfl : k = m := by omega
      have HE : Hid (D = kids) := Lib.hid (by
        obtain ⟨h1, h2, _⟩ := HD.out
        have h3 := Hm.out
        rw [← h1, FRg.len_app] at h3
        have hR0 : R.len = 0 := by omega
        cases R with
        | nil => rw [← h1, FRg.app_nil]
        | cons _ _ _ => simp [FRg.len] at hR0)
      have HRR : Hid (R.flat = []) := Lib.hid (by
        obtain ⟨h1, h2, _⟩ := HD.out
        have h3 := Hm.out
        rw [← h1, FRg.len_app] at h3
        have hR0 : R.len = 0 := by omega
        cases R with
        | nil => rfl
        | cons _ _ _ => simp [FRg.len] at hR0)
      rw [HRR.out, List.nil_append] at HR
      have HT : Hid (FAtRg wr (fun b => w.heap.size ≤ b) (.cons x kids .nil) [.pointer (some ⟨w.heap.size, 0, none⟩)]) := Lib.hid (by
        have hF := HF.out
        rw [HE.out] at hF
        have hpl := hF.len
        rw [← Hm.out] at hpl
        have hO := ownsRow_ow HO.out (fun i => ps.getD i undef) fun i hi => by rw [List.getD_eq_getElem?_getD, List.getElem?_eq_getElem (by omega)]; rfl
        refine ⟨w.heap.size, ps, av, [], rfl, Nat.le_refl _, hXl, HC.out, hca, ?_, hF.mono (Nat.le_refl _) fun b h1 _ => ⟨rfl, by omega⟩, rfl⟩
        obtain ⟨aa, cc, e, q1, q2, q3⟩ := hO
        rw [hpl]
        refine ⟨aa, cc, e, q1, q2, fun h0 => ?_⟩
        obtain ⟨b2, o2, e2, r1, r2, r3⟩ := q3 h0
        exact ⟨b2, o2, e2, by omega, r2, fun i hi => (r3 i (by omega)).1⟩)
      clear HF HC HO HD
      go_wp2_with fail
      go_ret2
      exact ⟨_, _, rfl, HT.out, HR.out, hbl⟩
theorem regularOf_any (x : Rg) (kids : FRg) (v : Value) (w : World) (hok : (FRg.cons x kids .nil).ok) (hn : (x :: kids.flat).length ≤ 1048576) (hv : RdRg w v (x :: kids.flat)) :
    Calls Tryz.prog 49 #[v] w fun e w' => ∃ b, e = .returned (.pointer (some ⟨b, 0, none⟩)) ∧ FAtRg w' (fun b => w.heap.size ≤ b) (.cons x kids .nil) [.pointer (some ⟨b, 0, none⟩)] ∧ Below w.heap.size w w' := by
  have HV := Lib.hid hv
  obtain ⟨a, cap, rfl⟩ := hv.slice
  clear hv
  go_enter Tryz.func49, Tryz.ntmps49
  go_wp2_with fail
  refine (regularFrom_aux (kids.flat.length + 1) x kids (Nat.lt_succ_self _) [] _ w w hok (by simpa using hn) (by simpa using HV.out) (Below.refl _ _)).mono ?_
  rintro e w1 ⟨p, u, rfl, hF, hR, hb⟩
  obtain ⟨bp, rfl⟩ : ∃ bp, p = .pointer (some ⟨bp, 0, none⟩) := by
    obtain ⟨bp, _, _, _, e, _⟩ := hF
    cases e; exact ⟨bp, rfl⟩
  have HF := Lib.hid hF
  obtain ⟨au, cu, rfl⟩ := hR.slice
  clear hF hR
  go_wp2_with fail
  go_ret
  exact ⟨_, rfl, HF.out, hb⟩
end Go.Proofs.YtcakmchefbohoaaGreatDoor
