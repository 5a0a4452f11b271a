/- A map[int64]int64 that the call itself makes, told by a plain function from numbers to numbers. -/
import Derived.Test.YtcakmchefbohoaaGreatDoorProg
import Derived.Test.YtcakmchefbohoaaGreatDoorMem
import Derived.WalkKit
import Derived.Maps.OwnOps
import Derived.Maps.OwnSet
set_option linter.unusedVariables false
set_option linter.unusedSimpArgs false
namespace Go.Proofs.YtcakmchefbohoaaGreatDoor
open Go.RowKit Go.Maps

theorem lawI64 : Keyed Tryz.prog 2 := int_keyed Tryz.underlying2
theorem zeroI64 (w : World) : (zeroValue 2).run Tryz.prog w = .ok (.int .i64 0) w := by kernel_rfl
/-- Block B is a map of n entries at most, of sz entries, that holds f. -/
def MapI (w : World) (B n : Nat) (f : Int → Option Int) (sz : Nat) : Prop :=
  ∃ D : DataW Unit, w.ownsMap Tryz.prog 2 (plainElem Tryz.prog 2) B n D ∧ Maps.size D = sz ∧
    ∀ x, Maps.has D (.int .i64 x) = (f x).isSome ∧ ∀ v, f x = some v → D.atKey (.int .i64 x) (.lit (.int .i64 0)) = .lit (.int .i64 v)
theorem wf64 {x : Int} (h : -9223372036854775808 ≤ x ∧ x ≤ 9223372036854775807) : (Lit.int .i64 x).wf = true := by
  simp [Lit.wf, IntKind.min, IntKind.max, IntKind.bits, IntKind.signed]
  omega
theorem MapI_made (w : World) : MapI (w.alloc (.map #[] 0)) w.heap.size 0 (fun _ => none) 0 :=
  ⟨.map [], World.ownsMap_made _ _ _ _, rfl, fun x => ⟨rfl, fun v h => by cases h⟩⟩
theorem MapI.kept {w w' : World} {B n : Nat} {f : Int → Option Int} {sz : Nat} (h : MapI w B n f sz) (hg : ∀ k, k < w.heap.size → k = B → w'.heap[k]? = w.heap[k]?) : MapI w' B n f sz := by
  obtain ⟨D, h1, h2, h3⟩ := h
  have hlt := h1.lt
  refine ⟨D, ?_, h2, h3⟩
  obtain ⟨es, clock, hh, hr⟩ := h1
  exact ⟨es, clock, (hg B hlt rfl).trans hh, hr⟩
theorem wpList_mapI_look {w : World} {ops : Array Oper} {rest : List Oper} {o : Oper} {a : Act} {Q : Exit → Act → World → Prop} {B n : Nat} {f : Int → Option Int} {sz : Nat} (h : MapI w B n f sz)
    (hg : o.guard = none) (m x : Operand) (hop : o.op = Op.lookup 160 m x true) (hm : a.eval m = .map (some B)) (k : Int) (hx : a.eval x = .int .i64 k) (hk : -9223372036854775808 ≤ k ∧ k ≤ 9223372036854775807)
    (hK : ∀ c : Int, (∀ v, f k = some v → c = v) → wpList Tryz.prog ops Q rest (a.put o.dst (.tuple #[.int .i64 c, .bool (f k).isSome])) w) : wpList Tryz.prog ops Q (o :: rest) a w := by
  obtain ⟨D, h1, h2, h3⟩ := h
  refine wpList_lookup_own_ok_int (w := w) hg m x 160 hop 2 2 .i64 lawI64 Tryz.underlying160 Tryz.underlying2 (zeroI64 _) B n D hm h1 _ (.int .i64 k) hx (keyOf_int_mk Tryz.underlying2 (wf64 hk)) ?_
  intro c hat _
  rw [(h3 k).1]
  refine hK c fun v hv => ?_
  rw [(h3 k).2 v hv] at hat
  cases hat
  rfl
theorem wpList_mapI_len {w : World} {ops : Array Oper} {rest : List Oper} {o : Oper} {a : Act} {Q : Exit → Act → World → Prop} {B n : Nat} {f : Int → Option Int} {sz : Nat} (h : MapI w B n f sz)
    (hg : o.guard = none) (m : Operand) (hop : o.op = Op.call { callee := Callee.builtin Builtin.len, args := #[m], argTypes := #[160] }) (hm : a.eval m = .map (some B))
    (hK : wpList Tryz.prog ops Q rest (a.put o.dst (.int .i64 (sz : Int))) w) : wpList Tryz.prog ops Q (o :: rest) a w := by
  obtain ⟨D, h1, h2, h3⟩ := h
  refine wpList_len_own (w := w) hg m 160 hop 2 2 Tryz.underlying160 _ B n D hm h1 ?_
  rw [h2]
  exact hK
theorem wpList_mapI_put {w : World} {ops : Array Oper} {rest : List Oper} {o : Oper} {a : Act} {Q : Exit → Act → World → Prop} {B n : Nat} {f : Int → Option Int} {sz : Nat} (h : MapI w B n f sz)
    (hg : o.guard = none) (m x v : Operand) (hop : o.op = Op.mapUpdate 160 m x v) (hm : a.eval m = .map (some B)) (hn : n < maxLen) (k : Int) (hx : a.eval x = .int .i64 k) (hk : -9223372036854775808 ≤ k ∧ k ≤ 9223372036854775807)
    (y : Int) (hv : a.eval v = .int .i64 y) (hy : -9223372036854775808 ≤ y ∧ y ≤ 9223372036854775807)
    (hK : ∀ w', MapI w' B (n + 1) (fun z => if z = k then some y else f z) (if (f k).isSome then sz else sz + 1) → One B w w' → wpList Tryz.prog ops Q rest (a.put o.dst undef) w') : wpList Tryz.prog ops Q (o :: rest) a w := by
  obtain ⟨D, h1, h2, h3⟩ := h
  refine wpList_mapUpdate_own w hg m x v 160 hop 2 2 lawI64 Tryz.underlying160 _ B n D hm h1 hn _ _ (.int .i64 k) hx hv (keyOf_int_mk Tryz.underlying2 (wf64 hk)) (.lit (.int .i64 y)) [] (plainElem_int Tryz.underlying2 (wf64 hy)) ?_
  intro w' g1 g2
  have hT : Tidy D := h1.tidy lawI64
  have hkl : WideAt.IsKeyLit (.int .i64 k) := by trivial
  refine hK w' ⟨_, g1, ?_, fun z => ?_⟩ g2
  · rw [size_put hT, h2, (h3 k).1]
  · by_cases e : z = k
    · subst e
      dsimp only
      rw [if_pos rfl]
      exact ⟨has_put_same hT.isMap hkl _, fun v hv => by cases hv; exact atKey_put_same hT.isMap hkl _ _⟩
    · dsimp only
      rw [if_neg e]
      have hne : (Lit.int .i64 z) ≠ (Lit.int .i64 k) := fun h => e (by cases h; rfl)
      rw [has_put_other hne, atKey_put_other hne]
      exact h3 z
end Go.Proofs.YtcakmchefbohoaaGreatDoor
