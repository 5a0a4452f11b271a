/- What the labels' functions ask of the world: the table of powers of ten, the two errors of strconv, internal bytealg's MaxLen. -/
import Derived.Test.YtcakmchefbohoaaGreatDoorProg
import Derived.Test.YtcakmchefbohoaaGreatDoorMem
import Derived.Test.YtcakmchefbohoaaGreatDoorDec
import Derived.LaidLaws
import Derived.Lib.SmallJoins
import Derived.Shelf.Vars
import Derived.Lib.Hide
set_option linter.unusedVariables false
set_option linter.unusedSimpArgs false
namespace Go.Proofs.YtcakmchefbohoaaGreatDoor
open Go.RowKit

theorem iface_var {P : Program} {n nm : String} {d : DataW Unit} {r : List (String × DataW Unit)} {W : World} {g : Nat} {ti : TypeId} {ms : Array (String × TypeId)}
    (h : laidMet P ((n, .iface nm d) :: r) W) (hg : P.globalNamed n = some g) (ht : (P.globals[g]?).map (·.type) = some ti) (hi : P.underlying ti = some (.interface ms)) :
    ∃ tp p, W.var? P n = some #[.iface tp p] := by
  obtain ⟨ps, hv, _, _⟩ := h
  obtain ⟨g1, t1, ⟨cells⟩, fu, pp, q, k1, k2, k3, k4, _, _⟩ := hv
  obtain rfl := Option.some.inj (hg.symm.trans k1)
  obtain rfl := Option.some.inj (ht.symm.trans k2)
  obtain ⟨_, u, v, e, _, _⟩ := iface_of_trod hi k4
  simp only at e
  subst e
  exact ⟨u, v, k3⟩
def ErrVar (w : World) (n : String) : Prop := ∃ tp p, w.var? Tryz.prog n = some #[.iface tp p]
/-- The tables and errors of the decimals. -/
def Env3 (w : World) : Prop := PowTab w ∧ ErrVar w "strconv.ErrSyntax" ∧ ErrVar w "strconv.ErrRange"
theorem Env3.below {w w' : World} (h : Env3 w) (hb : Below w.heap.size w w') : Env3 w' := by
  obtain ⟨h1, ⟨t2, p2, h2⟩, ⟨t3, p3, h3⟩⟩ := h
  exact ⟨h1.below hb, ⟨t2, p2, Joins.var_stays (g := 3) (by kernel_rfl) h2 hb (Nat.le_refl _)⟩, ⟨t3, p3, Joins.var_stays (g := 4) (by kernel_rfl) h3 hb (Nat.le_refl _)⟩⟩
theorem err_ran {W : World} {nm : String} {d : DataW Unit} {r : List (String × DataW Unit)} (h : laidMet Tryz.prog (("strconv.ErrRange", .iface nm d) :: r) W) : ErrVar W "strconv.ErrRange" :=
  iface_var h (g := 4) (by kernel_rfl) (ti := 149) (by kernel_rfl) Tryz.underlying149
theorem err_syn {W : World} {nm : String} {d : DataW Unit} {r : List (String × DataW Unit)} (h : laidMet Tryz.prog (("strconv.ErrSyntax", .iface nm d) :: r) W) : ErrVar W "strconv.ErrSyntax" :=
  iface_var h (g := 3) (by kernel_rfl) (ti := 149) (by kernel_rfl) Tryz.underlying149
theorem lt_of_cell {w : World} {a : Addr} {v : Value} (h : w.cell? a = some v) : a.block < w.heap.size := by
  rcases Nat.lt_or_ge a.block w.heap.size with h' | h'
  · exact h'
  · simp [World.cell?, Array.getElem?_eq_none h'] at h
theorem max_shaped {w : World} (h : w.ShapedOpen Tryz.prog) : ∃ m, w.cell? ⟨0, 0, none⟩ = some (.int .i64 m) :=
  Go.Proofs.cell_of_shapedOpen_int (zero := #[.int .i64 0]) (t := 3) h (of_decide_eq_true (by kernel_rfl)) (by kernel_rfl) rfl (by kernel_rfl) (by kernel_rfl) Tryz.underlying3
/-- .. and MaxLen. -/
def Env (w : World) : Prop := Env3 w ∧ ∃ m, w.cell? ⟨0, 0, none⟩ = some (.int .i64 m)
theorem Env.below {w w' : World} (h : Env w) (hb : Below w.heap.size w w') : Env w' := by
  obtain ⟨h1, m, hm⟩ := h
  exact ⟨h1.below hb, m, (hb.cell (lt_of_cell hm)).trans hm⟩
end Go.Proofs.YtcakmchefbohoaaGreatDoor
