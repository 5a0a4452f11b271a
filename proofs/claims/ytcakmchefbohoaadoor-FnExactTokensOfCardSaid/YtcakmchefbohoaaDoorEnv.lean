/- What the labels' functions ask of the world: the table of powers of ten, the two errors of strconv, internal bytealg's MaxLen. -/
import Derived.Test.YtcakmchefbohoaaDoorProg
import Derived.Test.YtcakmchefbohoaaDoorMem
import Derived.Test.YtcakmchefbohoaaDoorDec
import Derived.LaidLaws
import Derived.Lib.SmallJoins
import Derived.Shelf.Vars
import Derived.Lib.Hide
set_option linter.unusedVariables false
set_option linter.unusedSimpArgs false
namespace Go.Proofs.YtcakmchefbohoaaDoor
open Go.RowKit

theorem iface_var {P : Program} {n nm : String} {d : DataW Unit} {r : List (String × DataW Unit)} {W : World} {g : Nat} {ti : TypeId} {ms : Array (String × TypeId)}
    (h : laidMet P ((n, .iface nm d) :: r) W) (hg : P.globalNamed n = some g) (ht : (P.globals[g]?).map (·.type) = some ti) (hi : P.underlying ti = some (.interface ms)) :
    ∃ tp p, W.var? P n = some #[.iface tp p] := by
  obtain ⟨ps, hv, _, _⟩ := h
  obtain ⟨g1, t1, ⟨cells⟩, fu, pp, q, k1, k2, k3, k4, _, _⟩ := hv
  obtain rfl := Option.some.inj (hg.symm.trans k1)
  obtain rfl := Option.some.inj (ht.symm.trans k2)
  obtain ⟨_, u, v, e, _, _⟩ := iface_of_trod hi k4
  simp only at e
  subst e
  exact ⟨u, v, k3⟩
def ErrVar (w : World) (n : String) : Prop := ∃ tp p, w.var? Tryd.prog n = some #[.iface tp p]
/-- The tables and errors of the decimals. -/
def Env3 (w : World) : Prop := PowTab w ∧ ErrVar w "strconv.ErrSyntax" ∧ ErrVar w "strconv.ErrRange"
theorem Env3.below {w w' : World} (h : Env3 w) (hb : Below w.heap.size w w') : Env3 w' := by
  obtain ⟨h1, ⟨t2, p2, h2⟩, ⟨t3, p3, h3⟩⟩ := h
  exact ⟨h1.below hb, ⟨t2, p2, Joins.var_stays (g := 1) (by kernel_rfl) h2 hb (Nat.le_refl _)⟩, ⟨t3, p3, Joins.var_stays (g := 2) (by kernel_rfl) h3 hb (Nat.le_refl _)⟩⟩
theorem err_ran {W : World} {nm : String} {d : DataW Unit} {r : List (String × DataW Unit)} (h : laidMet Tryd.prog (("strconv.ErrRange", .iface nm d) :: r) W) : ErrVar W "strconv.ErrRange" :=
  iface_var h (g := 2) (by kernel_rfl) (ti := 54) (by kernel_rfl) Tryd.underlying54
theorem err_syn {W : World} {nm : String} {d : DataW Unit} {r : List (String × DataW Unit)} (h : laidMet Tryd.prog (("strconv.ErrSyntax", .iface nm d) :: r) W) : ErrVar W "strconv.ErrSyntax" :=
  iface_var h (g := 1) (by kernel_rfl) (ti := 54) (by kernel_rfl) Tryd.underlying54
end Go.Proofs.YtcakmchefbohoaaDoor
