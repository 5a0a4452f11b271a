/- Slices of Reg: how they read, how an argument of that type is opened. -/
import Derived.Test.YtpnihgcckbaigaaGreatDoorRows
import Derived.Test.YtpnihgcckbaigaaGreatDoorMem
import Derived.Test.YtpnihgcckbaigaaGreatDoorOpenI
import Derived.Test.YtpnihgcckbaigaaGreatDoorGrid
import Derived.Test.YtpnihgcckbaigaaGreatDoorOpenG
import Derived.WalkKit
import Derived.Lib.LaidTab
import Derived.DataElems
import Derived.DataReads
import Derived.ProofKit
import Derived.OpenShut
import Derived.ShutString
import Derived.ChangeOld
import Derived.Below
set_option linter.unusedVariables false
set_option linter.unusedSimpArgs false
namespace Go.Proofs.YtpnihgcckbaigaaGreatDoor
open Go.ChangeShapes Go.WideShapes Go.ChangeAt Go.RowKit

structure Rg where
  kind : Int
  lab : ByteArray
  neg : Bool
deriving DecidableEq
def rg0 : Rg := ⟨0, ByteArray.empty, false⟩
def rgnth (f : List Rg) (i : Nat) : Rg := f.getD i rg0
theorem rgnth_eq (f : List Rg) (i : Nat) (h : i < f.length) : rgnth f i = f[i] := by simp [rgnth, h]
theorem take_rgnth (f : List Rg) (i : Nat) (h : i < f.length) : f.take (i + 1) = f.take i ++ [rgnth f i] := by
  rw [List.take_succ_eq_append_getElem h, rgnth_eq f i h]
theorem rg_ext {f g : List Rg} (hl : f.length = g.length) (h : ∀ i, i < f.length → rgnth f i = rgnth g i) : f = g := by
  refine List.ext_getElem hl fun i h1 h2 => ?_
  rw [← rgnth_eq f i h1, ← rgnth_eq g i h2]
  exact h i h1
/-- The cells of one, of a list. -/
def rgv (n : Rg) (j : Nat) : Value := if j = 0 then .int .i64 n.kind else if j = 1 then .string n.lab else .bool n.neg
def rgc (f : List Rg) (i : Nat) : Value := rgv (rgnth f (i / 3)) (i % 3)
theorem rgc_at (f : List Rg) (i j : Nat) (hj : j < 3) : rgc f (i * 3 + j) = rgv (rgnth f i) j := by
  unfold rgc
  rw [show (i * 3 + j) / 3 = i by omega, show (i * 3 + j) % 3 = j by omega]
def RdRg (w : World) (v : Value) (f : List Rg) : Prop := Rd w 3 v f.length (rgc f)
def OwRg (w : World) (base : Nat) (v : Value) (f : List Rg) : Prop := Ow w base 3 v f.length (rgc f)
def InRg (w : World) (lo hi : Nat) (v : Value) (f : List Rg) : Prop := In w lo hi 3 v f.length (rgc f)
theorem RdRg.below {w w' : World} {v : Value} {f : List Rg} (h : RdRg w v f) (hb : Below w.heap.size w w') : RdRg w' v f := Rd.below h hb
theorem OwRg.rd {w : World} {base : Nat} {v : Value} {f : List Rg} (h : OwRg w base v f) : RdRg w v f := Ow.rd h
theorem OwRg.below {w w' : World} {base : Nat} {v : Value} {f : List Rg} (h : OwRg w base v f) (hb : Below w.heap.size w w') : OwRg w' base v f := Ow.below h hb
theorem OwRg.inn {w : World} {base : Nat} {v : Value} {f : List Rg} (h : OwRg w base v f) : InRg w base w.heap.size v f := Ow.inn h
theorem InRg.rd {w : World} {lo hi : Nat} {v : Value} {f : List Rg} (h : InRg w lo hi v f) : RdRg w v f := In.rd h
theorem InRg.below {w w' : World} {lo hi B : Nat} {v : Value} {f : List Rg} (h : InRg w lo hi v f) (hb : Below B w w') (hB : hi ≤ B) : InRg w' lo hi v f := In.below h hb hB
theorem InRg.mod {w w' : World} {lo hi l m : Nat} {v : Value} {f : List Rg} (h : InRg w lo hi v f) (hm : Mod l m w w') (hd : hi ≤ l ∨ m ≤ lo) : InRg w' lo hi v f := In.mod h hm hd
theorem RdRg.slice {w : World} {v : Value} {f : List Rg} (h : RdRg w v f) : ∃ a cap, v = .slice a f.length cap := by
  obtain ⟨a, cap, rfl, _⟩ := h; exact ⟨a, cap, rfl⟩
theorem RdRg.cells {w : World} {a : Option Addr} {n cap : Nat} {f : List Rg} (h : RdRg w (.slice a n cap) f) {i : Nat} (hi : i < f.length) :
    ∃ b o, a = some ⟨b, o, none⟩ ∧ b < w.heap.size ∧ w.cell? ⟨b, o + i * 3, none⟩ = some (.int .i64 (rgnth f i).kind) ∧ w.cell? ⟨b, o + i * 3 + 1, none⟩ = some (.string (rgnth f i).lab) ∧ w.cell? ⟨b, o + i * 3 + 2, none⟩ = some (.bool (rgnth f i).neg) := by
  obtain ⟨_, _, e, _, _, hc⟩ := h
  cases e
  obtain ⟨b, o, rfl, hb, hc⟩ := hc (by omega)
  refine ⟨b, o, rfl, hb, ?_, ?_, ?_⟩
  · have := hc (i * 3) (by omega)
    rw [show i * 3 = i * 3 + 0 from rfl, rgc_at f i 0 (by decide)] at this
    exact this
  · have := hc (i * 3 + 1) (by omega)
    rw [rgc_at f i 1 (by decide)] at this
    rw [Nat.add_assoc]
    exact this
  · have := hc (i * 3 + 2) (by omega)
    rw [rgc_at f i 2 (by decide)] at this
    rw [Nat.add_assoc]
    exact this
/-- Numbers and texts that fit. -/
def RgOk (n : Rg) : Prop := (-9223372036854775808 ≤ n.kind ∧ n.kind ≤ 9223372036854775807) ∧ n.lab.size ≤ maxLen
def RgsOk (f : List Rg) : Prop := ∀ i, i < f.length → RgOk (rgnth f i)
end Go.Proofs.YtpnihgcckbaigaaGreatDoor
