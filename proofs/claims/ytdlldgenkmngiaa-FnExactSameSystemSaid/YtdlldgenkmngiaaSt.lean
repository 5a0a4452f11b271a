/- Structs that hold slices: how they read, how an argument of that type is opened. -/
import Derived.Test.YtdlldgenkmngiaaProg
import Derived.Test.YtdlldgenkmngiaaMem
import Derived.Test.YtdlldgenkmngiaaMath
import Derived.Test.YtdlldgenkmngiaaBasics
import Derived.Test.YtdlldgenkmngiaaOpenI
import Derived.Test.YtdlldgenkmngiaaHelpI
import Derived.Test.YtdlldgenkmngiaaGrid
import Derived.Test.YtdlldgenkmngiaaRows2
import Derived.Test.YtdlldgenkmngiaaOpenG
import Derived.Test.YtdlldgenkmngiaaRows
import Derived.Lib.LaidTab
import Derived.DataElems
import Derived.DataReads
import Derived.ProofKit
import Derived.OpenShut
import Derived.ShutString
import Derived.ChangeOld
import Derived.Below
import Derived.WalkKit
import Derived.BigQuiet
import Derived.BigRegion
import Derived.StillTailTactics
import Derived.Deep.QuietTactic
import Derived.Laws.ResultCell
import Derived.Laws.OwnMore
import Derived.Lib.Hide
import Derived.Outline
set_option linter.unusedVariables false
set_option linter.unusedSimpArgs false
namespace Go.Proofs.Ytdlldgenkmngiaa
open Go.ChangeShapes Go.WideShapes Go.ChangeAt Go.RowKit

structure Vx where
  own : Int
  pri : Int
  nxt : List Int
deriving DecidableEq
def vx0 : Vx := ⟨0, 0, []⟩
/-- What lies in the cells of one. -/
def vxCol (w : World) (lo hi : Nat) (n : Vx) (j : Nat) (u : Value) : Prop := match j with
  | 0 => u = .int .i64 n.own
  | 1 => u = .int .i64 n.pri
  | _ => GI w lo hi u n.nxt
theorem vxCol.step {w w' : World} {lo hi lo' hi' : Nat} {n : Vx} {j : Nat} {u : Value} (h : vxCol w lo hi n j u) (hk : Keep lo hi w w') (h1 : lo' ≤ lo) (h2 : hi ≤ hi') : vxCol w' lo' hi' n j u := by
  match j with
  | 0 => exact h
  | 1 => exact h
  | _ + 2 => exact (GI.keep h hk).mono h1 h2
def GVx (w : World) (lo hi : Nat) (v : Value) (f : List Vx) : Prop := Rws w lo hi v f.length 3 fun i j u => vxCol w lo hi (gnth vx0 f i) j u
theorem GVx.mono {w : World} {lo hi lo' hi' : Nat} {v : Value} {f : List Vx} (h : GVx w lo hi v f) (h1 : lo' ≤ lo) (h2 : hi ≤ hi') : GVx w lo' hi' v f := Rws.imp h h1 h2 fun _ _ _ _ _ h => vxCol.step h (Keep.refl _ _ _) h1 h2
theorem GVx.keep {w w' : World} {lo hi : Nat} {v : Value} {f : List Vx} (h : GVx w lo hi v f) (hk : Keep lo hi w w') : GVx w' lo hi v f := Rws.keep h hk fun _ _ _ _ _ h => vxCol.step h hk (Nat.le_refl _) (Nat.le_refl _)
theorem GVx.slice {w : World} {lo hi : Nat} {v : Value} {f : List Vx} (h : GVx w lo hi v f) : ∃ a cap, v = .slice a f.length cap ∧ f.length ≤ cap ∧ cap ≤ maxLen := Rws.slice h
theorem GVx.cells {w : World} {lo hi n cap : Nat} {a : Option Addr} {f : List Vx} (h : GVx w lo hi (.slice a n cap) f) {i : Nat} (hi' : i < f.length) :
    ∃ b o, a = some ⟨b, o, none⟩ ∧ b < w.heap.size ∧ w.cell? ⟨b, o + i * 3, none⟩ = some (.int .i64 (gnth vx0 f i).own) ∧ w.cell? ⟨b, o + i * 3 + 1, none⟩ = some (.int .i64 (gnth vx0 f i).pri) ∧ ∃ c2 d2, w.cell? ⟨b, o + i * 3 + 2, none⟩ = some (.slice c2 (gnth vx0 f i).nxt.length d2) ∧ GI w lo hi (.slice c2 (gnth vx0 f i).nxt.length d2) (gnth vx0 f i).nxt := by
  obtain ⟨_, _, e, _⟩ := Rws.slice h
  cases e
  obtain ⟨b, o, rfl, hb, hc⟩ := Rws.cells h hi'
  obtain ⟨u0, hu0, hq0⟩ := hc 0 (by decide)
  have e0 : u0 = .int .i64 (gnth vx0 f i).own := hq0
  subst e0
  obtain ⟨u1, hu1, hq1⟩ := hc 1 (by decide)
  have e1 : u1 = .int .i64 (gnth vx0 f i).pri := hq1
  subst e1
  obtain ⟨u2, hu2, hq2⟩ := hc 2 (by decide)
  have g2 : GI w lo hi u2 (gnth vx0 f i).nxt := hq2
  obtain ⟨c2, d2, rfl, _⟩ := Rws.slice g2
  exact ⟨b, o, rfl, hb, hu0, hu1, c2, d2, hu2, g2⟩
def wtVx (n : Vx) : Nat := totI n.nxt
def totVx (f : List Vx) : Nat := f.length + sumTo (fun i => wtVx (gnth vx0 f i)) f.length
def elVx (n : Vx) : Prop := okI n.nxt
def okVx (f : List Vx) : Prop := ∀ i, i < f.length → elVx (gnth vx0 f i)
structure Eg where
  frm : Int
  lab : Int
  too : Int
deriving DecidableEq
def eg0 : Eg := ⟨0, 0, 0⟩
/-- What lies in the cells of one. -/
def egCol (w : World) (lo hi : Nat) (n : Eg) (j : Nat) (u : Value) : Prop := match j with
  | 0 => u = .int .i64 n.frm
  | 1 => u = .int .i64 n.lab
  | _ => u = .int .i64 n.too
theorem egCol.step {w w' : World} {lo hi lo' hi' : Nat} {n : Eg} {j : Nat} {u : Value} (h : egCol w lo hi n j u) (hk : Keep lo hi w w') (h1 : lo' ≤ lo) (h2 : hi ≤ hi') : egCol w' lo' hi' n j u := by
  match j with
  | 0 => exact h
  | 1 => exact h
  | _ + 2 => exact h
def GEg (w : World) (lo hi : Nat) (v : Value) (f : List Eg) : Prop := Rws w lo hi v f.length 3 fun i j u => egCol w lo hi (gnth eg0 f i) j u
theorem GEg.mono {w : World} {lo hi lo' hi' : Nat} {v : Value} {f : List Eg} (h : GEg w lo hi v f) (h1 : lo' ≤ lo) (h2 : hi ≤ hi') : GEg w lo' hi' v f := Rws.imp h h1 h2 fun _ _ _ _ _ h => egCol.step h (Keep.refl _ _ _) h1 h2
theorem GEg.keep {w w' : World} {lo hi : Nat} {v : Value} {f : List Eg} (h : GEg w lo hi v f) (hk : Keep lo hi w w') : GEg w' lo hi v f := Rws.keep h hk fun _ _ _ _ _ h => egCol.step h hk (Nat.le_refl _) (Nat.le_refl _)
theorem GEg.slice {w : World} {lo hi : Nat} {v : Value} {f : List Eg} (h : GEg w lo hi v f) : ∃ a cap, v = .slice a f.length cap ∧ f.length ≤ cap ∧ cap ≤ maxLen := Rws.slice h
theorem GEg.cells {w : World} {lo hi n cap : Nat} {a : Option Addr} {f : List Eg} (h : GEg w lo hi (.slice a n cap) f) {i : Nat} (hi' : i < f.length) :
    ∃ b o, a = some ⟨b, o, none⟩ ∧ b < w.heap.size ∧ w.cell? ⟨b, o + i * 3, none⟩ = some (.int .i64 (gnth eg0 f i).frm) ∧ w.cell? ⟨b, o + i * 3 + 1, none⟩ = some (.int .i64 (gnth eg0 f i).lab) ∧ w.cell? ⟨b, o + i * 3 + 2, none⟩ = some (.int .i64 (gnth eg0 f i).too) := by
  obtain ⟨_, _, e, _⟩ := Rws.slice h
  cases e
  obtain ⟨b, o, rfl, hb, hc⟩ := Rws.cells h hi'
  obtain ⟨u0, hu0, hq0⟩ := hc 0 (by decide)
  have e0 : u0 = .int .i64 (gnth eg0 f i).frm := hq0
  subst e0
  obtain ⟨u1, hu1, hq1⟩ := hc 1 (by decide)
  have e1 : u1 = .int .i64 (gnth eg0 f i).lab := hq1
  subst e1
  obtain ⟨u2, hu2, hq2⟩ := hc 2 (by decide)
  have e2 : u2 = .int .i64 (gnth eg0 f i).too := hq2
  subst e2
  exact ⟨b, o, rfl, hb, hu0, hu1, hu2⟩
def wtEg (n : Eg) : Nat := 0
def totEg (f : List Eg) : Nat := f.length + sumTo (fun i => wtEg (gnth eg0 f i)) f.length
def elEg (n : Eg) : Prop := True
def okEg (f : List Eg) : Prop := ∀ i, i < f.length → elEg (gnth eg0 f i)
structure Tm where
  kind : Int
  num : Int
deriving DecidableEq
def tm0 : Tm := ⟨0, 0⟩
/-- What lies in the cells of one. -/
def tmCol (w : World) (lo hi : Nat) (n : Tm) (j : Nat) (u : Value) : Prop := match j with
  | 0 => u = .int .i64 n.kind
  | _ => u = .int .i64 n.num
theorem tmCol.step {w w' : World} {lo hi lo' hi' : Nat} {n : Tm} {j : Nat} {u : Value} (h : tmCol w lo hi n j u) (hk : Keep lo hi w w') (h1 : lo' ≤ lo) (h2 : hi ≤ hi') : tmCol w' lo' hi' n j u := by
  match j with
  | 0 => exact h
  | _ + 1 => exact h
def GTm (w : World) (lo hi : Nat) (v : Value) (f : List Tm) : Prop := Rws w lo hi v f.length 2 fun i j u => tmCol w lo hi (gnth tm0 f i) j u
theorem GTm.mono {w : World} {lo hi lo' hi' : Nat} {v : Value} {f : List Tm} (h : GTm w lo hi v f) (h1 : lo' ≤ lo) (h2 : hi ≤ hi') : GTm w lo' hi' v f := Rws.imp h h1 h2 fun _ _ _ _ _ h => tmCol.step h (Keep.refl _ _ _) h1 h2
theorem GTm.keep {w w' : World} {lo hi : Nat} {v : Value} {f : List Tm} (h : GTm w lo hi v f) (hk : Keep lo hi w w') : GTm w' lo hi v f := Rws.keep h hk fun _ _ _ _ _ h => tmCol.step h hk (Nat.le_refl _) (Nat.le_refl _)
theorem GTm.slice {w : World} {lo hi : Nat} {v : Value} {f : List Tm} (h : GTm w lo hi v f) : ∃ a cap, v = .slice a f.length cap ∧ f.length ≤ cap ∧ cap ≤ maxLen := Rws.slice h
theorem GTm.cells {w : World} {lo hi n cap : Nat} {a : Option Addr} {f : List Tm} (h : GTm w lo hi (.slice a n cap) f) {i : Nat} (hi' : i < f.length) :
    ∃ b o, a = some ⟨b, o, none⟩ ∧ b < w.heap.size ∧ w.cell? ⟨b, o + i * 2, none⟩ = some (.int .i64 (gnth tm0 f i).kind) ∧ w.cell? ⟨b, o + i * 2 + 1, none⟩ = some (.int .i64 (gnth tm0 f i).num) := by
  obtain ⟨_, _, e, _⟩ := Rws.slice h
  cases e
  obtain ⟨b, o, rfl, hb, hc⟩ := Rws.cells h hi'
  obtain ⟨u0, hu0, hq0⟩ := hc 0 (by decide)
  have e0 : u0 = .int .i64 (gnth tm0 f i).kind := hq0
  subst e0
  obtain ⟨u1, hu1, hq1⟩ := hc 1 (by decide)
  have e1 : u1 = .int .i64 (gnth tm0 f i).num := hq1
  subst e1
  exact ⟨b, o, rfl, hb, hu0, hu1⟩
def wtTm (n : Tm) : Nat := 0
def totTm (f : List Tm) : Nat := f.length + sumTo (fun i => wtTm (gnth tm0 f i)) f.length
def elTm (n : Tm) : Prop := True
def okTm (f : List Tm) : Prop := ∀ i, i < f.length → elTm (gnth tm0 f i)
/-- Rws of terms. -/
def tms0 : List Tm := []
def GTmS (w : World) (lo hi : Nat) (v : Value) (f : List (List Tm)) : Prop := Rws w lo hi v f.length 1 fun i _ u => GTm w lo hi u (gnth tms0 f i)
theorem GTmS.mono {w : World} {lo hi lo' hi' : Nat} {v : Value} {f : List (List Tm)} (h : GTmS w lo hi v f) (h1 : lo' ≤ lo) (h2 : hi ≤ hi') : GTmS w lo' hi' v f := Rws.imp h h1 h2 fun _ _ _ _ _ h => GTm.mono h h1 h2
theorem GTmS.keep {w w' : World} {lo hi : Nat} {v : Value} {f : List (List Tm)} (h : GTmS w lo hi v f) (hk : Keep lo hi w w') : GTmS w' lo hi v f := Rws.keep h hk fun _ _ _ _ _ h => GTm.keep h hk
theorem GTmS.slice {w : World} {lo hi : Nat} {v : Value} {f : List (List Tm)} (h : GTmS w lo hi v f) : ∃ a cap, v = .slice a f.length cap ∧ f.length ≤ cap ∧ cap ≤ maxLen := Rws.slice h
theorem GTmS.cells {w : World} {lo hi n cap : Nat} {a : Option Addr} {f : List (List Tm)} (h : GTmS w lo hi (.slice a n cap) f) {i : Nat} (hi' : i < f.length) :
    ∃ b o, a = some ⟨b, o, none⟩ ∧ b < w.heap.size ∧ ∃ c d, w.cell? ⟨b, o + i, none⟩ = some (.slice c (gnth tms0 f i).length d) ∧ GTm w lo hi (.slice c (gnth tms0 f i).length d) (gnth tms0 f i) := by
  obtain ⟨_, _, e, _⟩ := Rws.slice h
  cases e
  obtain ⟨b, o, rfl, hb, hc⟩ := Rws.cells h hi'
  obtain ⟨u, hu, hq⟩ := hc 0 (by decide)
  obtain ⟨c, d, rfl, _⟩ := Rws.slice hq
  rw [show o + i * 1 + 0 = o + i by omega] at hu
  exact ⟨b, o, rfl, hb, c, d, hu, hq⟩
def totTmS (f : List (List Tm)) : Nat := f.length + sumTo (fun i => totTm (gnth tms0 f i)) f.length
def okTmS (f : List (List Tm)) : Prop := ∀ i, i < f.length → okTm (gnth tms0 f i)
structure Pt where
  kind : Int
  num : Int
  name : ByteArray
  args : List (List Tm)
deriving DecidableEq
def pt0 : Pt := ⟨0, 0, ByteArray.empty, []⟩
/-- What lies in the cells of one. -/
def ptCol (w : World) (lo hi : Nat) (n : Pt) (j : Nat) (u : Value) : Prop := match j with
  | 0 => u = .int .i64 n.kind
  | 1 => u = .int .i64 n.num
  | 2 => u = .string n.name
  | _ => GTmS w lo hi u n.args
theorem ptCol.step {w w' : World} {lo hi lo' hi' : Nat} {n : Pt} {j : Nat} {u : Value} (h : ptCol w lo hi n j u) (hk : Keep lo hi w w') (h1 : lo' ≤ lo) (h2 : hi ≤ hi') : ptCol w' lo' hi' n j u := by
  match j with
  | 0 => exact h
  | 1 => exact h
  | 2 => exact h
  | _ + 3 => exact (GTmS.keep h hk).mono h1 h2
def GPt (w : World) (lo hi : Nat) (v : Value) (f : List Pt) : Prop := Rws w lo hi v f.length 4 fun i j u => ptCol w lo hi (gnth pt0 f i) j u
theorem GPt.mono {w : World} {lo hi lo' hi' : Nat} {v : Value} {f : List Pt} (h : GPt w lo hi v f) (h1 : lo' ≤ lo) (h2 : hi ≤ hi') : GPt w lo' hi' v f := Rws.imp h h1 h2 fun _ _ _ _ _ h => ptCol.step h (Keep.refl _ _ _) h1 h2
theorem GPt.keep {w w' : World} {lo hi : Nat} {v : Value} {f : List Pt} (h : GPt w lo hi v f) (hk : Keep lo hi w w') : GPt w' lo hi v f := Rws.keep h hk fun _ _ _ _ _ h => ptCol.step h hk (Nat.le_refl _) (Nat.le_refl _)
theorem GPt.slice {w : World} {lo hi : Nat} {v : Value} {f : List Pt} (h : GPt w lo hi v f) : ∃ a cap, v = .slice a f.length cap ∧ f.length ≤ cap ∧ cap ≤ maxLen := Rws.slice h
theorem GPt.cells {w : World} {lo hi n cap : Nat} {a : Option Addr} {f : List Pt} (h : GPt w lo hi (.slice a n cap) f) {i : Nat} (hi' : i < f.length) :
    ∃ b o, a = some ⟨b, o, none⟩ ∧ b < w.heap.size ∧ w.cell? ⟨b, o + i * 4, none⟩ = some (.int .i64 (gnth pt0 f i).kind) ∧ w.cell? ⟨b, o + i * 4 + 1, none⟩ = some (.int .i64 (gnth pt0 f i).num) ∧ w.cell? ⟨b, o + i * 4 + 2, none⟩ = some (.string (gnth pt0 f i).name) ∧ ∃ c3 d3, w.cell? ⟨b, o + i * 4 + 3, none⟩ = some (.slice c3 (gnth pt0 f i).args.length d3) ∧ GTmS w lo hi (.slice c3 (gnth pt0 f i).args.length d3) (gnth pt0 f i).args := by
  obtain ⟨_, _, e, _⟩ := Rws.slice h
  cases e
  obtain ⟨b, o, rfl, hb, hc⟩ := Rws.cells h hi'
  obtain ⟨u0, hu0, hq0⟩ := hc 0 (by decide)
  have e0 : u0 = .int .i64 (gnth pt0 f i).kind := hq0
  subst e0
  obtain ⟨u1, hu1, hq1⟩ := hc 1 (by decide)
  have e1 : u1 = .int .i64 (gnth pt0 f i).num := hq1
  subst e1
  obtain ⟨u2, hu2, hq2⟩ := hc 2 (by decide)
  have e2 : u2 = .string (gnth pt0 f i).name := hq2
  subst e2
  obtain ⟨u3, hu3, hq3⟩ := hc 3 (by decide)
  have g3 : GTmS w lo hi u3 (gnth pt0 f i).args := hq3
  obtain ⟨c3, d3, rfl, _⟩ := Rws.slice g3
  exact ⟨b, o, rfl, hb, hu0, hu1, hu2, c3, d3, hu3, g3⟩
def wtPt (n : Pt) : Nat := (n.name).size + totTmS n.args
def totPt (f : List Pt) : Nat := f.length + sumTo (fun i => wtPt (gnth pt0 f i)) f.length
def elPt (n : Pt) : Prop := (n.name).size ≤ maxLen ∧ okTmS n.args
def okPt (f : List Pt) : Prop := ∀ i, i < f.length → elPt (gnth pt0 f i)
structure Df where
  name : ByteArray
  par : Int
  body : List Pt
deriving DecidableEq
def df0 : Df := ⟨ByteArray.empty, 0, []⟩
/-- What lies in the cells of one. -/
def dfCol (w : World) (lo hi : Nat) (n : Df) (j : Nat) (u : Value) : Prop := match j with
  | 0 => u = .string n.name
  | 1 => u = .int .i64 n.par
  | _ => GPt w lo hi u n.body
theorem dfCol.step {w w' : World} {lo hi lo' hi' : Nat} {n : Df} {j : Nat} {u : Value} (h : dfCol w lo hi n j u) (hk : Keep lo hi w w') (h1 : lo' ≤ lo) (h2 : hi ≤ hi') : dfCol w' lo' hi' n j u := by
  match j with
  | 0 => exact h
  | 1 => exact h
  | _ + 2 => exact (GPt.keep h hk).mono h1 h2
def GDf (w : World) (lo hi : Nat) (v : Value) (f : List Df) : Prop := Rws w lo hi v f.length 3 fun i j u => dfCol w lo hi (gnth df0 f i) j u
theorem GDf.mono {w : World} {lo hi lo' hi' : Nat} {v : Value} {f : List Df} (h : GDf w lo hi v f) (h1 : lo' ≤ lo) (h2 : hi ≤ hi') : GDf w lo' hi' v f := Rws.imp h h1 h2 fun _ _ _ _ _ h => dfCol.step h (Keep.refl _ _ _) h1 h2
theorem GDf.keep {w w' : World} {lo hi : Nat} {v : Value} {f : List Df} (h : GDf w lo hi v f) (hk : Keep lo hi w w') : GDf w' lo hi v f := Rws.keep h hk fun _ _ _ _ _ h => dfCol.step h hk (Nat.le_refl _) (Nat.le_refl _)
theorem GDf.slice {w : World} {lo hi : Nat} {v : Value} {f : List Df} (h : GDf w lo hi v f) : ∃ a cap, v = .slice a f.length cap ∧ f.length ≤ cap ∧ cap ≤ maxLen := Rws.slice h
theorem GDf.cells {w : World} {lo hi n cap : Nat} {a : Option Addr} {f : List Df} (h : GDf w lo hi (.slice a n cap) f) {i : Nat} (hi' : i < f.length) :
    ∃ b o, a = some ⟨b, o, none⟩ ∧ b < w.heap.size ∧ w.cell? ⟨b, o + i * 3, none⟩ = some (.string (gnth df0 f i).name) ∧ w.cell? ⟨b, o + i * 3 + 1, none⟩ = some (.int .i64 (gnth df0 f i).par) ∧ ∃ c2 d2, w.cell? ⟨b, o + i * 3 + 2, none⟩ = some (.slice c2 (gnth df0 f i).body.length d2) ∧ GPt w lo hi (.slice c2 (gnth df0 f i).body.length d2) (gnth df0 f i).body := by
  obtain ⟨_, _, e, _⟩ := Rws.slice h
  cases e
  obtain ⟨b, o, rfl, hb, hc⟩ := Rws.cells h hi'
  obtain ⟨u0, hu0, hq0⟩ := hc 0 (by decide)
  have e0 : u0 = .string (gnth df0 f i).name := hq0
  subst e0
  obtain ⟨u1, hu1, hq1⟩ := hc 1 (by decide)
  have e1 : u1 = .int .i64 (gnth df0 f i).par := hq1
  subst e1
  obtain ⟨u2, hu2, hq2⟩ := hc 2 (by decide)
  have g2 : GPt w lo hi u2 (gnth df0 f i).body := hq2
  obtain ⟨c2, d2, rfl, _⟩ := Rws.slice g2
  exact ⟨b, o, rfl, hb, hu0, hu1, c2, d2, hu2, g2⟩
def wtDf (n : Df) : Nat := (n.name).size + totPt n.body
def totDf (f : List Df) : Nat := f.length + sumTo (fun i => wtDf (gnth df0 f i)) f.length
def elDf (n : Df) : Prop := (n.name).size ≤ maxLen ∧ okPt n.body
def okDf (f : List Df) : Prop := ∀ i, i < f.length → elDf (gnth df0 f i)
structure Cp where
  dfn : Int
  vals : List Int
deriving DecidableEq
def cp0 : Cp := ⟨0, []⟩
/-- What lies in the cells of one. -/
def cpCol (w : World) (lo hi : Nat) (n : Cp) (j : Nat) (u : Value) : Prop := match j with
  | 0 => u = .int .i64 n.dfn
  | _ => GI w lo hi u n.vals
theorem cpCol.step {w w' : World} {lo hi lo' hi' : Nat} {n : Cp} {j : Nat} {u : Value} (h : cpCol w lo hi n j u) (hk : Keep lo hi w w') (h1 : lo' ≤ lo) (h2 : hi ≤ hi') : cpCol w' lo' hi' n j u := by
  match j with
  | 0 => exact h
  | _ + 1 => exact (GI.keep h hk).mono h1 h2
def GCp (w : World) (lo hi : Nat) (v : Value) (f : List Cp) : Prop := Rws w lo hi v f.length 2 fun i j u => cpCol w lo hi (gnth cp0 f i) j u
theorem GCp.mono {w : World} {lo hi lo' hi' : Nat} {v : Value} {f : List Cp} (h : GCp w lo hi v f) (h1 : lo' ≤ lo) (h2 : hi ≤ hi') : GCp w lo' hi' v f := Rws.imp h h1 h2 fun _ _ _ _ _ h => cpCol.step h (Keep.refl _ _ _) h1 h2
theorem GCp.keep {w w' : World} {lo hi : Nat} {v : Value} {f : List Cp} (h : GCp w lo hi v f) (hk : Keep lo hi w w') : GCp w' lo hi v f := Rws.keep h hk fun _ _ _ _ _ h => cpCol.step h hk (Nat.le_refl _) (Nat.le_refl _)
theorem GCp.slice {w : World} {lo hi : Nat} {v : Value} {f : List Cp} (h : GCp w lo hi v f) : ∃ a cap, v = .slice a f.length cap ∧ f.length ≤ cap ∧ cap ≤ maxLen := Rws.slice h
theorem GCp.cells {w : World} {lo hi n cap : Nat} {a : Option Addr} {f : List Cp} (h : GCp w lo hi (.slice a n cap) f) {i : Nat} (hi' : i < f.length) :
    ∃ b o, a = some ⟨b, o, none⟩ ∧ b < w.heap.size ∧ w.cell? ⟨b, o + i * 2, none⟩ = some (.int .i64 (gnth cp0 f i).dfn) ∧ ∃ c1 d1, w.cell? ⟨b, o + i * 2 + 1, none⟩ = some (.slice c1 (gnth cp0 f i).vals.length d1) ∧ GI w lo hi (.slice c1 (gnth cp0 f i).vals.length d1) (gnth cp0 f i).vals := by
  obtain ⟨_, _, e, _⟩ := Rws.slice h
  cases e
  obtain ⟨b, o, rfl, hb, hc⟩ := Rws.cells h hi'
  obtain ⟨u0, hu0, hq0⟩ := hc 0 (by decide)
  have e0 : u0 = .int .i64 (gnth cp0 f i).dfn := hq0
  subst e0
  obtain ⟨u1, hu1, hq1⟩ := hc 1 (by decide)
  have g1 : GI w lo hi u1 (gnth cp0 f i).vals := hq1
  obtain ⟨c1, d1, rfl, _⟩ := Rws.slice g1
  exact ⟨b, o, rfl, hb, hu0, c1, d1, hu1, g1⟩
def wtCp (n : Cp) : Nat := totI n.vals
def totCp (f : List Cp) : Nat := f.length + sumTo (fun i => wtCp (gnth cp0 f i)) f.length
def elCp (n : Cp) : Prop := okI n.vals
def okCp (f : List Cp) : Prop := ∀ i, i < f.length → elCp (gnth cp0 f i)
structure Mt where
  left : ByteArray
  right : ByteArray
  res : ByteArray
deriving DecidableEq
def mt0 : Mt := ⟨ByteArray.empty, ByteArray.empty, ByteArray.empty⟩
/-- What lies in the cells of one. -/
def mtCol (w : World) (lo hi : Nat) (n : Mt) (j : Nat) (u : Value) : Prop := match j with
  | 0 => u = .string n.left
  | 1 => u = .string n.right
  | _ => u = .string n.res
theorem mtCol.step {w w' : World} {lo hi lo' hi' : Nat} {n : Mt} {j : Nat} {u : Value} (h : mtCol w lo hi n j u) (hk : Keep lo hi w w') (h1 : lo' ≤ lo) (h2 : hi ≤ hi') : mtCol w' lo' hi' n j u := by
  match j with
  | 0 => exact h
  | 1 => exact h
  | _ + 2 => exact h
def GMt (w : World) (lo hi : Nat) (v : Value) (f : List Mt) : Prop := Rws w lo hi v f.length 3 fun i j u => mtCol w lo hi (gnth mt0 f i) j u
theorem GMt.mono {w : World} {lo hi lo' hi' : Nat} {v : Value} {f : List Mt} (h : GMt w lo hi v f) (h1 : lo' ≤ lo) (h2 : hi ≤ hi') : GMt w lo' hi' v f := Rws.imp h h1 h2 fun _ _ _ _ _ h => mtCol.step h (Keep.refl _ _ _) h1 h2
theorem GMt.keep {w w' : World} {lo hi : Nat} {v : Value} {f : List Mt} (h : GMt w lo hi v f) (hk : Keep lo hi w w') : GMt w' lo hi v f := Rws.keep h hk fun _ _ _ _ _ h => mtCol.step h hk (Nat.le_refl _) (Nat.le_refl _)
theorem GMt.slice {w : World} {lo hi : Nat} {v : Value} {f : List Mt} (h : GMt w lo hi v f) : ∃ a cap, v = .slice a f.length cap ∧ f.length ≤ cap ∧ cap ≤ maxLen := Rws.slice h
theorem GMt.cells {w : World} {lo hi n cap : Nat} {a : Option Addr} {f : List Mt} (h : GMt w lo hi (.slice a n cap) f) {i : Nat} (hi' : i < f.length) :
    ∃ b o, a = some ⟨b, o, none⟩ ∧ b < w.heap.size ∧ w.cell? ⟨b, o + i * 3, none⟩ = some (.string (gnth mt0 f i).left) ∧ w.cell? ⟨b, o + i * 3 + 1, none⟩ = some (.string (gnth mt0 f i).right) ∧ w.cell? ⟨b, o + i * 3 + 2, none⟩ = some (.string (gnth mt0 f i).res) := by
  obtain ⟨_, _, e, _⟩ := Rws.slice h
  cases e
  obtain ⟨b, o, rfl, hb, hc⟩ := Rws.cells h hi'
  obtain ⟨u0, hu0, hq0⟩ := hc 0 (by decide)
  have e0 : u0 = .string (gnth mt0 f i).left := hq0
  subst e0
  obtain ⟨u1, hu1, hq1⟩ := hc 1 (by decide)
  have e1 : u1 = .string (gnth mt0 f i).right := hq1
  subst e1
  obtain ⟨u2, hu2, hq2⟩ := hc 2 (by decide)
  have e2 : u2 = .string (gnth mt0 f i).res := hq2
  subst e2
  exact ⟨b, o, rfl, hb, hu0, hu1, hu2⟩
def wtMt (n : Mt) : Nat := (n.left).size + (n.right).size + (n.res).size
def totMt (f : List Mt) : Nat := f.length + sumTo (fun i => wtMt (gnth mt0 f i)) f.length
def elMt (n : Mt) : Prop := (n.left).size ≤ maxLen ∧ (n.right).size ≤ maxLen ∧ (n.res).size ≤ maxLen
def okMt (f : List Mt) : Prop := ∀ i, i < f.length → elMt (gnth mt0 f i)
structure Lt where
  st : Int
  ini : Int
  labs : List ByteArray
  edges : List Eg
deriving DecidableEq
def wtLt (n : Lt) : Nat := totS n.labs + totEg n.edges
def elLt (n : Lt) : Prop := okS n.labs ∧ okEg n.edges
def AtLt (w : World) (v : Value) (n : Lt) : Prop := ∃ (sa2 sa3 : Option Addr) (sc2 sc3 : Nat), v = .agg #[.int .i64 n.st, .int .i64 n.ini, .slice sa2 n.labs.length sc2, .slice sa3 n.edges.length sc3] ∧ GS w 0 w.heap.size (.slice sa2 n.labs.length sc2) n.labs ∧ GEg w 0 w.heap.size (.slice sa3 n.edges.length sc3) n.edges ∧ elLt n
structure Sy where
  defs : List Df
  comps : List Cp
  meets : List Mt
  allow : List ByteArray
  hide : List ByteArray
deriving DecidableEq
def wtSy (n : Sy) : Nat := totDf n.defs + totCp n.comps + totMt n.meets + totS n.allow + totS n.hide
def elSy (n : Sy) : Prop := okDf n.defs ∧ okCp n.comps ∧ okMt n.meets ∧ okS n.allow ∧ okS n.hide
def AtSy (w : World) (v : Value) (n : Sy) : Prop := ∃ (sa0 sa1 sa2 sa3 sa4 : Option Addr) (sc0 sc1 sc2 sc3 sc4 : Nat), v = .agg #[.slice sa0 n.defs.length sc0, .slice sa1 n.comps.length sc1, .slice sa2 n.meets.length sc2, .slice sa3 n.allow.length sc3, .slice sa4 n.hide.length sc4] ∧ GDf w 0 w.heap.size (.slice sa0 n.defs.length sc0) n.defs ∧ GCp w 0 w.heap.size (.slice sa1 n.comps.length sc1) n.comps ∧ GMt w 0 w.heap.size (.slice sa2 n.meets.length sc2) n.meets ∧ GS w 0 w.heap.size (.slice sa3 n.allow.length sc3) n.allow ∧ GS w 0 w.heap.size (.slice sa4 n.hide.length sc4) n.hide ∧ elSy n
theorem slice_of_trod {H : Type} {enc : TypeId × Value → H} {P : Program} {W : World} {lo fuel t e : Nat} {sp : Nat → Bool} {held : Bool} {v : Value} {y : DataW H × List MemPlace}
    (ht : P.underlying t = some (.slice e)) (h : DataW.trod enc P W lo sp held fuel t [v] = some y) : ∃ a len cap, v = .slice a len cap := by
  rcases DataW.trod_slice ht h with ⟨h1, _⟩ | ⟨ad, len, cap, _, _, _, _, h1, _⟩
  · simp only [List.cons.injEq, and_true] at h1
    exact ⟨_, _, _, h1⟩
  · simp only [List.cons.injEq, and_true] at h1
    exact ⟨_, _, _, h1⟩
set_option maxRecDepth 100000 in
theorem openC_Vx {H : Type} {enc : TypeId × Value → H} {W : World} {lo fuel : Nat} {sp : Nat → Bool} {held : Bool} {v : Value} {y : DataW H × List MemPlace}
    (h : DataW.trod enc Try.prog W lo sp held fuel 22 [v] = some y) : ∃ f, GVx W 0 W.heap.size v f ∧ okVx f := by
  obtain ⟨a, len, cap, rfl⟩ := slice_of_trod Try.underlying22 h
  obtain ⟨cs, hrd, n, hel⟩ := open_gen Try.underlying22 (show Try.prog.cellsOf 57 = 3 by kernel_rfl) (by decide) h
  have hz : ∀ i, ∃ z : Vx, i < len → (vxCol W 0 W.heap.size z 0 (cs (i * 3)) ∧ vxCol W 0 W.heap.size z 1 (cs (i * 3 + 1)) ∧ vxCol W 0 W.heap.size z 2 (cs (i * 3 + 2))) ∧ elVx z := by
    intro i
    by_cases hi : i < len
    · obtain ⟨y, hy⟩ := hel i hi
      obtain ⟨ys, n', _, _, _, hl, hg⟩ := DataW.trod_struct Try.underlying57 hy
      have h0 := (hg 0 _ rfl).trans (List.getElem?_eq_getElem (show 0 < ys.length by rw [hl]; decide))
      have h1 := (hg 1 _ rfl).trans (List.getElem?_eq_getElem (show 1 < ys.length by rw [hl]; decide))
      have h2 := (hg 2 _ rfl).trans (List.getElem?_eq_getElem (show 2 < ys.length by rw [hl]; decide))
      have t0 : List.take (Try.prog.cellsOf 2) (List.drop 0 ((List.range 3).map fun j => cs (i * 3 + j))) = [cs (i * 3)] := by
        rw [show Try.prog.cellsOf 2 = 1 by kernel_rfl]; rfl
      obtain ⟨x0, e0, _, w0⟩ := DataW.trod_int Try.underlying2 h0
      have f0 := t0.symm.trans e0
      simp only [List.cons.injEq, and_true] at f0
      have t1 : List.take (Try.prog.cellsOf 2) (List.drop 1 ((List.range 3).map fun j => cs (i * 3 + j))) = [cs (i * 3 + 1)] := by
        rw [show Try.prog.cellsOf 2 = 1 by kernel_rfl]; rfl
      obtain ⟨x1, e1, _, w1⟩ := DataW.trod_int Try.underlying2 h1
      have f1 := t1.symm.trans e1
      simp only [List.cons.injEq, and_true] at f1
      have t2 : List.take (Try.prog.cellsOf 55) (List.drop 2 ((List.range 3).map fun j => cs (i * 3 + j))) = [cs (i * 3 + 2)] := by
        rw [show Try.prog.cellsOf 55 = 1 by kernel_rfl]; rfl
      obtain ⟨y2, k2⟩ : ∃ y, DataW.trod enc Try.prog W lo sp held n' 55 [cs (i * 3 + 2)] = some y := ⟨_, (congrArg (DataW.trod enc Try.prog W lo sp held n' 55) t2).symm.trans h2⟩
      obtain ⟨x2, f2, w2⟩ := openI_cell k2
      exact ⟨⟨x0, x1, x2⟩, fun _ => ⟨⟨f0, f1, f2.gi⟩, trivial⟩⟩
    · exact ⟨vx0, fun h => absurd h hi⟩
  obtain ⟨g, hg⟩ := Classical.axiomOfChoice hz
  refine ⟨(List.range len).map g, ?_, fun i hi => ?_⟩
  · obtain ⟨a', c', e, q1, q2, q3⟩ := id hrd
    cases e
    unfold GVx
    rw [List.length_map, List.length_range]
    refine Rws_of_rd hrd fun i j hi hj => ?_
    rw [gnth_range _ _ _ _ hi]
    obtain ⟨r0, r1, r2⟩ := (hg i hi).1
    match j, hj with
    | 0, _ => exact r0
    | 1, _ => exact r1
    | 2, _ => exact r2
  · rw [List.length_map, List.length_range] at hi
    rw [gnth_range _ _ _ _ hi]
    exact (hg i hi).2
set_option maxRecDepth 100000 in
theorem openC_Eg {H : Type} {enc : TypeId × Value → H} {W : World} {lo fuel : Nat} {sp : Nat → Bool} {held : Bool} {v : Value} {y : DataW H × List MemPlace}
    (h : DataW.trod enc Try.prog W lo sp held fuel 30 [v] = some y) : ∃ f, GEg W 0 W.heap.size v f ∧ okEg f := by
  obtain ⟨a, len, cap, rfl⟩ := slice_of_trod Try.underlying30 h
  obtain ⟨cs, hrd, n, hel⟩ := open_gen Try.underlying30 (show Try.prog.cellsOf 104 = 3 by kernel_rfl) (by decide) h
  have hz : ∀ i, ∃ z : Eg, i < len → (egCol W 0 W.heap.size z 0 (cs (i * 3)) ∧ egCol W 0 W.heap.size z 1 (cs (i * 3 + 1)) ∧ egCol W 0 W.heap.size z 2 (cs (i * 3 + 2))) ∧ elEg z := by
    intro i
    by_cases hi : i < len
    · obtain ⟨y, hy⟩ := hel i hi
      obtain ⟨ys, n', _, _, _, hl, hg⟩ := DataW.trod_struct Try.underlying104 hy
      have h0 := (hg 0 _ rfl).trans (List.getElem?_eq_getElem (show 0 < ys.length by rw [hl]; decide))
      have h1 := (hg 1 _ rfl).trans (List.getElem?_eq_getElem (show 1 < ys.length by rw [hl]; decide))
      have h2 := (hg 2 _ rfl).trans (List.getElem?_eq_getElem (show 2 < ys.length by rw [hl]; decide))
      have t0 : List.take (Try.prog.cellsOf 2) (List.drop 0 ((List.range 3).map fun j => cs (i * 3 + j))) = [cs (i * 3)] := by
        rw [show Try.prog.cellsOf 2 = 1 by kernel_rfl]; rfl
      obtain ⟨x0, e0, _, w0⟩ := DataW.trod_int Try.underlying2 h0
      have f0 := t0.symm.trans e0
      simp only [List.cons.injEq, and_true] at f0
      have t1 : List.take (Try.prog.cellsOf 2) (List.drop 1 ((List.range 3).map fun j => cs (i * 3 + j))) = [cs (i * 3 + 1)] := by
        rw [show Try.prog.cellsOf 2 = 1 by kernel_rfl]; rfl
      obtain ⟨x1, e1, _, w1⟩ := DataW.trod_int Try.underlying2 h1
      have f1 := t1.symm.trans e1
      simp only [List.cons.injEq, and_true] at f1
      have t2 : List.take (Try.prog.cellsOf 2) (List.drop 2 ((List.range 3).map fun j => cs (i * 3 + j))) = [cs (i * 3 + 2)] := by
        rw [show Try.prog.cellsOf 2 = 1 by kernel_rfl]; rfl
      obtain ⟨x2, e2, _, w2⟩ := DataW.trod_int Try.underlying2 h2
      have f2 := t2.symm.trans e2
      simp only [List.cons.injEq, and_true] at f2
      exact ⟨⟨x0, x1, x2⟩, fun _ => ⟨⟨f0, f1, f2⟩, trivial⟩⟩
    · exact ⟨eg0, fun h => absurd h hi⟩
  obtain ⟨g, hg⟩ := Classical.axiomOfChoice hz
  refine ⟨(List.range len).map g, ?_, fun i hi => ?_⟩
  · obtain ⟨a', c', e, q1, q2, q3⟩ := id hrd
    cases e
    unfold GEg
    rw [List.length_map, List.length_range]
    refine Rws_of_rd hrd fun i j hi hj => ?_
    rw [gnth_range _ _ _ _ hi]
    obtain ⟨r0, r1, r2⟩ := (hg i hi).1
    match j, hj with
    | 0, _ => exact r0
    | 1, _ => exact r1
    | 2, _ => exact r2
  · rw [List.length_map, List.length_range] at hi
    rw [gnth_range _ _ _ _ hi]
    exact (hg i hi).2
set_option maxRecDepth 100000 in
theorem openC_Tm {H : Type} {enc : TypeId × Value → H} {W : World} {lo fuel : Nat} {sp : Nat → Bool} {held : Bool} {v : Value} {y : DataW H × List MemPlace}
    (h : DataW.trod enc Try.prog W lo sp held fuel 140 [v] = some y) : ∃ f, GTm W 0 W.heap.size v f ∧ okTm f := by
  obtain ⟨a, len, cap, rfl⟩ := slice_of_trod Try.underlying140 h
  obtain ⟨cs, hrd, n, hel⟩ := open_gen Try.underlying140 (show Try.prog.cellsOf 143 = 2 by kernel_rfl) (by decide) h
  have hz : ∀ i, ∃ z : Tm, i < len → (tmCol W 0 W.heap.size z 0 (cs (i * 2)) ∧ tmCol W 0 W.heap.size z 1 (cs (i * 2 + 1))) ∧ elTm z := by
    intro i
    by_cases hi : i < len
    · obtain ⟨y, hy⟩ := hel i hi
      obtain ⟨ys, n', _, _, _, hl, hg⟩ := DataW.trod_struct Try.underlying143 hy
      have h0 := (hg 0 _ rfl).trans (List.getElem?_eq_getElem (show 0 < ys.length by rw [hl]; decide))
      have h1 := (hg 1 _ rfl).trans (List.getElem?_eq_getElem (show 1 < ys.length by rw [hl]; decide))
      have t0 : List.take (Try.prog.cellsOf 2) (List.drop 0 ((List.range 2).map fun j => cs (i * 2 + j))) = [cs (i * 2)] := by
        rw [show Try.prog.cellsOf 2 = 1 by kernel_rfl]; rfl
      obtain ⟨x0, e0, _, w0⟩ := DataW.trod_int Try.underlying2 h0
      have f0 := t0.symm.trans e0
      simp only [List.cons.injEq, and_true] at f0
      have t1 : List.take (Try.prog.cellsOf 2) (List.drop 1 ((List.range 2).map fun j => cs (i * 2 + j))) = [cs (i * 2 + 1)] := by
        rw [show Try.prog.cellsOf 2 = 1 by kernel_rfl]; rfl
      obtain ⟨x1, e1, _, w1⟩ := DataW.trod_int Try.underlying2 h1
      have f1 := t1.symm.trans e1
      simp only [List.cons.injEq, and_true] at f1
      exact ⟨⟨x0, x1⟩, fun _ => ⟨⟨f0, f1⟩, trivial⟩⟩
    · exact ⟨tm0, fun h => absurd h hi⟩
  obtain ⟨g, hg⟩ := Classical.axiomOfChoice hz
  refine ⟨(List.range len).map g, ?_, fun i hi => ?_⟩
  · obtain ⟨a', c', e, q1, q2, q3⟩ := id hrd
    cases e
    unfold GTm
    rw [List.length_map, List.length_range]
    refine Rws_of_rd hrd fun i j hi hj => ?_
    rw [gnth_range _ _ _ _ hi]
    obtain ⟨r0, r1⟩ := (hg i hi).1
    match j, hj with
    | 0, _ => exact r0
    | 1, _ => exact r1
  · rw [List.length_map, List.length_range] at hi
    rw [gnth_range _ _ _ _ hi]
    exact (hg i hi).2
set_option maxRecDepth 100000 in
theorem openC_TmS {H : Type} {enc : TypeId × Value → H} {W : World} {lo fuel : Nat} {sp : Nat → Bool} {held : Bool} {v : Value} {y : DataW H × List MemPlace}
    (h : DataW.trod enc Try.prog W lo sp held fuel 132 [v] = some y) : ∃ f, GTmS W 0 W.heap.size v f ∧ okTmS f := by
  obtain ⟨a, len, cap, rfl⟩ := slice_of_trod Try.underlying132 h
  obtain ⟨cs, hrd, n, hel⟩ := open_gen Try.underlying132 (show Try.prog.cellsOf 140 = 1 by kernel_rfl) (by decide) h
  have hz : ∀ i, ∃ z : List Tm, i < len → GTm W 0 W.heap.size (cs i) z ∧ okTm z := by
    intro i
    by_cases hi : i < len
    · obtain ⟨y, hy⟩ := hel i hi
      obtain ⟨z, hz⟩ := openC_Tm (v := cs i) (by simpa using hy)
      exact ⟨z, fun _ => hz⟩
    · exact ⟨[], fun h => absurd h hi⟩
  obtain ⟨g, hg⟩ := Classical.axiomOfChoice hz
  refine ⟨(List.range len).map g, ?_, fun i hi => ?_⟩
  · obtain ⟨a', c', e, q1, q2, q3⟩ := id hrd
    cases e
    unfold GTmS
    rw [List.length_map, List.length_range]
    refine Rws_of_rd hrd fun i j hi hj => ?_
    rw [gnth_range _ _ _ _ hi, show i * 1 + j = i by omega]
    exact (hg i hi).1
  · rw [List.length_map, List.length_range] at hi
    rw [gnth_range _ _ _ _ hi]
    exact (hg i hi).2
set_option maxRecDepth 100000 in
theorem openC_Pt {H : Type} {enc : TypeId × Value → H} {W : World} {lo fuel : Nat} {sp : Nat → Bool} {held : Bool} {v : Value} {y : DataW H × List MemPlace}
    (h : DataW.trod enc Try.prog W lo sp held fuel 107 [v] = some y) : ∃ f, GPt W 0 W.heap.size v f ∧ okPt f := by
  obtain ⟨a, len, cap, rfl⟩ := slice_of_trod Try.underlying107 h
  obtain ⟨cs, hrd, n, hel⟩ := open_gen Try.underlying107 (show Try.prog.cellsOf 134 = 4 by kernel_rfl) (by decide) h
  have hz : ∀ i, ∃ z : Pt, i < len → (ptCol W 0 W.heap.size z 0 (cs (i * 4)) ∧ ptCol W 0 W.heap.size z 1 (cs (i * 4 + 1)) ∧ ptCol W 0 W.heap.size z 2 (cs (i * 4 + 2)) ∧ ptCol W 0 W.heap.size z 3 (cs (i * 4 + 3))) ∧ elPt z := by
    intro i
    by_cases hi : i < len
    · obtain ⟨y, hy⟩ := hel i hi
      obtain ⟨ys, n', _, _, _, hl, hg⟩ := DataW.trod_struct Try.underlying134 hy
      have h0 := (hg 0 _ rfl).trans (List.getElem?_eq_getElem (show 0 < ys.length by rw [hl]; decide))
      have h1 := (hg 1 _ rfl).trans (List.getElem?_eq_getElem (show 1 < ys.length by rw [hl]; decide))
      have h2 := (hg 2 _ rfl).trans (List.getElem?_eq_getElem (show 2 < ys.length by rw [hl]; decide))
      have h3 := (hg 3 _ rfl).trans (List.getElem?_eq_getElem (show 3 < ys.length by rw [hl]; decide))
      have t0 : List.take (Try.prog.cellsOf 2) (List.drop 0 ((List.range 4).map fun j => cs (i * 4 + j))) = [cs (i * 4)] := by
        rw [show Try.prog.cellsOf 2 = 1 by kernel_rfl]; rfl
      obtain ⟨x0, e0, _, w0⟩ := DataW.trod_int Try.underlying2 h0
      have f0 := t0.symm.trans e0
      simp only [List.cons.injEq, and_true] at f0
      have t1 : List.take (Try.prog.cellsOf 2) (List.drop 1 ((List.range 4).map fun j => cs (i * 4 + j))) = [cs (i * 4 + 1)] := by
        rw [show Try.prog.cellsOf 2 = 1 by kernel_rfl]; rfl
      obtain ⟨x1, e1, _, w1⟩ := DataW.trod_int Try.underlying2 h1
      have f1 := t1.symm.trans e1
      simp only [List.cons.injEq, and_true] at f1
      have t2 : List.take (Try.prog.cellsOf 9) (List.drop 2 ((List.range 4).map fun j => cs (i * 4 + j))) = [cs (i * 4 + 2)] := by
        rw [show Try.prog.cellsOf 9 = 1 by kernel_rfl]; rfl
      obtain ⟨x2, e2, _, w2⟩ := DataW.trod_string Try.underlying9 h2
      have f2 := t2.symm.trans e2
      simp only [List.cons.injEq, and_true] at f2
      have t3 : List.take (Try.prog.cellsOf 132) (List.drop 3 ((List.range 4).map fun j => cs (i * 4 + j))) = [cs (i * 4 + 3)] := by
        rw [show Try.prog.cellsOf 132 = 1 by kernel_rfl]; rfl
      obtain ⟨y3, k3⟩ : ∃ y, DataW.trod enc Try.prog W lo sp held n' 132 [cs (i * 4 + 3)] = some y := ⟨_, (congrArg (DataW.trod enc Try.prog W lo sp held n' 132) t3).symm.trans h3⟩
      obtain ⟨x3, f3, w3⟩ := openC_TmS k3
      exact ⟨⟨x0, x1, x2, x3⟩, fun _ => ⟨⟨f0, f1, f2, f3⟩, ⟨w2, w3⟩⟩⟩
    · exact ⟨pt0, fun h => absurd h hi⟩
  obtain ⟨g, hg⟩ := Classical.axiomOfChoice hz
  refine ⟨(List.range len).map g, ?_, fun i hi => ?_⟩
  · obtain ⟨a', c', e, q1, q2, q3⟩ := id hrd
    cases e
    unfold GPt
    rw [List.length_map, List.length_range]
    refine Rws_of_rd hrd fun i j hi hj => ?_
    rw [gnth_range _ _ _ _ hi]
    obtain ⟨r0, r1, r2, r3⟩ := (hg i hi).1
    match j, hj with
    | 0, _ => exact r0
    | 1, _ => exact r1
    | 2, _ => exact r2
    | 3, _ => exact r3
  · rw [List.length_map, List.length_range] at hi
    rw [gnth_range _ _ _ _ hi]
    exact (hg i hi).2
set_option maxRecDepth 100000 in
theorem openC_Df {H : Type} {enc : TypeId × Value → H} {W : World} {lo fuel : Nat} {sp : Nat → Bool} {held : Bool} {v : Value} {y : DataW H × List MemPlace}
    (h : DataW.trod enc Try.prog W lo sp held fuel 40 [v] = some y) : ∃ f, GDf W 0 W.heap.size v f ∧ okDf f := by
  obtain ⟨a, len, cap, rfl⟩ := slice_of_trod Try.underlying40 h
  obtain ⟨cs, hrd, n, hel⟩ := open_gen Try.underlying40 (show Try.prog.cellsOf 109 = 3 by kernel_rfl) (by decide) h
  have hz : ∀ i, ∃ z : Df, i < len → (dfCol W 0 W.heap.size z 0 (cs (i * 3)) ∧ dfCol W 0 W.heap.size z 1 (cs (i * 3 + 1)) ∧ dfCol W 0 W.heap.size z 2 (cs (i * 3 + 2))) ∧ elDf z := by
    intro i
    by_cases hi : i < len
    · obtain ⟨y, hy⟩ := hel i hi
      obtain ⟨ys, n', _, _, _, hl, hg⟩ := DataW.trod_struct Try.underlying109 hy
      have h0 := (hg 0 _ rfl).trans (List.getElem?_eq_getElem (show 0 < ys.length by rw [hl]; decide))
      have h1 := (hg 1 _ rfl).trans (List.getElem?_eq_getElem (show 1 < ys.length by rw [hl]; decide))
      have h2 := (hg 2 _ rfl).trans (List.getElem?_eq_getElem (show 2 < ys.length by rw [hl]; decide))
      have t0 : List.take (Try.prog.cellsOf 9) (List.drop 0 ((List.range 3).map fun j => cs (i * 3 + j))) = [cs (i * 3)] := by
        rw [show Try.prog.cellsOf 9 = 1 by kernel_rfl]; rfl
      obtain ⟨x0, e0, _, w0⟩ := DataW.trod_string Try.underlying9 h0
      have f0 := t0.symm.trans e0
      simp only [List.cons.injEq, and_true] at f0
      have t1 : List.take (Try.prog.cellsOf 2) (List.drop 1 ((List.range 3).map fun j => cs (i * 3 + j))) = [cs (i * 3 + 1)] := by
        rw [show Try.prog.cellsOf 2 = 1 by kernel_rfl]; rfl
      obtain ⟨x1, e1, _, w1⟩ := DataW.trod_int Try.underlying2 h1
      have f1 := t1.symm.trans e1
      simp only [List.cons.injEq, and_true] at f1
      have t2 : List.take (Try.prog.cellsOf 107) (List.drop 2 ((List.range 3).map fun j => cs (i * 3 + j))) = [cs (i * 3 + 2)] := by
        rw [show Try.prog.cellsOf 107 = 1 by kernel_rfl]; rfl
      obtain ⟨y2, k2⟩ : ∃ y, DataW.trod enc Try.prog W lo sp held n' 107 [cs (i * 3 + 2)] = some y := ⟨_, (congrArg (DataW.trod enc Try.prog W lo sp held n' 107) t2).symm.trans h2⟩
      obtain ⟨x2, f2, w2⟩ := openC_Pt k2
      exact ⟨⟨x0, x1, x2⟩, fun _ => ⟨⟨f0, f1, f2⟩, ⟨w0, w2⟩⟩⟩
    · exact ⟨df0, fun h => absurd h hi⟩
  obtain ⟨g, hg⟩ := Classical.axiomOfChoice hz
  refine ⟨(List.range len).map g, ?_, fun i hi => ?_⟩
  · obtain ⟨a', c', e, q1, q2, q3⟩ := id hrd
    cases e
    unfold GDf
    rw [List.length_map, List.length_range]
    refine Rws_of_rd hrd fun i j hi hj => ?_
    rw [gnth_range _ _ _ _ hi]
    obtain ⟨r0, r1, r2⟩ := (hg i hi).1
    match j, hj with
    | 0, _ => exact r0
    | 1, _ => exact r1
    | 2, _ => exact r2
  · rw [List.length_map, List.length_range] at hi
    rw [gnth_range _ _ _ _ hi]
    exact (hg i hi).2
set_option maxRecDepth 100000 in
theorem openC_Cp {H : Type} {enc : TypeId × Value → H} {W : World} {lo fuel : Nat} {sp : Nat → Bool} {held : Bool} {v : Value} {y : DataW H × List MemPlace}
    (h : DataW.trod enc Try.prog W lo sp held fuel 41 [v] = some y) : ∃ f, GCp W 0 W.heap.size v f ∧ okCp f := by
  obtain ⟨a, len, cap, rfl⟩ := slice_of_trod Try.underlying41 h
  obtain ⟨cs, hrd, n, hel⟩ := open_gen Try.underlying41 (show Try.prog.cellsOf 111 = 2 by kernel_rfl) (by decide) h
  have hz : ∀ i, ∃ z : Cp, i < len → (cpCol W 0 W.heap.size z 0 (cs (i * 2)) ∧ cpCol W 0 W.heap.size z 1 (cs (i * 2 + 1))) ∧ elCp z := by
    intro i
    by_cases hi : i < len
    · obtain ⟨y, hy⟩ := hel i hi
      obtain ⟨ys, n', _, _, _, hl, hg⟩ := DataW.trod_struct Try.underlying111 hy
      have h0 := (hg 0 _ rfl).trans (List.getElem?_eq_getElem (show 0 < ys.length by rw [hl]; decide))
      have h1 := (hg 1 _ rfl).trans (List.getElem?_eq_getElem (show 1 < ys.length by rw [hl]; decide))
      have t0 : List.take (Try.prog.cellsOf 2) (List.drop 0 ((List.range 2).map fun j => cs (i * 2 + j))) = [cs (i * 2)] := by
        rw [show Try.prog.cellsOf 2 = 1 by kernel_rfl]; rfl
      obtain ⟨x0, e0, _, w0⟩ := DataW.trod_int Try.underlying2 h0
      have f0 := t0.symm.trans e0
      simp only [List.cons.injEq, and_true] at f0
      have t1 : List.take (Try.prog.cellsOf 55) (List.drop 1 ((List.range 2).map fun j => cs (i * 2 + j))) = [cs (i * 2 + 1)] := by
        rw [show Try.prog.cellsOf 55 = 1 by kernel_rfl]; rfl
      obtain ⟨y1, k1⟩ : ∃ y, DataW.trod enc Try.prog W lo sp held n' 55 [cs (i * 2 + 1)] = some y := ⟨_, (congrArg (DataW.trod enc Try.prog W lo sp held n' 55) t1).symm.trans h1⟩
      obtain ⟨x1, f1, w1⟩ := openI_cell k1
      exact ⟨⟨x0, x1⟩, fun _ => ⟨⟨f0, f1.gi⟩, trivial⟩⟩
    · exact ⟨cp0, fun h => absurd h hi⟩
  obtain ⟨g, hg⟩ := Classical.axiomOfChoice hz
  refine ⟨(List.range len).map g, ?_, fun i hi => ?_⟩
  · obtain ⟨a', c', e, q1, q2, q3⟩ := id hrd
    cases e
    unfold GCp
    rw [List.length_map, List.length_range]
    refine Rws_of_rd hrd fun i j hi hj => ?_
    rw [gnth_range _ _ _ _ hi]
    obtain ⟨r0, r1⟩ := (hg i hi).1
    match j, hj with
    | 0, _ => exact r0
    | 1, _ => exact r1
  · rw [List.length_map, List.length_range] at hi
    rw [gnth_range _ _ _ _ hi]
    exact (hg i hi).2
set_option maxRecDepth 100000 in
theorem openC_Mt {H : Type} {enc : TypeId × Value → H} {W : World} {lo fuel : Nat} {sp : Nat → Bool} {held : Bool} {v : Value} {y : DataW H × List MemPlace}
    (h : DataW.trod enc Try.prog W lo sp held fuel 42 [v] = some y) : ∃ f, GMt W 0 W.heap.size v f ∧ okMt f := by
  obtain ⟨a, len, cap, rfl⟩ := slice_of_trod Try.underlying42 h
  obtain ⟨cs, hrd, n, hel⟩ := open_gen Try.underlying42 (show Try.prog.cellsOf 113 = 3 by kernel_rfl) (by decide) h
  have hz : ∀ i, ∃ z : Mt, i < len → (mtCol W 0 W.heap.size z 0 (cs (i * 3)) ∧ mtCol W 0 W.heap.size z 1 (cs (i * 3 + 1)) ∧ mtCol W 0 W.heap.size z 2 (cs (i * 3 + 2))) ∧ elMt z := by
    intro i
    by_cases hi : i < len
    · obtain ⟨y, hy⟩ := hel i hi
      obtain ⟨ys, n', _, _, _, hl, hg⟩ := DataW.trod_struct Try.underlying113 hy
      have h0 := (hg 0 _ rfl).trans (List.getElem?_eq_getElem (show 0 < ys.length by rw [hl]; decide))
      have h1 := (hg 1 _ rfl).trans (List.getElem?_eq_getElem (show 1 < ys.length by rw [hl]; decide))
      have h2 := (hg 2 _ rfl).trans (List.getElem?_eq_getElem (show 2 < ys.length by rw [hl]; decide))
      have t0 : List.take (Try.prog.cellsOf 9) (List.drop 0 ((List.range 3).map fun j => cs (i * 3 + j))) = [cs (i * 3)] := by
        rw [show Try.prog.cellsOf 9 = 1 by kernel_rfl]; rfl
      obtain ⟨x0, e0, _, w0⟩ := DataW.trod_string Try.underlying9 h0
      have f0 := t0.symm.trans e0
      simp only [List.cons.injEq, and_true] at f0
      have t1 : List.take (Try.prog.cellsOf 9) (List.drop 1 ((List.range 3).map fun j => cs (i * 3 + j))) = [cs (i * 3 + 1)] := by
        rw [show Try.prog.cellsOf 9 = 1 by kernel_rfl]; rfl
      obtain ⟨x1, e1, _, w1⟩ := DataW.trod_string Try.underlying9 h1
      have f1 := t1.symm.trans e1
      simp only [List.cons.injEq, and_true] at f1
      have t2 : List.take (Try.prog.cellsOf 9) (List.drop 2 ((List.range 3).map fun j => cs (i * 3 + j))) = [cs (i * 3 + 2)] := by
        rw [show Try.prog.cellsOf 9 = 1 by kernel_rfl]; rfl
      obtain ⟨x2, e2, _, w2⟩ := DataW.trod_string Try.underlying9 h2
      have f2 := t2.symm.trans e2
      simp only [List.cons.injEq, and_true] at f2
      exact ⟨⟨x0, x1, x2⟩, fun _ => ⟨⟨f0, f1, f2⟩, ⟨w0, w1, w2⟩⟩⟩
    · exact ⟨mt0, fun h => absurd h hi⟩
  obtain ⟨g, hg⟩ := Classical.axiomOfChoice hz
  refine ⟨(List.range len).map g, ?_, fun i hi => ?_⟩
  · obtain ⟨a', c', e, q1, q2, q3⟩ := id hrd
    cases e
    unfold GMt
    rw [List.length_map, List.length_range]
    refine Rws_of_rd hrd fun i j hi hj => ?_
    rw [gnth_range _ _ _ _ hi]
    obtain ⟨r0, r1, r2⟩ := (hg i hi).1
    match j, hj with
    | 0, _ => exact r0
    | 1, _ => exact r1
    | 2, _ => exact r2
  · rw [List.length_map, List.length_range] at hi
    rw [gnth_range _ _ _ _ hi]
    exact (hg i hi).2
end Go.Proofs.Ytdlldgenkmngiaa
