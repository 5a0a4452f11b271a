/- Contracts: Possibly, Invariantly, Inevitably, of the program and of the reference. -/
import Derived.Test.YtbhkpnhlegiilaaGreatDoorProg
import Derived.Test.YtbhkpnhlegiilaaGreatDoorMem
import Derived.Test.YtbhkpnhlegiilaaGreatDoorMath
import Derived.Test.YtbhkpnhlegiilaaGreatDoorBasics
import Derived.Test.YtbhkpnhlegiilaaGreatDoorOpenI
import Derived.Test.YtbhkpnhlegiilaaGreatDoorHelpI
import Derived.Test.YtbhkpnhlegiilaaGreatDoorGrid
import Derived.Test.YtbhkpnhlegiilaaGreatDoorLab
import Derived.Test.YtbhkpnhlegiilaaGreatDoorDec
import Derived.Test.YtbhkpnhlegiilaaGreatDoorEnv
import Derived.Test.YtbhkpnhlegiilaaGreatDoorNode
import Derived.Test.YtbhkpnhlegiilaaGreatDoorNodeW
import Derived.Test.YtbhkpnhlegiilaaGreatDoorVMod
import Derived.Test.YtbhkpnhlegiilaaGreatDoorEnd
import Derived.Test.YtbhkpnhlegiilaaGreatDoorBind
import Derived.Test.YtbhkpnhlegiilaaGreatDoorVFor
import Derived.Test.YtbhkpnhlegiilaaGreatDoorConc
import Derived.Test.YtbhkpnhlegiilaaGreatDoorNds
import Derived.Test.YtbhkpnhlegiilaaGreatDoorFreq
import Derived.WalkKit
import Derived.BigQuiet
import Derived.Maps.AppendAt
import Derived.Laws.OwnMore
import Derived.Lib.Hide
import Derived.Outline
set_option linter.unusedVariables false
set_option linter.unusedSimpArgs false
namespace Go.Proofs.YtbhkpnhlegiilaaGreatDoor
open Go.RowKit

/-- A literal list of nodes, just made. -/
theorem rd_lit (w : World) (f : List Nd) (T n : Nat) (cs : Array Value) (hcs : cs.toList = ndCells f) (hn : n = f.length) (hm : n ≤ 1000) : RdNd (w.alloc (.cells cs T)) (.slice (some ⟨w.heap.size, 0, none⟩) n n) f := by
  subst hn
  refine ⟨_, f.length, rfl, Nat.le_refl _, by unfold maxLen; omega, fun h0 => ⟨_, 0, rfl, by simp, fun i hi => ?_⟩⟩
  rw [cell_of_row _ _ _ _ _ _ (heap_alloc_new w _), Nat.zero_add]
  have h1 := ndCells_get f hi
  rw [← hcs] at h1
  simpa using h1
theorem size_alloc' (w : World) (o : Obj) : (w.alloc o).heap.size = w.heap.size + 1 := by simp
set_option maxRecDepth 100000 in
set_option maxHeartbeats 1000000 in
theorem Possibly_any (v : Value) (f : List Nd) (w : World) (hn : f.length ≤ 1048576) (hls : ∀ i, i < f.length → (ndnth f i).lab.size ≤ 1048576) (hT : Env w) (hv : RdNd w v f) :
    Calls Tryz.prog 15 #[v] w fun e w' => ∃ u, e = .returned (.tuple #[u, .int .i64 (frCode [nk 7, nk 3] f [nk 4, nk 6])]) ∧ OwNd w' w.heap.size u (frOut [nk 7, nk 3] f [nk 4, nk 6]) ∧ Below w.heap.size w w' := by
  have HV := Lib.hid hv
  have HT := Lib.hid hT
  clear hT
  obtain ⟨a, cap, rfl⟩ := hv.slice
  clear hv
  have hb1 : Below w.heap.size w (w.alloc (.cells #[.int .i64 7, .int .i64 0, .string ByteArray.empty, .bool false, .int .i64 3, .int .i64 0, .string ByteArray.empty, .bool false] 37)) := (Below.refl _ _).alloc (Nat.le_refl _) _
  have hb2 : Below w.heap.size w ((w.alloc (.cells #[.int .i64 7, .int .i64 0, .string ByteArray.empty, .bool false, .int .i64 3, .int .i64 0, .string ByteArray.empty, .bool false] 37)).alloc (.cells #[.int .i64 4, .int .i64 0, .string ByteArray.empty, .bool false, .int .i64 6, .int .i64 0, .string ByteArray.empty, .bool false] 37)) := hb1.alloc hb1.size _
  have hvb := (rd_lit w [nk 7, nk 3] 37 2 #[.int .i64 7, .int .i64 0, .string ByteArray.empty, .bool false, .int .i64 3, .int .i64 0, .string ByteArray.empty, .bool false] (by rfl) rfl (by decide)).below ((Below.refl _ _).alloc (Nat.le_refl _) (.cells #[.int .i64 4, .int .i64 0, .string ByteArray.empty, .bool false, .int .i64 6, .int .i64 0, .string ByteArray.empty, .bool false] 37))
  have hvh := rd_lit (w.alloc (.cells #[.int .i64 7, .int .i64 0, .string ByteArray.empty, .bool false, .int .i64 3, .int .i64 0, .string ByteArray.empty, .bool false] 37)) [nk 4, nk 6] 37 2 #[.int .i64 4, .int .i64 0, .string ByteArray.empty, .bool false, .int .i64 6, .int .i64 0, .string ByteArray.empty, .bool false] (by rfl) rfl (by decide)
  rw [size_alloc'] at hvh
  go_enter Tryz.func15, Tryz.ntmps15
  go_wp2_with fail
  refine (frequent_any _ _ _ f [nk 7, nk 3] [nk 4, nk 6] _ hn hls (HT.out.below hb2) (HV.out.below hb2) hvb hvh (by decide) (by decide)).mono ?_
  rintro e w3 ⟨u, rfl, hu, hb3⟩
  have HU := Lib.hid hu
  clear hu hvb hvh
  go_wp2_with fail
  go_ret2
  exact ⟨_, rfl, HU.out.mono hb2.size, hb2.trans (hb3.mono hb2.size)⟩
set_option maxRecDepth 100000 in
set_option maxHeartbeats 1000000 in
theorem spec_Possibly_any (v : Value) (f : List Nd) (w : World) (hn : f.length ≤ 1048576) (hls : ∀ i, i < f.length → (ndnth f i).lab.size ≤ 1048576) (hv : RdNd w v f) :
    Calls Tryz.prog 14 #[v] w fun e w' => ∃ u, e = .returned (.tuple #[u, .int .i64 (frCode [nk 7, nk 3] f [nk 4, nk 6])]) ∧ OwNd w' w.heap.size u (frOut [nk 7, nk 3] f [nk 4, nk 6]) ∧ Below w.heap.size w w' := by
  have HV := Lib.hid hv
  obtain ⟨a, cap, rfl⟩ := hv.slice
  clear hv
  have hb1 : Below w.heap.size w (w.alloc (.cells #[.int .i64 7, .int .i64 0, .string ByteArray.empty, .bool false, .int .i64 3, .int .i64 0, .string ByteArray.empty, .bool false] 37)) := (Below.refl _ _).alloc (Nat.le_refl _) _
  have hb2 : Below w.heap.size w ((w.alloc (.cells #[.int .i64 7, .int .i64 0, .string ByteArray.empty, .bool false, .int .i64 3, .int .i64 0, .string ByteArray.empty, .bool false] 37)).alloc (.cells #[.int .i64 4, .int .i64 0, .string ByteArray.empty, .bool false, .int .i64 6, .int .i64 0, .string ByteArray.empty, .bool false] 37)) := hb1.alloc hb1.size _
  have hvb := (rd_lit w [nk 7, nk 3] 37 2 #[.int .i64 7, .int .i64 0, .string ByteArray.empty, .bool false, .int .i64 3, .int .i64 0, .string ByteArray.empty, .bool false] (by rfl) rfl (by decide)).below ((Below.refl _ _).alloc (Nat.le_refl _) (.cells #[.int .i64 4, .int .i64 0, .string ByteArray.empty, .bool false, .int .i64 6, .int .i64 0, .string ByteArray.empty, .bool false] 37))
  have hvh := rd_lit (w.alloc (.cells #[.int .i64 7, .int .i64 0, .string ByteArray.empty, .bool false, .int .i64 3, .int .i64 0, .string ByteArray.empty, .bool false] 37)) [nk 4, nk 6] 37 2 #[.int .i64 4, .int .i64 0, .string ByteArray.empty, .bool false, .int .i64 6, .int .i64 0, .string ByteArray.empty, .bool false] (by rfl) rfl (by decide)
  rw [size_alloc'] at hvh
  go_enter Tryz.func14, Tryz.ntmps14
  go_wp2_with fail
  refine (l19Frame_any _ _ _ f [nk 7, nk 3] [nk 4, nk 6] _ hn hls (HV.out.below hb2) hvb hvh (by decide) (by decide)).mono ?_
  rintro e w3 ⟨u, rfl, hu, hb3⟩
  have HU := Lib.hid hu
  clear hu hvb hvh
  go_wp2_with fail
  go_ret2
  exact ⟨_, rfl, HU.out.mono hb2.size, hb2.trans (hb3.mono hb2.size)⟩
set_option maxRecDepth 100000 in
set_option maxHeartbeats 1000000 in
theorem Invariantly_any (v : Value) (f : List Nd) (w : World) (hn : f.length ≤ 1048576) (hls : ∀ i, i < f.length → (ndnth f i).lab.size ≤ 1048576) (hT : Env w) (hv : RdNd w v f) :
    Calls Tryz.prog 10 #[v] w fun e w' => ∃ u, e = .returned (.tuple #[u, .int .i64 (frCode [nk 8, nk 2] f [nk 5, nk 6])]) ∧ OwNd w' w.heap.size u (frOut [nk 8, nk 2] f [nk 5, nk 6]) ∧ Below w.heap.size w w' := by
  have HV := Lib.hid hv
  have HT := Lib.hid hT
  clear hT
  obtain ⟨a, cap, rfl⟩ := hv.slice
  clear hv
  have hb1 : Below w.heap.size w (w.alloc (.cells #[.int .i64 8, .int .i64 0, .string ByteArray.empty, .bool false, .int .i64 2, .int .i64 0, .string ByteArray.empty, .bool false] 37)) := (Below.refl _ _).alloc (Nat.le_refl _) _
  have hb2 : Below w.heap.size w ((w.alloc (.cells #[.int .i64 8, .int .i64 0, .string ByteArray.empty, .bool false, .int .i64 2, .int .i64 0, .string ByteArray.empty, .bool false] 37)).alloc (.cells #[.int .i64 5, .int .i64 0, .string ByteArray.empty, .bool false, .int .i64 6, .int .i64 0, .string ByteArray.empty, .bool false] 37)) := hb1.alloc hb1.size _
  have hvb := (rd_lit w [nk 8, nk 2] 37 2 #[.int .i64 8, .int .i64 0, .string ByteArray.empty, .bool false, .int .i64 2, .int .i64 0, .string ByteArray.empty, .bool false] (by rfl) rfl (by decide)).below ((Below.refl _ _).alloc (Nat.le_refl _) (.cells #[.int .i64 5, .int .i64 0, .string ByteArray.empty, .bool false, .int .i64 6, .int .i64 0, .string ByteArray.empty, .bool false] 37))
  have hvh := rd_lit (w.alloc (.cells #[.int .i64 8, .int .i64 0, .string ByteArray.empty, .bool false, .int .i64 2, .int .i64 0, .string ByteArray.empty, .bool false] 37)) [nk 5, nk 6] 37 2 #[.int .i64 5, .int .i64 0, .string ByteArray.empty, .bool false, .int .i64 6, .int .i64 0, .string ByteArray.empty, .bool false] (by rfl) rfl (by decide)
  rw [size_alloc'] at hvh
  go_enter Tryz.func10, Tryz.ntmps10
  go_wp2_with fail
  refine (frequent_any _ _ _ f [nk 8, nk 2] [nk 5, nk 6] _ hn hls (HT.out.below hb2) (HV.out.below hb2) hvb hvh (by decide) (by decide)).mono ?_
  rintro e w3 ⟨u, rfl, hu, hb3⟩
  have HU := Lib.hid hu
  clear hu hvb hvh
  go_wp2_with fail
  go_ret2
  exact ⟨_, rfl, HU.out.mono hb2.size, hb2.trans (hb3.mono hb2.size)⟩
set_option maxRecDepth 100000 in
set_option maxHeartbeats 1000000 in
theorem spec_Invariantly_any (v : Value) (f : List Nd) (w : World) (hn : f.length ≤ 1048576) (hls : ∀ i, i < f.length → (ndnth f i).lab.size ≤ 1048576) (hv : RdNd w v f) :
    Calls Tryz.prog 8 #[v] w fun e w' => ∃ u, e = .returned (.tuple #[u, .int .i64 (frCode [nk 8, nk 2] f [nk 5, nk 6])]) ∧ OwNd w' w.heap.size u (frOut [nk 8, nk 2] f [nk 5, nk 6]) ∧ Below w.heap.size w w' := by
  have HV := Lib.hid hv
  obtain ⟨a, cap, rfl⟩ := hv.slice
  clear hv
  have hb1 : Below w.heap.size w (w.alloc (.cells #[.int .i64 8, .int .i64 0, .string ByteArray.empty, .bool false, .int .i64 2, .int .i64 0, .string ByteArray.empty, .bool false] 37)) := (Below.refl _ _).alloc (Nat.le_refl _) _
  have hb2 : Below w.heap.size w ((w.alloc (.cells #[.int .i64 8, .int .i64 0, .string ByteArray.empty, .bool false, .int .i64 2, .int .i64 0, .string ByteArray.empty, .bool false] 37)).alloc (.cells #[.int .i64 5, .int .i64 0, .string ByteArray.empty, .bool false, .int .i64 6, .int .i64 0, .string ByteArray.empty, .bool false] 37)) := hb1.alloc hb1.size _
  have hvb := (rd_lit w [nk 8, nk 2] 37 2 #[.int .i64 8, .int .i64 0, .string ByteArray.empty, .bool false, .int .i64 2, .int .i64 0, .string ByteArray.empty, .bool false] (by rfl) rfl (by decide)).below ((Below.refl _ _).alloc (Nat.le_refl _) (.cells #[.int .i64 5, .int .i64 0, .string ByteArray.empty, .bool false, .int .i64 6, .int .i64 0, .string ByteArray.empty, .bool false] 37))
  have hvh := rd_lit (w.alloc (.cells #[.int .i64 8, .int .i64 0, .string ByteArray.empty, .bool false, .int .i64 2, .int .i64 0, .string ByteArray.empty, .bool false] 37)) [nk 5, nk 6] 37 2 #[.int .i64 5, .int .i64 0, .string ByteArray.empty, .bool false, .int .i64 6, .int .i64 0, .string ByteArray.empty, .bool false] (by rfl) rfl (by decide)
  rw [size_alloc'] at hvh
  go_enter Tryz.func8, Tryz.ntmps8
  go_wp2_with fail
  refine (l19Frame_any _ _ _ f [nk 8, nk 2] [nk 5, nk 6] _ hn hls (HV.out.below hb2) hvb hvh (by decide) (by decide)).mono ?_
  rintro e w3 ⟨u, rfl, hu, hb3⟩
  have HU := Lib.hid hu
  clear hu hvb hvh
  go_wp2_with fail
  go_ret2
  exact ⟨_, rfl, HU.out.mono hb2.size, hb2.trans (hb3.mono hb2.size)⟩
end Go.Proofs.YtbhkpnhlegiilaaGreatDoor
