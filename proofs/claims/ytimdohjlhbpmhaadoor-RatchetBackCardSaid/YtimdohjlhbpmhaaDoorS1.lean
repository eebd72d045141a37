/- The shelf's contracts that the kit's own tool leaves out at this seat: TrailingZeros, Insert, Clone of nodes. -/
import Derived.Test.YtimdohjlhbpmhaaDoorRows
import Derived.Test.YtimdohjlhbpmhaaDoorShelf
import Derived.Shelf.Spec.TrailingZeros
import Derived.Shelf.Spec.SlicesInsert
import Derived.Shelf.Spec.SlicesInsertGrow
import Derived.Shelf.SlicesE.Clone
import Derived.Shelf.SlSorted.IsSorted
namespace Go.Proofs
open Go.Shelf Go.RowKit
set_option linter.unusedVariables false
set_option linter.unusedSimpArgs false
def Tryd.lays7n27_ren : Go.Shelf.Ren := ⟨fun | 27 => 91 | 28 => 92 | 29 => 93 | n => n, fun | 0 => 0 | 3 => 3 | 4 => 4 | 5 => 5 | 22 => 87 | 25 => 69 | 27 => 85 | 53 => 88 | 54 => 89 | n => n, fun | 0 => 0 | 1 => 1 | n => n⟩
theorem Tryd.lays7n27 : Go.Proofs.Lays7.n27 Tryd.prog Tryd.lays7n27_ren := {
  mixed := by kernel_rfl
  f27 := Tryd.func91.trans (congrArg some (by kernel_rfl))
  f28 := Tryd.func92.trans (congrArg some (by kernel_rfl))
  f29 := Tryd.func93.trans (congrArg some (by kernel_rfl))
  t0 := Tryd.underlying0
  a0 := Tryd.isAgg0
  z0 := Tryd.sizeOf0
  v0 := Tryd.zeroValue0
  i0 := by kernel_rfl
  t3 := Tryd.underlying3
  a3 := Tryd.isAgg3
  z3 := Tryd.sizeOf3
  v3 := Tryd.zeroValue3
  i3 := by kernel_rfl
  t4 := Tryd.underlying4
  a4 := Tryd.isAgg4
  z4 := Tryd.sizeOf4
  v4 := Tryd.zeroValue4
  i4 := by kernel_rfl
  t5 := Tryd.underlying5
  a5 := Tryd.isAgg5
  z5 := Tryd.sizeOf5
  v5 := Tryd.zeroValue5
  i5 := by kernel_rfl
  t22 := Tryd.underlying87
  a22 := Tryd.isAgg87
  z22 := Tryd.sizeOf87
  v22 := Tryd.zeroValue87
  i22 := by kernel_rfl
  t25 := Tryd.underlying69
  a25 := Tryd.isAgg69
  z25 := Tryd.sizeOf69
  v25 := Tryd.zeroValue69
  i25 := by kernel_rfl
  t27 := Tryd.underlying85
  a27 := Tryd.isAgg85
  z27 := Tryd.sizeOf85
  v27 := Tryd.zeroValue85
  i27 := by kernel_rfl
  t53 := Tryd.underlying88
  a53 := Tryd.isAgg88
  z53 := Tryd.sizeOf88
  v53 := Tryd.zeroValue88
  i53 := by kernel_rfl
  t54 := Tryd.underlying89
  a54 := Tryd.isAgg89
  z54 := Tryd.sizeOf89
  g0 := by kernel_rfl
  g1 := by kernel_rfl }
def Tryd.lays2n21_ren : Go.Shelf.Ren := ⟨fun | 21 => 40 | 27 => 62 | 28 => 63 | 35 => 80 | 39 => 90 | n => n, fun | 0 => 0 | 3 => 3 | 4 => 4 | 22 => 23 | n => n, fun | n => n⟩
theorem Tryd.lays2n21 : Go.Proofs.Lays2.n21 Tryd.prog Tryd.lays2n21_ren := {
  mixed := by kernel_rfl
  f21 := Tryd.func40.trans (congrArg some (by kernel_rfl))
  f27 := Tryd.func62.trans (congrArg some (by kernel_rfl))
  f28 := Tryd.func63.trans (congrArg some (by kernel_rfl))
  f35 := Tryd.func80.trans (congrArg some (by kernel_rfl))
  f39 := Tryd.func90.trans (congrArg some (by kernel_rfl))
  t0 := Tryd.underlying0
  a0 := Tryd.isAgg0
  z0 := Tryd.sizeOf0
  v0 := Tryd.zeroValue0
  t3 := Tryd.underlying3
  a3 := Tryd.isAgg3
  z3 := Tryd.sizeOf3
  v3 := Tryd.zeroValue3
  t4 := Tryd.underlying4
  a4 := Tryd.isAgg4
  z4 := Tryd.sizeOf4
  v4 := Tryd.zeroValue4
  t22 := Tryd.underlying23
  a22 := Tryd.isAgg23
  z22 := Tryd.sizeOf23
  v22 := Tryd.zeroValue23
  i3 := by kernel_rfl }
def Tryd.laysE041_ren : Go.Shelf.Ren := ⟨fun | 41 => 57 | n => n, fun | 22 => 22 | 23 => 25 | 4 => 4 | n => n, fun | n => n⟩
theorem Tryd.laysE041 : Go.Proofs.SlLaysE0.n41 Tryd.prog Tryd.laysE041_ren := {
  mixed := by kernel_rfl
  f41 := ⟨Tryd.f57.name, by decide, Tryd.func57.trans (congrArg some (by kernel_rfl))⟩
  t4 := Tryd.underlying4
  a4 := Tryd.isAgg4
  z4 := Tryd.sizeOf4
  v4 := Tryd.zeroValue4
  t22 := Tryd.underlying22
  a22 := Tryd.isAgg22
  z22 := Tryd.sizeOf22
  v22 := Tryd.zeroValue22 }

def Tryd.laysO10_ren : Go.Shelf.Ren := ⟨fun | 10 => 73 | 18 => 60 | 24 => 79 | n => n, fun | 0 => 0 | 3 => 3 | 4 => 4 | 22 => 23 | 24 => 3 | n => n, fun | n => n⟩
theorem Tryd.laysO10 : Go.Proofs.SlLaysO.n10 Tryd.prog Tryd.laysO10_ren := {
  mixed := by kernel_rfl
  f10 := ⟨Tryd.f73.name, by decide, Tryd.func73.trans (congrArg some (by kernel_rfl))⟩
  f18 := ⟨Tryd.f60.name, by decide, Tryd.func60.trans (congrArg some (by kernel_rfl))⟩
  f24 := ⟨Tryd.f79.name, by decide, Tryd.func79.trans (congrArg some (by kernel_rfl))⟩
  t0 := Tryd.underlying0
  a0 := Tryd.isAgg0
  z0 := Tryd.sizeOf0
  v0 := Tryd.zeroValue0
  t3 := Tryd.underlying3
  a3 := Tryd.isAgg3
  z3 := Tryd.sizeOf3
  v3 := Tryd.zeroValue3
  t4 := Tryd.underlying4
  a4 := Tryd.isAgg4
  z4 := Tryd.sizeOf4
  v4 := Tryd.zeroValue4
  t22 := Tryd.underlying23
  a22 := Tryd.isAgg23
  z22 := Tryd.sizeOf23
  v22 := Tryd.zeroValue23
  t24 := Tryd.underlying3
  a24 := Tryd.isAgg3
  z24 := Tryd.sizeOf3
  v24 := Tryd.zeroValue3 }

/-- The table of the library's is laid. -/
def Tab (w : World) : Prop := TabAt 1 Lib.deBruijn64tab w
theorem Tab.ext {w w' : World} (h : Tab w) (hb : Below w.heap.size w w') : Tab w' := fun j hj => (hb.cell (p := ⟨1, j, none⟩) (block_lt_of_cell (h j hj))).trans (h j hj)
theorem Tryd.trailing (x : Nat) (hx : x < 18446744073709551616) (w : World) (hT : Tab w) :
    Calls Tryd.prog 91 #[.int .u64 x] w fun e w' => e = .returned (.int .i64 (Lib.ctz 64 x)) ∧ w' = w :=
  Any7.bits_TrailingZeros Tryd.lays7n27 x hx w fun _ => hT

end Go.Proofs
