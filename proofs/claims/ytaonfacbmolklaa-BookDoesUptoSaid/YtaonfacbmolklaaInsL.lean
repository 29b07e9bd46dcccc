/- The laying of functions of Go's library at this dump. Conditions: none. -/
import Derived.Shelf.Spec.SlicesInsert
import Derived.Shelf.Spec.SlicesInsertGrow
import Derived.Test.YtaonfacbmolklaaProg
namespace Go.Proofs.Ytaonfacbmolklaa
open Go.Shelf Go.Proofs Go.RowKit Go.Lib
def layNm222_ren : Go.Shelf.Ren := ⟨fun | 22 => 43 | 29 => 50 | 30 => 51 | 36 => 56 | 17 => 59 | n => n, fun | 24 => 29 | 9 => 9 | 3 => 3 | 4 => 4 | 0 => 0 | n => n, fun | n => n⟩
theorem layNm222 : Go.Proofs.Lays2.n22 Try.prog layNm222_ren := {
  mixed := by kernel_rfl
  f17 := Try.func59.trans (congrArg some (by kernel_rfl))
  f22 := Try.func43.trans (congrArg some (by kernel_rfl))
  f29 := Try.func50.trans (congrArg some (by kernel_rfl))
  f30 := Try.func51.trans (congrArg some (by kernel_rfl))
  f36 := Try.func56.trans (congrArg some (by kernel_rfl))
  t0 := Try.underlying0
  a0 := Try.isAgg0
  z0 := Try.sizeOf0
  v0 := Try.zeroValue0
  t3 := Try.underlying3
  a3 := Try.isAgg3
  z3 := Try.sizeOf3
  v3 := Try.zeroValue3
  t4 := Try.underlying4
  a4 := Try.isAgg4
  z4 := Try.sizeOf4
  v4 := Try.zeroValue4
  t9 := Try.underlying9
  a9 := Try.isAgg9
  z9 := Try.sizeOf9
  v9 := Try.zeroValue9
  t24 := Try.underlying29
  a24 := Try.isAgg29
  z24 := Try.sizeOf29
  v24 := Try.zeroValue29
  i9 := by kernel_rfl }
end Go.Proofs.Ytaonfacbmolklaa
