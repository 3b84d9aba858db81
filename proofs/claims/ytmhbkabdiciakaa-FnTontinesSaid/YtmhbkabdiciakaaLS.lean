/-
  slices.Sort over numbers: the library's contract laid at this translation by the kit's own command, in plain words. No condition.
-/
import Derived.Shelf.SlGeneric
import Derived.Shelf.SortG.Plain
import Derived.Shelf.SortG.SortNone
import Derived.Ground.SlgnProg
import Derived.Test.YtmhbkabdiciakaaProg
namespace Go.Proofs
open Go.Shelf
def Ytmhbkabdiciakaa.sortI_ren : Go.Shelf.Ren := ⟨fun | 53 => 62 | 64 => 67 | 63 => 66 | 78 => 78 | 79 => 79 | 70 => 69 | 71 => 70 | 72 => 71 | 73 => 72 | 74 => 73 | 75 => 74 | 59 => 75 | 76 => 76 | 77 => 77 | 88 => 81 | 89 => 82 | 90 => 83 | 91 => 84 | 92 => 85 | 68 => 86 | 96 => 87 | n => n, fun | 22 => 24 | 23 => 2 | 3 => 3 | 51 => 83 | 0 => 0 | 67 => 94 | 69 => 96 | 4 => 4 | 61 => 86 | 60 => 85 | 44 => 91 | 5 => 5 | 9 => 9 | 75 => 98 | 79 => 102 | 83 => 104 | 84 => 105 | n => n, fun | n => n⟩
theorem Ytmhbkabdiciakaa.sortI : Go.Proofs.SlLaysN.n53 Try.prog Ytmhbkabdiciakaa.sortI_ren := {
  mixed := by kernel_rfl
  f53 := ⟨Try.f62.name, by decide, Try.func62.trans (congrArg some (by kernel_rfl))⟩
  f59 := ⟨Try.f75.name, by decide, Try.func75.trans (congrArg some (by kernel_rfl))⟩
  f63 := ⟨Try.f66.name, by decide, Try.func66.trans (congrArg some (by kernel_rfl))⟩
  f64 := Try.func67.trans (congrArg some (by kernel_rfl))
  f68 := ⟨Try.f86.name, by decide, Try.func86.trans (congrArg some (by kernel_rfl))⟩
  f70 := ⟨Try.f69.name, by decide, Try.func69.trans (congrArg some (by kernel_rfl))⟩
  f71 := ⟨Try.f70.name, by decide, Try.func70.trans (congrArg some (by kernel_rfl))⟩
  f72 := ⟨Try.f71.name, by decide, Try.func71.trans (congrArg some (by kernel_rfl))⟩
  f73 := ⟨Try.f72.name, by decide, Try.func72.trans (congrArg some (by kernel_rfl))⟩
  f74 := ⟨Try.f73.name, by decide, Try.func73.trans (congrArg some (by kernel_rfl))⟩
  f75 := ⟨Try.f74.name, by decide, Try.func74.trans (congrArg some (by kernel_rfl))⟩
  f76 := ⟨Try.f76.name, by decide, Try.func76.trans (congrArg some (by kernel_rfl))⟩
  f77 := ⟨Try.f77.name, by decide, Try.func77.trans (congrArg some (by kernel_rfl))⟩
  f78 := Try.func78.trans (congrArg some (by kernel_rfl))
  f79 := Try.func79.trans (congrArg some (by kernel_rfl))
  f88 := ⟨Try.f81.name, by decide, Try.func81.trans (congrArg some (by kernel_rfl))⟩
  f89 := Try.func82.trans (congrArg some (by kernel_rfl))
  f90 := Try.func83.trans (congrArg some (by kernel_rfl))
  f91 := ⟨Try.f84.name, by decide, Try.func84.trans (congrArg some (by kernel_rfl))⟩
  f92 := ⟨Try.f85.name, by decide, Try.func85.trans (congrArg some (by kernel_rfl))⟩
  f96 := ⟨Try.f87.name, by decide, Try.func87.trans (congrArg some (by kernel_rfl))⟩
  t0 := Try.underlying0
  a0 := Try.isAgg0
  z0 := Try.sizeOf0
  v0 := Try.zeroValue0
  t3 := Try.underlying3
  a3 := Try.isAgg3
  z3 := Try.sizeOf3
  v3 := Try.zeroValue3
  t4 := Try.underlying4
  a4 := Try.isAgg4
  z4 := Try.sizeOf4
  v4 := Try.zeroValue4
  t5 := Try.underlying5
  a5 := Try.isAgg5
  z5 := Try.sizeOf5
  v5 := Try.zeroValue5
  t9 := Try.underlying9
  a9 := Try.isAgg9
  z9 := Try.sizeOf9
  v9 := Try.zeroValue9
  t22 := Try.underlying24
  a22 := Try.isAgg24
  z22 := Try.sizeOf24
  v22 := Try.zeroValue24
  t23 := Try.underlying2
  a23 := Try.isAgg2
  z23 := Try.sizeOf2
  v23 := Try.zeroValue2
  t44 := Try.underlying91
  a44 := Try.isAgg91
  z44 := Try.sizeOf91
  v44 := Try.zeroValue91
  t51 := Try.underlying83
  a51 := Try.isAgg83
  z51 := Try.sizeOf83
  v51 := Try.zeroValue83
  t60 := Try.underlying85
  a60 := Try.isAgg85
  z60 := Try.sizeOf85
  v60 := Try.zeroValue85
  t61 := Try.underlying86
  a61 := Try.isAgg86
  z61 := Try.sizeOf86
  v61 := Try.zeroValue86
  t67 := Try.underlying94
  a67 := Try.isAgg94
  z67 := Try.sizeOf94
  v67 := Try.zeroValue94
  t69 := Try.underlying96
  a69 := Try.isAgg96
  z69 := Try.sizeOf96
  v69 := Try.zeroValue96
  t75 := Try.underlying98
  a75 := Try.isAgg98
  z75 := Try.sizeOf98
  v75 := Try.zeroValue98
  t79 := Try.underlying102
  a79 := Try.isAgg102
  z79 := Try.sizeOf102
  v79 := Try.zeroValue102
  t83 := Try.underlying104
  a83 := Try.isAgg104
  z83 := Try.sizeOf104
  v83 := Try.zeroValue104
  t84 := Try.underlying105
  a84 := Try.isAgg105
  z84 := Try.sizeOf105
  v84 := Try.zeroValue105 }
end Go.Proofs
