/-
  slices.Sort over numbers: the library's contract laid at this translation by the kit's own command, in plain words. No condition.
-/
import Derived.Shelf.SlGeneric
import Derived.Shelf.SortG.Plain
import Derived.Shelf.SortG.SortNone
import Derived.Ground.SlgnProg
import Derived.Test.YtaikfclgmkfooaaGreatDoorProg
namespace Go.Proofs
open Go.Shelf
def YtaikfclgmkfooaaGreatDoor.sortI_ren : Go.Shelf.Ren := ⟨fun | 53 => 51 | 64 => 71 | 63 => 70 | 78 => 96 | 79 => 97 | 70 => 87 | 71 => 88 | 72 => 89 | 73 => 90 | 74 => 91 | 75 => 92 | 59 => 93 | 76 => 94 | 77 => 95 | 88 => 107 | 89 => 108 | 90 => 109 | 91 => 110 | 92 => 111 | 68 => 112 | 96 => 121 | n => n, fun | 22 => 24 | 23 => 2 | 3 => 3 | 51 => 89 | 0 => 0 | 67 => 126 | 69 => 86 | 4 => 4 | 61 => 118 | 60 => 117 | 44 => 123 | 5 => 5 | 9 => 9 | 75 => 133 | 79 => 137 | 83 => 152 | 84 => 153 | n => n, fun | n => n⟩
theorem YtaikfclgmkfooaaGreatDoor.sortI : Go.Proofs.SlLaysN.n53 Tryz.prog YtaikfclgmkfooaaGreatDoor.sortI_ren := {
  mixed := by kernel_rfl
  f53 := ⟨Tryz.f51.name, by decide, Tryz.func51.trans (congrArg some (by kernel_rfl))⟩
  f59 := ⟨Tryz.f93.name, by decide, Tryz.func93.trans (congrArg some (by kernel_rfl))⟩
  f63 := ⟨Tryz.f70.name, by decide, Tryz.func70.trans (congrArg some (by kernel_rfl))⟩
  f64 := Tryz.func71.trans (congrArg some (by kernel_rfl))
  f68 := ⟨Tryz.f112.name, by decide, Tryz.func112.trans (congrArg some (by kernel_rfl))⟩
  f70 := ⟨Tryz.f87.name, by decide, Tryz.func87.trans (congrArg some (by kernel_rfl))⟩
  f71 := ⟨Tryz.f88.name, by decide, Tryz.func88.trans (congrArg some (by kernel_rfl))⟩
  f72 := ⟨Tryz.f89.name, by decide, Tryz.func89.trans (congrArg some (by kernel_rfl))⟩
  f73 := ⟨Tryz.f90.name, by decide, Tryz.func90.trans (congrArg some (by kernel_rfl))⟩
  f74 := ⟨Tryz.f91.name, by decide, Tryz.func91.trans (congrArg some (by kernel_rfl))⟩
  f75 := ⟨Tryz.f92.name, by decide, Tryz.func92.trans (congrArg some (by kernel_rfl))⟩
  f76 := ⟨Tryz.f94.name, by decide, Tryz.func94.trans (congrArg some (by kernel_rfl))⟩
  f77 := ⟨Tryz.f95.name, by decide, Tryz.func95.trans (congrArg some (by kernel_rfl))⟩
  f78 := Tryz.func96.trans (congrArg some (by kernel_rfl))
  f79 := Tryz.func97.trans (congrArg some (by kernel_rfl))
  f88 := ⟨Tryz.f107.name, by decide, Tryz.func107.trans (congrArg some (by kernel_rfl))⟩
  f89 := Tryz.func108.trans (congrArg some (by kernel_rfl))
  f90 := Tryz.func109.trans (congrArg some (by kernel_rfl))
  f91 := ⟨Tryz.f110.name, by decide, Tryz.func110.trans (congrArg some (by kernel_rfl))⟩
  f92 := ⟨Tryz.f111.name, by decide, Tryz.func111.trans (congrArg some (by kernel_rfl))⟩
  f96 := ⟨Tryz.f121.name, by decide, Tryz.func121.trans (congrArg some (by kernel_rfl))⟩
  t0 := Tryz.underlying0
  a0 := Tryz.isAgg0
  z0 := Tryz.sizeOf0
  v0 := Tryz.zeroValue0
  t3 := Tryz.underlying3
  a3 := Tryz.isAgg3
  z3 := Tryz.sizeOf3
  v3 := Tryz.zeroValue3
  t4 := Tryz.underlying4
  a4 := Tryz.isAgg4
  z4 := Tryz.sizeOf4
  v4 := Tryz.zeroValue4
  t5 := Tryz.underlying5
  a5 := Tryz.isAgg5
  z5 := Tryz.sizeOf5
  v5 := Tryz.zeroValue5
  t9 := Tryz.underlying9
  a9 := Tryz.isAgg9
  z9 := Tryz.sizeOf9
  v9 := Tryz.zeroValue9
  t22 := Tryz.underlying24
  a22 := Tryz.isAgg24
  z22 := Tryz.sizeOf24
  v22 := Tryz.zeroValue24
  t23 := Tryz.underlying2
  a23 := Tryz.isAgg2
  z23 := Tryz.sizeOf2
  v23 := Tryz.zeroValue2
  t44 := Tryz.underlying123
  a44 := Tryz.isAgg123
  z44 := Tryz.sizeOf123
  v44 := Tryz.zeroValue123
  t51 := Tryz.underlying89
  a51 := Tryz.isAgg89
  z51 := Tryz.sizeOf89
  v51 := Tryz.zeroValue89
  t60 := Tryz.underlying117
  a60 := Tryz.isAgg117
  z60 := Tryz.sizeOf117
  v60 := Tryz.zeroValue117
  t61 := Tryz.underlying118
  a61 := Tryz.isAgg118
  z61 := Tryz.sizeOf118
  v61 := Tryz.zeroValue118
  t67 := Tryz.underlying126
  a67 := Tryz.isAgg126
  z67 := Tryz.sizeOf126
  v67 := Tryz.zeroValue126
  t69 := Tryz.underlying86
  a69 := Tryz.isAgg86
  z69 := Tryz.sizeOf86
  v69 := Tryz.zeroValue86
  t75 := Tryz.underlying133
  a75 := Tryz.isAgg133
  z75 := Tryz.sizeOf133
  v75 := Tryz.zeroValue133
  t79 := Tryz.underlying137
  a79 := Tryz.isAgg137
  z79 := Tryz.sizeOf137
  v79 := Tryz.zeroValue137
  t83 := Tryz.underlying152
  a83 := Tryz.isAgg152
  z83 := Tryz.sizeOf152
  v83 := Tryz.zeroValue152
  t84 := Tryz.underlying153
  a84 := Tryz.isAgg153
  z84 := Tryz.sizeOf153
  v84 := Tryz.zeroValue153 }
end Go.Proofs
