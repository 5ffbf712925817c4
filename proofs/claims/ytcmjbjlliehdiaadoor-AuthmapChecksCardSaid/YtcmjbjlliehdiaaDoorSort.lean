/-
  DERIVED: THE SHELF's CONTRACTS AT THIS DUMP, IN PLAIN WORDS (tools/lay-plain.mjs out of 'YtcmjbjlliehdiaaDoorSort0.lean', which tools/lay-shelf.mjs wrote): THE SAME DECLARATIONS UNDER THE SAME NAMES: 'import', 'namespace', 'open', 'def', 'theorem' AND NOTHING ELSE: no command of the shelf's: FOR A HAND-IN. Each laying: the table of numbers ('.._ren') and one theorem, a field a fact of the dump's own or the kernel's comparison; each contract: ONE APPLICATION.
-/
import Derived.Shelf.SortM.Plain
import Derived.Shelf.SortM.SortNone
import Derived.Ground.SlgmProg
import Derived.Test.YtcmjbjlliehdiaaDoorProg
namespace Go.Proofs
open Go.Shelf
def YtcmjbjlliehdiaaDoor.sortA_ren : Go.Shelf.Ren := ⟨fun | 5 => 84 | 8 => 100 | 7 => 99 | 19 => 112 | 20 => 113 | 10 => 103 | 11 => 104 | 12 => 105 | 13 => 106 | 14 => 107 | 15 => 108 | 16 => 109 | 17 => 110 | 18 => 111 | 30 => 114 | 31 => 115 | 32 => 116 | 33 => 117 | 34 => 118 | 35 => 119 | 40 => 120 | n => n, fun | 23 => 22 | 25 => 3 | 3 => 3 | 32 => 56 | 22 => 22 | 0 => 0 | 44 => 171 | 46 => 43 | 4 => 4 | 36 => 164 | 35 => 163 | 41 => 168 | 5 => 5 | 9 => 9 | 53 => 172 | 57 => 175 | 63 => 177 | 64 => 178 | n => n, fun | n => n⟩
theorem YtcmjbjlliehdiaaDoor.sortA : Go.Proofs.SlLaysM.n5 Tryd.prog YtcmjbjlliehdiaaDoor.sortA_ren := {
  mixed := by kernel_rfl
  f5 := ⟨Tryd.f84.name, by decide, Tryd.func84.trans (congrArg some (by kernel_rfl))⟩
  f7 := ⟨Tryd.f99.name, by decide, Tryd.func99.trans (congrArg some (by kernel_rfl))⟩
  f8 := Tryd.func100.trans (congrArg some (by kernel_rfl))
  f10 := ⟨Tryd.f103.name, by decide, Tryd.func103.trans (congrArg some (by kernel_rfl))⟩
  f11 := ⟨Tryd.f104.name, by decide, Tryd.func104.trans (congrArg some (by kernel_rfl))⟩
  f12 := ⟨Tryd.f105.name, by decide, Tryd.func105.trans (congrArg some (by kernel_rfl))⟩
  f13 := ⟨Tryd.f106.name, by decide, Tryd.func106.trans (congrArg some (by kernel_rfl))⟩
  f14 := ⟨Tryd.f107.name, by decide, Tryd.func107.trans (congrArg some (by kernel_rfl))⟩
  f15 := ⟨Tryd.f108.name, by decide, Tryd.func108.trans (congrArg some (by kernel_rfl))⟩
  f16 := ⟨Tryd.f109.name, by decide, Tryd.func109.trans (congrArg some (by kernel_rfl))⟩
  f17 := ⟨Tryd.f110.name, by decide, Tryd.func110.trans (congrArg some (by kernel_rfl))⟩
  f18 := ⟨Tryd.f111.name, by decide, Tryd.func111.trans (congrArg some (by kernel_rfl))⟩
  f19 := Tryd.func112.trans (congrArg some (by kernel_rfl))
  f20 := Tryd.func113.trans (congrArg some (by kernel_rfl))
  f30 := ⟨Tryd.f114.name, by decide, Tryd.func114.trans (congrArg some (by kernel_rfl))⟩
  f31 := Tryd.func115.trans (congrArg some (by kernel_rfl))
  f32 := Tryd.func116.trans (congrArg some (by kernel_rfl))
  f33 := ⟨Tryd.f117.name, by decide, Tryd.func117.trans (congrArg some (by kernel_rfl))⟩
  f34 := ⟨Tryd.f118.name, by decide, Tryd.func118.trans (congrArg some (by kernel_rfl))⟩
  f35 := ⟨Tryd.f119.name, by decide, Tryd.func119.trans (congrArg some (by kernel_rfl))⟩
  f40 := ⟨Tryd.f120.name, by decide, Tryd.func120.trans (congrArg some (by kernel_rfl))⟩
  t0 := Tryd.underlying0
  a0 := Tryd.isAgg0
  z0 := Tryd.sizeOf0
  v0 := Tryd.zeroValue0
  t3 := Tryd.underlying3
  a3 := Tryd.isAgg3
  z3 := Tryd.sizeOf3
  v3 := Tryd.zeroValue3
  t4 := Tryd.underlying4
  a4 := Tryd.isAgg4
  z4 := Tryd.sizeOf4
  v4 := Tryd.zeroValue4
  t5 := Tryd.underlying5
  a5 := Tryd.isAgg5
  z5 := Tryd.sizeOf5
  v5 := Tryd.zeroValue5
  t9 := Tryd.underlying9
  a9 := Tryd.isAgg9
  z9 := Tryd.sizeOf9
  v9 := Tryd.zeroValue9
  t22 := Tryd.underlying22
  a22 := Tryd.isAgg22
  z22 := Tryd.sizeOf22
  v22 := Tryd.zeroValue22
  t23 := Tryd.underlying22
  a23 := Tryd.isAgg22
  z23 := Tryd.sizeOf22
  v23 := Tryd.zeroValue22
  t25 := Tryd.underlying3
  a25 := Tryd.isAgg3
  z25 := Tryd.sizeOf3
  v25 := Tryd.zeroValue3
  t32 := Tryd.underlying56
  a32 := Tryd.isAgg56
  z32 := Tryd.sizeOf56
  v32 := Tryd.zeroValue56
  t35 := Tryd.underlying163
  a35 := Tryd.isAgg163
  z35 := Tryd.sizeOf163
  v35 := Tryd.zeroValue163
  t36 := Tryd.underlying164
  a36 := Tryd.isAgg164
  z36 := Tryd.sizeOf164
  v36 := Tryd.zeroValue164
  t41 := Tryd.underlying168
  a41 := Tryd.isAgg168
  z41 := Tryd.sizeOf168
  v41 := Tryd.zeroValue168
  t44 := Tryd.underlying171
  a44 := Tryd.isAgg171
  z44 := Tryd.sizeOf171
  v44 := Tryd.zeroValue171
  t46 := Tryd.underlying43
  a46 := Tryd.isAgg43
  z46 := Tryd.sizeOf43
  v46 := Tryd.zeroValue43
  t53 := Tryd.underlying172
  a53 := Tryd.isAgg172
  z53 := Tryd.sizeOf172
  v53 := Tryd.zeroValue172
  t57 := Tryd.underlying175
  a57 := Tryd.isAgg175
  z57 := Tryd.sizeOf175
  v57 := Tryd.zeroValue175
  t63 := Tryd.underlying177
  a63 := Tryd.isAgg177
  z63 := Tryd.sizeOf177
  v63 := Tryd.zeroValue177
  t64 := Tryd.underlying178
  a64 := Tryd.isAgg178
  z64 := Tryd.sizeOf178
  v64 := Tryd.zeroValue178 }
end Go.Proofs
