/- strings.Trim's contract laid at this translation (printed by wip/gen_lay.py). No conditions. -/
import Derived.Test.YtdkoomcgnaokgaaDoorWd
import Derived.Shelf.Strings.SlTrimAscii
namespace Go.Proofs
open Go.Shelf

def Tryd.l160_ren : Ren :=
  {
  f := fun
    | 160 => 60
    | 232 => 83
    | 231 => 82
    | 227 => 84
    | 234 => 86
    | 233 => 85
    | 236 => 88
    | 235 => 87
    | 228 => 93
    | 271 => 96
    | 151 => 95
    | 197 => 94
    | 120 => 99
    | 152 => 98
    | 260 => 97
    | 137 => 100
    | 119 => 101
    | 224 => 102
    | 225 => 103
    | 217 => 104
    | 266 => 105
    | n => n,
  t := fun
    | 9 => 9
    | 4 => 4
    | 3 => 3
    | 5 => 5
    | 117 => 109
    | 116 => 108
    | 0 => 0
    | 124 => 112
    | 21 => 21
    | 105 => 114
    | 46 => 119
    | 119 => 118
    | 139 => 122
    | 138 => 121
    | n => n,
  g := fun
    | 3 => 0
    | 4 => 1
    | n => n }
theorem Tryd.l160 : Lays.n160 Tryd.prog Tryd.l160_ren :=
  { mixed := by kernel_rfl, f119 := Eq.trans Tryd.func101 (congrArg some (by kernel_rfl)),
    f120 := Eq.trans Tryd.func99 (congrArg some (by kernel_rfl)),
    f137 := Eq.trans Tryd.func100 (congrArg some (by kernel_rfl)),
    f151 := Eq.trans Tryd.func95 (congrArg some (by kernel_rfl)),
    f152 := Eq.trans Tryd.func98 (congrArg some (by kernel_rfl)),
    f160 := Eq.trans Tryd.func60 (congrArg some (by kernel_rfl)),
    f197 := Eq.trans Tryd.func94 (congrArg some (by kernel_rfl)),
    f217 := Eq.trans Tryd.func104 (congrArg some (by kernel_rfl)),
    f224 := Eq.trans Tryd.func102 (congrArg some (by kernel_rfl)),
    f225 := Eq.trans Tryd.func103 (congrArg some (by kernel_rfl)),
    f227 := Eq.trans Tryd.func84 (congrArg some (by kernel_rfl)),
    f228 := Eq.trans Tryd.func93 (congrArg some (by kernel_rfl)),
    f231 := Eq.trans Tryd.func82 (congrArg some (by kernel_rfl)),
    f232 := Eq.trans Tryd.func83 (congrArg some (by kernel_rfl)),
    f233 := Eq.trans Tryd.func85 (congrArg some (by kernel_rfl)),
    f234 := Eq.trans Tryd.func86 (congrArg some (by kernel_rfl)),
    f235 := Eq.trans Tryd.func87 (congrArg some (by kernel_rfl)),
    f236 := Eq.trans Tryd.func88 (congrArg some (by kernel_rfl)),
    f260 := Eq.trans Tryd.func97 (congrArg some (by kernel_rfl)),
    f266 := Eq.trans Tryd.func105 (congrArg some (by kernel_rfl)),
    f271 := Eq.trans Tryd.func96 (congrArg some (by kernel_rfl)), t0 := Tryd.underlying0,
    a0 := Tryd.isAgg0, z0 := Tryd.sizeOf0, v0 := Tryd.zeroValue0, t3 := Tryd.underlying3, a3 := Tryd.isAgg3,
    z3 := Tryd.sizeOf3, v3 := Tryd.zeroValue3, t4 := Tryd.underlying4, a4 := Tryd.isAgg4, z4 := Tryd.sizeOf4,
    v4 := Tryd.zeroValue4, t5 := Tryd.underlying5, a5 := Tryd.isAgg5, z5 := Tryd.sizeOf5, v5 := Tryd.zeroValue5,
    t9 := Tryd.underlying9, a9 := Tryd.isAgg9, z9 := Tryd.sizeOf9, v9 := Tryd.zeroValue9, t21 := Tryd.underlying21,
    a21 := Tryd.isAgg21, z21 := Tryd.sizeOf21, v21 := Tryd.zeroValue21, t46 := Tryd.underlying119, a46 := Tryd.isAgg119,
    z46 := Tryd.sizeOf119, v46 := Tryd.zeroValue119, t105 := Tryd.underlying114, a105 := Tryd.isAgg114,
    z105 := Tryd.sizeOf114, v105 := Tryd.zeroValue114, t116 := Tryd.underlying108, a116 := Tryd.isAgg108,
    z116 := Tryd.sizeOf108, t117 := Tryd.underlying109, a117 := Tryd.isAgg109, z117 := Tryd.sizeOf109,
    v117 := Tryd.zeroValue109, t119 := Tryd.underlying118, a119 := Tryd.isAgg118, z119 := Tryd.sizeOf118,
    t124 := Tryd.underlying112, a124 := Tryd.isAgg112, z124 := Tryd.sizeOf112, v124 := Tryd.zeroValue112,
    t138 := Tryd.underlying121, a138 := Tryd.isAgg121, z138 := Tryd.sizeOf121, v138 := Tryd.zeroValue121,
    t139 := Tryd.underlying122, a139 := Tryd.isAgg122, z139 := Tryd.sizeOf122, v139 := Tryd.zeroValue122,
    g3 := by kernel_rfl, g4 := by kernel_rfl }

end Go.Proofs
