/- strings.Trim's contract laid at this translation (printed by wip/gen_lay.py). No conditions. -/
import Derived.Test.YtmgofdgbenfjmaaDoorWd1
import Derived.Shelf.Strings.SlTrimAscii
namespace Go.Proofs
open Go.Shelf

def Tryd.l160_ren : Go.Shelf.Ren :=
  {
    f := fun
      | 160 => 81
      | 232 => 116
      | 231 => 99
      | 227 => 100
      | 234 => 117
      | 233 => 101
      | 236 => 118
      | 235 => 102
      | 228 => 124
      | 271 => 139
      | 151 => 126
      | 197 => 125
      | 120 => 162
      | 152 => 157
      | 260 => 156
      | 137 => 172
      | 119 => 173
      | 224 => 174
      | 225 => 175
      | 217 => 176
      | 266 => 182
      | n => n,
    t := fun
      | 9 => 9
      | 4 => 4
      | 3 => 3
      | 5 => 5
      | 117 => 145
      | 116 => 144
      | 0 => 0
      | 124 => 148
      | 21 => 21
      | 105 => 171
      | 46 => 161
      | 119 => 216
      | 139 => 219
      | 138 => 218
      | n => n,
    g := fun
      | 3 => 2
      | 4 => 3
      | n => n }
theorem Tryd.l160 : Go.Proofs.Lays.n160 Go.Proofs.Tryd.prog Go.Proofs.Tryd.l160_ren :=
  { mixed := by kernel_rfl, f119 := Eq.trans Go.Proofs.Tryd.func173 (congrArg some (by kernel_rfl)),
    f120 := Eq.trans Go.Proofs.Tryd.func162 (congrArg some (by kernel_rfl)), f137 := Eq.trans Go.Proofs.Tryd.func172 (congrArg some (by kernel_rfl)),
    f151 := Eq.trans Go.Proofs.Tryd.func126 (congrArg some (by kernel_rfl)), f152 := Eq.trans Go.Proofs.Tryd.func157 (congrArg some (by kernel_rfl)),
    f160 := Eq.trans Go.Proofs.Tryd.func81 (congrArg some (by kernel_rfl)), f197 := Eq.trans Go.Proofs.Tryd.func125 (congrArg some (by kernel_rfl)),
    f217 := Eq.trans Go.Proofs.Tryd.func176 (congrArg some (by kernel_rfl)), f224 := Eq.trans Go.Proofs.Tryd.func174 (congrArg some (by kernel_rfl)),
    f225 := Eq.trans Go.Proofs.Tryd.func175 (congrArg some (by kernel_rfl)), f227 := Eq.trans Go.Proofs.Tryd.func100 (congrArg some (by kernel_rfl)),
    f228 := Eq.trans Go.Proofs.Tryd.func124 (congrArg some (by kernel_rfl)), f231 := Eq.trans Go.Proofs.Tryd.func99 (congrArg some (by kernel_rfl)),
    f232 := Eq.trans Go.Proofs.Tryd.func116 (congrArg some (by kernel_rfl)), f233 := Eq.trans Go.Proofs.Tryd.func101 (congrArg some (by kernel_rfl)),
    f234 := Eq.trans Go.Proofs.Tryd.func117 (congrArg some (by kernel_rfl)), f235 := Eq.trans Go.Proofs.Tryd.func102 (congrArg some (by kernel_rfl)),
    f236 := Eq.trans Go.Proofs.Tryd.func118 (congrArg some (by kernel_rfl)), f260 := Eq.trans Go.Proofs.Tryd.func156 (congrArg some (by kernel_rfl)),
    f266 := Eq.trans Go.Proofs.Tryd.func182 (congrArg some (by kernel_rfl)), f271 := Eq.trans Go.Proofs.Tryd.func139 (congrArg some (by kernel_rfl)),
    t0 := Go.Proofs.Tryd.underlying0, a0 := Go.Proofs.Tryd.isAgg0, z0 := Go.Proofs.Tryd.sizeOf0, v0 := Go.Proofs.Tryd.zeroValue0,
    t3 := Go.Proofs.Tryd.underlying3, a3 := Go.Proofs.Tryd.isAgg3, z3 := Go.Proofs.Tryd.sizeOf3, v3 := Go.Proofs.Tryd.zeroValue3,
    t4 := Go.Proofs.Tryd.underlying4, a4 := Go.Proofs.Tryd.isAgg4, z4 := Go.Proofs.Tryd.sizeOf4, v4 := Go.Proofs.Tryd.zeroValue4,
    t5 := Go.Proofs.Tryd.underlying5, a5 := Go.Proofs.Tryd.isAgg5, z5 := Go.Proofs.Tryd.sizeOf5, v5 := Go.Proofs.Tryd.zeroValue5,
    t9 := Go.Proofs.Tryd.underlying9, a9 := Go.Proofs.Tryd.isAgg9, z9 := Go.Proofs.Tryd.sizeOf9, v9 := Go.Proofs.Tryd.zeroValue9,
    t21 := Go.Proofs.Tryd.underlying21, a21 := Go.Proofs.Tryd.isAgg21, z21 := Go.Proofs.Tryd.sizeOf21, v21 := Go.Proofs.Tryd.zeroValue21,
    t46 := Go.Proofs.Tryd.underlying161, a46 := Go.Proofs.Tryd.isAgg161, z46 := Go.Proofs.Tryd.sizeOf161, v46 := Go.Proofs.Tryd.zeroValue161,
    t105 := Go.Proofs.Tryd.underlying171, a105 := Go.Proofs.Tryd.isAgg171, z105 := Go.Proofs.Tryd.sizeOf171, v105 := Go.Proofs.Tryd.zeroValue171,
    t116 := Go.Proofs.Tryd.underlying144, a116 := Go.Proofs.Tryd.isAgg144, z116 := Go.Proofs.Tryd.sizeOf144, t117 := Go.Proofs.Tryd.underlying145,
    a117 := Go.Proofs.Tryd.isAgg145, z117 := Go.Proofs.Tryd.sizeOf145, v117 := Go.Proofs.Tryd.zeroValue145, t119 := Go.Proofs.Tryd.underlying216,
    a119 := Go.Proofs.Tryd.isAgg216, z119 := Go.Proofs.Tryd.sizeOf216, t124 := Go.Proofs.Tryd.underlying148, a124 := Go.Proofs.Tryd.isAgg148,
    z124 := Go.Proofs.Tryd.sizeOf148, v124 := Go.Proofs.Tryd.zeroValue148, t138 := Go.Proofs.Tryd.underlying218, a138 := Go.Proofs.Tryd.isAgg218,
    z138 := Go.Proofs.Tryd.sizeOf218, v138 := Go.Proofs.Tryd.zeroValue218, t139 := Go.Proofs.Tryd.underlying219, a139 := Go.Proofs.Tryd.isAgg219,
    z139 := Go.Proofs.Tryd.sizeOf219, v139 := Go.Proofs.Tryd.zeroValue219, g3 := by kernel_rfl, g4 := by kernel_rfl }
end Go.Proofs
