/- Contracts of strconv.Itoa, strings.Join, TrimLeft, Split, Repeat laid at this translation (printed by wip/gen_lay2.py). No conditions. -/
import Derived.Test.YtmgofdgbenfjmaaDoorWd
import Derived.Shelf.Strconv.Itoa3
import Derived.Shelf.Strings.OnBuilder
import Derived.Shelf.Strings.Split
import Derived.Shelf.Strings.Repeat
import Derived.Shelf.Strings.Trim
import Derived.KernelRfl
namespace Go.Proofs
open Go.Shelf

def Tryd.l171_ren : Ren :=
  {
    f := fun
      | 171 => 63
      | 243 => 95
      | 246 => 121
      | 283 => 150
      | 284 => 151
      | 285 => 152
      | 286 => 153
      | 129 => 149
      | 317 => 168
      | 318 => 169
      | 319 => 170
      | 320 => 171
      | 337 => 180
      | 338 => 181
      | n => n,
    t := fun
      | 3 => 3
      | 9 => 9
      | 2 => 2
      | 4 => 4
      | 171 => 195
      | 0 => 0
      | 53 => 182
      | 37 => 101
      | 5 => 5
      | 173 => 197
      | 212 => 214
      | 51 => 179
      | 20 => 20
      | 213 => 215
      | 46 => 161
      | 232 => 225
      | 233 => 226
      | n => n,
    g := fun
      | 17 => 0
      | 18 => 4
      | 19 => 5
      | n => n }
theorem Tryd.l171 : LaysM.n171 Tryd.prog Tryd.l171_ren :=
  { mixed := by kernel_rfl, f129 := Eq.trans Tryd.func149 (congrArg some (by kernel_rfl)),
    f171 := Eq.trans Tryd.func63 (congrArg some (by kernel_rfl)), f243 := Eq.trans Tryd.func95 (congrArg some (by kernel_rfl)),
    f246 := Eq.trans Tryd.func121 (congrArg some (by kernel_rfl)), f283 := Eq.trans Tryd.func150 (congrArg some (by kernel_rfl)),
    f284 := Eq.trans Tryd.func151 (congrArg some (by kernel_rfl)), f285 := Eq.trans Tryd.func152 (congrArg some (by kernel_rfl)),
    f286 := Eq.trans Tryd.func153 (congrArg some (by kernel_rfl)), f317 := Eq.trans Tryd.func168 (congrArg some (by kernel_rfl)),
    f318 := Eq.trans Tryd.func169 (congrArg some (by kernel_rfl)), f319 := Eq.trans Tryd.func170 (congrArg some (by kernel_rfl)),
    f320 := Eq.trans Tryd.func171 (congrArg some (by kernel_rfl)), f337 := Eq.trans Tryd.func180 (congrArg some (by kernel_rfl)),
    f338 := Eq.trans Tryd.func181 (congrArg some (by kernel_rfl)), t0 := Tryd.underlying0, a0 := Tryd.isAgg0, z0 := Tryd.sizeOf0,
    v0 := Tryd.zeroValue0, t2 := Tryd.underlying2, a2 := Tryd.isAgg2, z2 := Tryd.sizeOf2, v2 := Tryd.zeroValue2, t3 := Tryd.underlying3,
    a3 := Tryd.isAgg3, z3 := Tryd.sizeOf3, v3 := Tryd.zeroValue3, t4 := Tryd.underlying4, a4 := Tryd.isAgg4, z4 := Tryd.sizeOf4, v4 := Tryd.zeroValue4,
    t5 := Tryd.underlying5, a5 := Tryd.isAgg5, z5 := Tryd.sizeOf5, v5 := Tryd.zeroValue5, t9 := Tryd.underlying9, a9 := Tryd.isAgg9,
    z9 := Tryd.sizeOf9, v9 := Tryd.zeroValue9, t20 := Tryd.underlying20, a20 := Tryd.isAgg20, z20 := Tryd.sizeOf20, v20 := Tryd.zeroValue20,
    t37 := Tryd.underlying101, a37 := Tryd.isAgg101, z37 := Tryd.sizeOf101, v37 := Tryd.zeroValue101, t46 := Tryd.underlying161, a46 := Tryd.isAgg161,
    z46 := Tryd.sizeOf161, v46 := Tryd.zeroValue161, t51 := Tryd.underlying179, a51 := Tryd.isAgg179, z51 := Tryd.sizeOf179, v51 := Tryd.zeroValue179,
    t53 := Tryd.underlying182, a53 := Tryd.isAgg182, z53 := Tryd.sizeOf182, v53 := Tryd.zeroValue182, t171 := Tryd.underlying195,
    a171 := Tryd.isAgg195, z171 := Tryd.sizeOf195, v171 := Tryd.zeroValue195, t173 := Tryd.underlying197, a173 := Tryd.isAgg197,
    z173 := Tryd.sizeOf197, v173 := Tryd.zeroValue197, t212 := Tryd.underlying214, a212 := Tryd.isAgg214, z212 := Tryd.sizeOf214,
    v212 := Tryd.zeroValue214, t213 := Tryd.underlying215, a213 := Tryd.isAgg215, z213 := Tryd.sizeOf215, t232 := Tryd.underlying225,
    a232 := Tryd.isAgg225, z232 := Tryd.sizeOf225, v232 := Tryd.zeroValue225, t233 := Tryd.underlying226, a233 := Tryd.isAgg226,
    z233 := Tryd.sizeOf226, v233 := Tryd.zeroValue226, g17 := by kernel_rfl, g18 := by kernel_rfl, g19 := by kernel_rfl, i0 := by kernel_rfl,
    i2 := by kernel_rfl, i3 := by kernel_rfl, i4 := by kernel_rfl, i5 := by kernel_rfl, i9 := by kernel_rfl, i20 := by kernel_rfl,
    i37 := by kernel_rfl, i46 := by kernel_rfl, i51 := by kernel_rfl, i53 := by kernel_rfl, i171 := by kernel_rfl, i173 := by kernel_rfl,
    i212 := by kernel_rfl, i232 := by kernel_rfl, i233 := by kernel_rfl, m17 := by kernel_rfl, m18 := by kernel_rfl, m19 := by kernel_rfl }

def Tryd.l156_ren : Ren :=
  {
    f := fun
      | 156 => 64
      | 165 => 96
      | 166 => 97
      | 169 => 98
      | 240 => 122
      | 241 => 123
      | 276 => 154
      | 277 => 155
      | n => n,
    t := fun
      | 31 => 22
      | 9 => 9
      | 3 => 3
      | 4 => 4
      | 0 => 0
      | 20 => 20
      | 72 => 135
      | 76 => 139
      | 70 => 133
      | 37 => 101
      | 75 => 138
      | 127 => 169
      | 164 => 199
      | 5 => 5
      | 80 => 141
      | n => n,
    g := fun x =>
      have n := x;
      n }
theorem Tryd.l156 : Lays.n156 Tryd.prog Tryd.l156_ren :=
  { mixed := by kernel_rfl, f156 := Eq.trans Tryd.func64 (congrArg some (by kernel_rfl)), f165 := Eq.trans Tryd.func96 (congrArg some (by kernel_rfl)),
    f166 := Eq.trans Tryd.func97 (congrArg some (by kernel_rfl)), f169 := Eq.trans Tryd.func98 (congrArg some (by kernel_rfl)),
    f240 := Eq.trans Tryd.func122 (congrArg some (by kernel_rfl)), f241 := Eq.trans Tryd.func123 (congrArg some (by kernel_rfl)),
    f276 := Eq.trans Tryd.func154 (congrArg some (by kernel_rfl)), f277 := Eq.trans Tryd.func155 (congrArg some (by kernel_rfl)),
    t0 := Tryd.underlying0, a0 := Tryd.isAgg0, z0 := Tryd.sizeOf0, v0 := Tryd.zeroValue0, t3 := Tryd.underlying3, a3 := Tryd.isAgg3,
    z3 := Tryd.sizeOf3, v3 := Tryd.zeroValue3, t4 := Tryd.underlying4, a4 := Tryd.isAgg4, z4 := Tryd.sizeOf4, v4 := Tryd.zeroValue4,
    t9 := Tryd.underlying9, a9 := Tryd.isAgg9, z9 := Tryd.sizeOf9, v9 := Tryd.zeroValue9, t20 := Tryd.underlying20, a20 := Tryd.isAgg20,
    z20 := Tryd.sizeOf20, v20 := Tryd.zeroValue20, t31 := Tryd.underlying22, a31 := Tryd.isAgg22, z31 := Tryd.sizeOf22, v31 := Tryd.zeroValue22,
    t37 := Tryd.underlying101, a37 := Tryd.isAgg101, z37 := Tryd.sizeOf101, v37 := Tryd.zeroValue101, t70 := Tryd.underlying133, a70 := Tryd.isAgg133,
    z70 := Tryd.sizeOf133, v70 := Tryd.zeroValue133, t72 := Tryd.underlying135, a72 := Tryd.isAgg135, z72 := Tryd.sizeOf135, v72 := Tryd.zeroValue135,
    t75 := Tryd.underlying138, a75 := Tryd.isAgg138, z75 := Tryd.sizeOf138, v75 := Tryd.zeroValue138, t76 := Tryd.underlying139, a76 := Tryd.isAgg139,
    z76 := Tryd.sizeOf139, v76 := Tryd.zeroValue139, t127 := Tryd.underlying169, a127 := Tryd.isAgg169, z127 := Tryd.sizeOf169,
    v127 := Tryd.zeroValue169, t164 := Tryd.underlying199, a164 := Tryd.isAgg199, z164 := Tryd.sizeOf199, v164 := Tryd.zeroValue199 }

def Tryd.l161_ren : Ren :=
  {
    f := fun
      | 161 => 65
      | 231 => 99
      | 227 => 100
      | 233 => 101
      | 235 => 102
      | 228 => 124
      | 197 => 125
      | 151 => 126
      | 260 => 156
      | 152 => 157
      | 137 => 172
      | 119 => 173
      | 224 => 174
      | 225 => 175
      | 217 => 176
      | 266 => 182
      | n => n,
    t := fun
      | 9 => 9
      | 4 => 4
      | 3 => 3
      | 5 => 5
      | 117 => 145
      | 116 => 144
      | 0 => 0
      | 124 => 148
      | 105 => 171
      | 21 => 21
      | 119 => 216
      | 46 => 161
      | 139 => 219
      | 138 => 218
      | n => n,
    g := fun
      | 3 => 2
      | 4 => 3
      | n => n }
theorem Tryd.l161 : Lays.n161 Tryd.prog Tryd.l161_ren :=
  { mixed := by kernel_rfl, f119 := Eq.trans Tryd.func173 (congrArg some (by kernel_rfl)),
    f137 := Eq.trans Tryd.func172 (congrArg some (by kernel_rfl)), f151 := Eq.trans Tryd.func126 (congrArg some (by kernel_rfl)),
    f152 := Eq.trans Tryd.func157 (congrArg some (by kernel_rfl)), f161 := Eq.trans Tryd.func65 (congrArg some (by kernel_rfl)),
    f197 := Eq.trans Tryd.func125 (congrArg some (by kernel_rfl)), f217 := Eq.trans Tryd.func176 (congrArg some (by kernel_rfl)),
    f224 := Eq.trans Tryd.func174 (congrArg some (by kernel_rfl)), f225 := Eq.trans Tryd.func175 (congrArg some (by kernel_rfl)),
    f227 := Eq.trans Tryd.func100 (congrArg some (by kernel_rfl)), f228 := Eq.trans Tryd.func124 (congrArg some (by kernel_rfl)),
    f231 := Eq.trans Tryd.func99 (congrArg some (by kernel_rfl)), f233 := Eq.trans Tryd.func101 (congrArg some (by kernel_rfl)),
    f235 := Eq.trans Tryd.func102 (congrArg some (by kernel_rfl)), f260 := Eq.trans Tryd.func156 (congrArg some (by kernel_rfl)),
    f266 := Eq.trans Tryd.func182 (congrArg some (by kernel_rfl)), t0 := Tryd.underlying0, a0 := Tryd.isAgg0, z0 := Tryd.sizeOf0,
    v0 := Tryd.zeroValue0, t3 := Tryd.underlying3, a3 := Tryd.isAgg3, z3 := Tryd.sizeOf3, v3 := Tryd.zeroValue3, t4 := Tryd.underlying4,
    a4 := Tryd.isAgg4, z4 := Tryd.sizeOf4, v4 := Tryd.zeroValue4, t5 := Tryd.underlying5, a5 := Tryd.isAgg5, z5 := Tryd.sizeOf5, v5 := Tryd.zeroValue5,
    t9 := Tryd.underlying9, a9 := Tryd.isAgg9, z9 := Tryd.sizeOf9, v9 := Tryd.zeroValue9, t21 := Tryd.underlying21, a21 := Tryd.isAgg21,
    z21 := Tryd.sizeOf21, v21 := Tryd.zeroValue21, t46 := Tryd.underlying161, a46 := Tryd.isAgg161, z46 := Tryd.sizeOf161, v46 := Tryd.zeroValue161,
    t105 := Tryd.underlying171, a105 := Tryd.isAgg171, z105 := Tryd.sizeOf171, v105 := Tryd.zeroValue171, t116 := Tryd.underlying144,
    a116 := Tryd.isAgg144, z116 := Tryd.sizeOf144, t117 := Tryd.underlying145, a117 := Tryd.isAgg145, z117 := Tryd.sizeOf145,
    v117 := Tryd.zeroValue145, t119 := Tryd.underlying216, a119 := Tryd.isAgg216, z119 := Tryd.sizeOf216, t124 := Tryd.underlying148,
    a124 := Tryd.isAgg148, z124 := Tryd.sizeOf148, v124 := Tryd.zeroValue148, t138 := Tryd.underlying218, a138 := Tryd.isAgg218,
    z138 := Tryd.sizeOf218, v138 := Tryd.zeroValue218, t139 := Tryd.underlying219, a139 := Tryd.isAgg219, z139 := Tryd.sizeOf219,
    v139 := Tryd.zeroValue219, g3 := by kernel_rfl, g4 := by kernel_rfl }

def Tryd.l146_ren : Ren :=
  {
    f := fun
      | 146 => 66
      | 221 => 103
      | 268 => 127
      | 138 => 128
      | 143 => 129
      | 195 => 158
      | 197 => 125
      | 218 => 159
      | 219 => 160
      | 260 => 156
      | 217 => 176
      | 225 => 175
      | 224 => 174
      | 267 => 177
      | 266 => 182
      | 314 => 183
      | n => n,
    t := fun
      | 9 => 9
      | 31 => 22
      | 3 => 3
      | 4 => 4
      | 0 => 0
      | 105 => 171
      | 21 => 21
      | 5 => 5
      | 46 => 161
      | 119 => 216
      | 139 => 219
      | 138 => 218
      | 146 => 180
      | 51 => 179
      | n => n,
    g := fun
      | 1 => 1
      | 3 => 2
      | 4 => 3
      | n => n }
theorem Tryd.l146 : Lays.n146 Tryd.prog Tryd.l146_ren :=
  { mixed := by kernel_rfl, f138 := Eq.trans Tryd.func128 (congrArg some (by kernel_rfl)),
    f143 := Eq.trans Tryd.func129 (congrArg some (by kernel_rfl)), f146 := Eq.trans Tryd.func66 (congrArg some (by kernel_rfl)),
    f195 := Eq.trans Tryd.func158 (congrArg some (by kernel_rfl)), f197 := Eq.trans Tryd.func125 (congrArg some (by kernel_rfl)),
    f217 := Eq.trans Tryd.func176 (congrArg some (by kernel_rfl)), f218 := Eq.trans Tryd.func159 (congrArg some (by kernel_rfl)),
    f219 := Eq.trans Tryd.func160 (congrArg some (by kernel_rfl)), f221 := Eq.trans Tryd.func103 (congrArg some (by kernel_rfl)),
    f224 := Eq.trans Tryd.func174 (congrArg some (by kernel_rfl)), f225 := Eq.trans Tryd.func175 (congrArg some (by kernel_rfl)),
    f260 := Eq.trans Tryd.func156 (congrArg some (by kernel_rfl)), f266 := Eq.trans Tryd.func182 (congrArg some (by kernel_rfl)),
    f267 := Eq.trans Tryd.func177 (congrArg some (by kernel_rfl)), f268 := Eq.trans Tryd.func127 (congrArg some (by kernel_rfl)),
    f314 := Eq.trans Tryd.func183 (congrArg some (by kernel_rfl)), t0 := Tryd.underlying0, a0 := Tryd.isAgg0, z0 := Tryd.sizeOf0,
    v0 := Tryd.zeroValue0, t3 := Tryd.underlying3, a3 := Tryd.isAgg3, z3 := Tryd.sizeOf3, v3 := Tryd.zeroValue3, t4 := Tryd.underlying4,
    a4 := Tryd.isAgg4, z4 := Tryd.sizeOf4, v4 := Tryd.zeroValue4, t5 := Tryd.underlying5, a5 := Tryd.isAgg5, z5 := Tryd.sizeOf5, v5 := Tryd.zeroValue5,
    t9 := Tryd.underlying9, a9 := Tryd.isAgg9, z9 := Tryd.sizeOf9, v9 := Tryd.zeroValue9, t21 := Tryd.underlying21, a21 := Tryd.isAgg21,
    z21 := Tryd.sizeOf21, v21 := Tryd.zeroValue21, t31 := Tryd.underlying22, a31 := Tryd.isAgg22, z31 := Tryd.sizeOf22, v31 := Tryd.zeroValue22,
    t46 := Tryd.underlying161, a46 := Tryd.isAgg161, z46 := Tryd.sizeOf161, v46 := Tryd.zeroValue161, t51 := Tryd.underlying179, a51 := Tryd.isAgg179,
    z51 := Tryd.sizeOf179, v51 := Tryd.zeroValue179, t105 := Tryd.underlying171, a105 := Tryd.isAgg171, z105 := Tryd.sizeOf171,
    v105 := Tryd.zeroValue171, t119 := Tryd.underlying216, a119 := Tryd.isAgg216, z119 := Tryd.sizeOf216, t138 := Tryd.underlying218,
    a138 := Tryd.isAgg218, z138 := Tryd.sizeOf218, v138 := Tryd.zeroValue218, t139 := Tryd.underlying219, a139 := Tryd.isAgg219,
    z139 := Tryd.sizeOf219, v139 := Tryd.zeroValue219, t146 := Tryd.underlying180, a146 := Tryd.isAgg180, z146 := Tryd.sizeOf180,
    v146 := Tryd.zeroValue180, g1 := by kernel_rfl, g3 := by kernel_rfl, g4 := by kernel_rfl }

def Tryd.l105_ren : Ren :=
  {
    f := fun
      | 105 => 76
      | 212 => 113
      | 99 => 114
      | 165 => 96
      | 166 => 97
      | 170 => 115
      | 169 => 98
      | 263 => 136
      | 264 => 137
      | 206 => 138
      | 240 => 122
      | 241 => 123
      | 276 => 154
      | 277 => 155
      | n => n,
    t := fun
      | 9 => 9
      | 3 => 3
      | 4 => 4
      | 20 => 20
      | 0 => 0
      | 46 => 161
      | 109 => 162
      | 5 => 5
      | 72 => 135
      | 76 => 139
      | 51 => 179
      | 146 => 180
      | 53 => 182
      | 148 => 183
      | 70 => 133
      | 37 => 101
      | 75 => 138
      | 127 => 169
      | 164 => 199
      | 80 => 141
      | n => n,
    g := fun x =>
      have n := x;
      n }
theorem Tryd.l105 : Lays.n105 Tryd.prog Tryd.l105_ren :=
  { mixed := by kernel_rfl, f99 := Eq.trans Tryd.func114 (congrArg some (by kernel_rfl)), f105 := Eq.trans Tryd.func76 (congrArg some (by kernel_rfl)),
    f165 := Eq.trans Tryd.func96 (congrArg some (by kernel_rfl)), f166 := Eq.trans Tryd.func97 (congrArg some (by kernel_rfl)),
    f169 := Eq.trans Tryd.func98 (congrArg some (by kernel_rfl)), f170 := Eq.trans Tryd.func115 (congrArg some (by kernel_rfl)),
    f206 := Eq.trans Tryd.func138 (congrArg some (by kernel_rfl)), f212 := Eq.trans Tryd.func113 (congrArg some (by kernel_rfl)),
    f240 := Eq.trans Tryd.func122 (congrArg some (by kernel_rfl)), f241 := Eq.trans Tryd.func123 (congrArg some (by kernel_rfl)),
    f263 := Eq.trans Tryd.func136 (congrArg some (by kernel_rfl)), f264 := Eq.trans Tryd.func137 (congrArg some (by kernel_rfl)),
    f276 := Eq.trans Tryd.func154 (congrArg some (by kernel_rfl)), f277 := Eq.trans Tryd.func155 (congrArg some (by kernel_rfl)),
    t0 := Tryd.underlying0, a0 := Tryd.isAgg0, z0 := Tryd.sizeOf0, v0 := Tryd.zeroValue0, t3 := Tryd.underlying3, a3 := Tryd.isAgg3,
    z3 := Tryd.sizeOf3, v3 := Tryd.zeroValue3, t4 := Tryd.underlying4, a4 := Tryd.isAgg4, z4 := Tryd.sizeOf4, v4 := Tryd.zeroValue4,
    t5 := Tryd.underlying5, a5 := Tryd.isAgg5, z5 := Tryd.sizeOf5, v5 := Tryd.zeroValue5, t9 := Tryd.underlying9, a9 := Tryd.isAgg9,
    z9 := Tryd.sizeOf9, v9 := Tryd.zeroValue9, t20 := Tryd.underlying20, a20 := Tryd.isAgg20, z20 := Tryd.sizeOf20, v20 := Tryd.zeroValue20,
    t37 := Tryd.underlying101, a37 := Tryd.isAgg101, z37 := Tryd.sizeOf101, v37 := Tryd.zeroValue101, t46 := Tryd.underlying161, a46 := Tryd.isAgg161,
    z46 := Tryd.sizeOf161, v46 := Tryd.zeroValue161, t51 := Tryd.underlying179, a51 := Tryd.isAgg179, z51 := Tryd.sizeOf179, v51 := Tryd.zeroValue179,
    t53 := Tryd.underlying182, a53 := Tryd.isAgg182, z53 := Tryd.sizeOf182, v53 := Tryd.zeroValue182, t70 := Tryd.underlying133, a70 := Tryd.isAgg133,
    z70 := Tryd.sizeOf133, v70 := Tryd.zeroValue133, t72 := Tryd.underlying135, a72 := Tryd.isAgg135, z72 := Tryd.sizeOf135, v72 := Tryd.zeroValue135,
    t75 := Tryd.underlying138, a75 := Tryd.isAgg138, z75 := Tryd.sizeOf138, v75 := Tryd.zeroValue138, t76 := Tryd.underlying139, a76 := Tryd.isAgg139,
    z76 := Tryd.sizeOf139, v76 := Tryd.zeroValue139, t109 := Tryd.underlying162, a109 := Tryd.isAgg162, z109 := Tryd.sizeOf162,
    v109 := Tryd.zeroValue162, t127 := Tryd.underlying169, a127 := Tryd.isAgg169, z127 := Tryd.sizeOf169, v127 := Tryd.zeroValue169,
    t146 := Tryd.underlying180, a146 := Tryd.isAgg180, z146 := Tryd.sizeOf180, v146 := Tryd.zeroValue180, t148 := Tryd.underlying183,
    a148 := Tryd.isAgg183, z148 := Tryd.sizeOf183, v148 := Tryd.zeroValue183, t164 := Tryd.underlying199, a164 := Tryd.isAgg199,
    z164 := Tryd.sizeOf199, v164 := Tryd.zeroValue199 }

theorem Tryd.x156 : Builder.Extra Tryd.prog Tryd.l156_ren where
  sizeBuilder := by kernel_rfl
  liesBuilder := by kernel_rfl
  t5 := Tryd.underlying5
  a5 := Tryd.isAgg5
  z5 := Tryd.sizeOf5
  v5 := Tryd.zeroValue5
  infoByte := by kernel_rfl
  cellsByte := by kernel_rfl
  sizeByte := by kernel_rfl
  neB5 := by decide
theorem Tryd.x105 : Builder.Extra Tryd.prog Tryd.l105_ren where
  sizeBuilder := by kernel_rfl
  liesBuilder := by kernel_rfl
  t5 := Tryd.underlying5
  a5 := Tryd.isAgg5
  z5 := Tryd.sizeOf5
  v5 := Tryd.zeroValue5
  infoByte := by kernel_rfl
  cellsByte := by kernel_rfl
  sizeByte := by kernel_rfl
  neB5 := by decide
end Go.Proofs
