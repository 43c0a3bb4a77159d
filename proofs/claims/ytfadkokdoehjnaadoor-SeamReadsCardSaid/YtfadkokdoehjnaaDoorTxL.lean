/- Contracts of strconv.Itoa, Atoi, strings.Join, Split, CutSuffix, Index, IndexByte laid at this translation (printed by wip/gen_lay2.py). No conditions. -/
import Derived.Test.YtfadkokdoehjnaaDoorWd
import Derived.Shelf.Strconv.Itoa3
import Derived.Shelf.Strconv.Atoi
import Derived.Shelf.Strconv.AtoiErr
import Derived.Shelf.Strings.OnBuilder
import Derived.Shelf.Strings.Split
import Derived.Shelf.Strings.Search3
import Derived.Shelf.Small.Wraps
import Derived.Shelf.Small.Strs
import Derived.KernelRfl
namespace Go.Proofs
open Go.Shelf

def Tryd.l171_ren : Ren :=
  {
    f := fun
      | 171 => 15
      | 243 => 26
      | 246 => 39
      | 283 => 62
      | 284 => 63
      | 285 => 64
      | 286 => 65
      | 129 => 76
      | 317 => 75
      | 318 => 77
      | 319 => 78
      | 320 => 79
      | 337 => 82
      | 338 => 83
      | n => n,
    t := fun
      | 3 => 3
      | 9 => 9
      | 2 => 2
      | 4 => 4
      | 171 => 109
      | 0 => 0
      | 53 => 110
      | 37 => 70
      | 5 => 5
      | 173 => 113
      | 212 => 129
      | 51 => 118
      | 20 => 20
      | 213 => 130
      | 46 => 87
      | 232 => 142
      | 233 => 143
      | n => n,
    g := fun
      | 17 => 3
      | 18 => 6
      | 19 => 7
      | n => n }
theorem Tryd.l171 : LaysM.n171 Tryd.prog Tryd.l171_ren :=
  { mixed := by kernel_rfl, f129 := Eq.trans Tryd.func76 (congrArg some (by kernel_rfl)), f171 := Eq.trans Tryd.func15 (congrArg some (by kernel_rfl)),
    f243 := Eq.trans Tryd.func26 (congrArg some (by kernel_rfl)), f246 := Eq.trans Tryd.func39 (congrArg some (by kernel_rfl)),
    f283 := Eq.trans Tryd.func62 (congrArg some (by kernel_rfl)), f284 := Eq.trans Tryd.func63 (congrArg some (by kernel_rfl)),
    f285 := Eq.trans Tryd.func64 (congrArg some (by kernel_rfl)), f286 := Eq.trans Tryd.func65 (congrArg some (by kernel_rfl)),
    f317 := Eq.trans Tryd.func75 (congrArg some (by kernel_rfl)), f318 := Eq.trans Tryd.func77 (congrArg some (by kernel_rfl)),
    f319 := Eq.trans Tryd.func78 (congrArg some (by kernel_rfl)), f320 := Eq.trans Tryd.func79 (congrArg some (by kernel_rfl)),
    f337 := Eq.trans Tryd.func82 (congrArg some (by kernel_rfl)), f338 := Eq.trans Tryd.func83 (congrArg some (by kernel_rfl)), t0 := Tryd.underlying0,
    a0 := Tryd.isAgg0, z0 := Tryd.sizeOf0, v0 := Tryd.zeroValue0, t2 := Tryd.underlying2, a2 := Tryd.isAgg2, z2 := Tryd.sizeOf2, v2 := Tryd.zeroValue2,
    t3 := Tryd.underlying3, a3 := Tryd.isAgg3, z3 := Tryd.sizeOf3, v3 := Tryd.zeroValue3, t4 := Tryd.underlying4, a4 := Tryd.isAgg4,
    z4 := Tryd.sizeOf4, v4 := Tryd.zeroValue4, t5 := Tryd.underlying5, a5 := Tryd.isAgg5, z5 := Tryd.sizeOf5, v5 := Tryd.zeroValue5,
    t9 := Tryd.underlying9, a9 := Tryd.isAgg9, z9 := Tryd.sizeOf9, v9 := Tryd.zeroValue9, t20 := Tryd.underlying20, a20 := Tryd.isAgg20,
    z20 := Tryd.sizeOf20, v20 := Tryd.zeroValue20, t37 := Tryd.underlying70, a37 := Tryd.isAgg70, z37 := Tryd.sizeOf70, v37 := Tryd.zeroValue70,
    t46 := Tryd.underlying87, a46 := Tryd.isAgg87, z46 := Tryd.sizeOf87, v46 := Tryd.zeroValue87, t51 := Tryd.underlying118, a51 := Tryd.isAgg118,
    z51 := Tryd.sizeOf118, v51 := Tryd.zeroValue118, t53 := Tryd.underlying110, a53 := Tryd.isAgg110, z53 := Tryd.sizeOf110, v53 := Tryd.zeroValue110,
    t171 := Tryd.underlying109, a171 := Tryd.isAgg109, z171 := Tryd.sizeOf109, v171 := Tryd.zeroValue109, t173 := Tryd.underlying113,
    a173 := Tryd.isAgg113, z173 := Tryd.sizeOf113, v173 := Tryd.zeroValue113, t212 := Tryd.underlying129, a212 := Tryd.isAgg129,
    z212 := Tryd.sizeOf129, v212 := Tryd.zeroValue129, t213 := Tryd.underlying130, a213 := Tryd.isAgg130, z213 := Tryd.sizeOf130,
    t232 := Tryd.underlying142, a232 := Tryd.isAgg142, z232 := Tryd.sizeOf142, v232 := Tryd.zeroValue142, t233 := Tryd.underlying143,
    a233 := Tryd.isAgg143, z233 := Tryd.sizeOf143, v233 := Tryd.zeroValue143, g17 := by kernel_rfl, g18 := by kernel_rfl, g19 := by kernel_rfl,
    i0 := by kernel_rfl, i2 := by kernel_rfl, i3 := by kernel_rfl, i4 := by kernel_rfl, i5 := by kernel_rfl, i9 := by kernel_rfl, i20 := by kernel_rfl,
    i37 := by kernel_rfl, i46 := by kernel_rfl, i51 := by kernel_rfl, i53 := by kernel_rfl, i171 := by kernel_rfl, i173 := by kernel_rfl,
    i212 := by kernel_rfl, i232 := by kernel_rfl, i233 := by kernel_rfl, m17 := by kernel_rfl, m18 := by kernel_rfl, m19 := by kernel_rfl }

def Tryd.l156_ren : Ren :=
  {
    f := fun
      | 156 => 16
      | 165 => 27
      | 166 => 28
      | 169 => 29
      | 240 => 40
      | 241 => 41
      | 276 => 66
      | 277 => 67
      | n => n,
    t := fun
      | 31 => 48
      | 9 => 9
      | 3 => 3
      | 4 => 4
      | 0 => 0
      | 20 => 20
      | 72 => 72
      | 76 => 60
      | 70 => 69
      | 37 => 70
      | 75 => 59
      | 127 => 82
      | 164 => 115
      | 5 => 5
      | 80 => 74
      | n => n,
    g := fun x =>
      have n := x;
      n }
theorem Tryd.l156 : Lays.n156 Tryd.prog Tryd.l156_ren :=
  { mixed := by kernel_rfl, f156 := Eq.trans Tryd.func16 (congrArg some (by kernel_rfl)), f165 := Eq.trans Tryd.func27 (congrArg some (by kernel_rfl)),
    f166 := Eq.trans Tryd.func28 (congrArg some (by kernel_rfl)), f169 := Eq.trans Tryd.func29 (congrArg some (by kernel_rfl)),
    f240 := Eq.trans Tryd.func40 (congrArg some (by kernel_rfl)), f241 := Eq.trans Tryd.func41 (congrArg some (by kernel_rfl)),
    f276 := Eq.trans Tryd.func66 (congrArg some (by kernel_rfl)), f277 := Eq.trans Tryd.func67 (congrArg some (by kernel_rfl)), t0 := Tryd.underlying0,
    a0 := Tryd.isAgg0, z0 := Tryd.sizeOf0, v0 := Tryd.zeroValue0, t3 := Tryd.underlying3, a3 := Tryd.isAgg3, z3 := Tryd.sizeOf3, v3 := Tryd.zeroValue3,
    t4 := Tryd.underlying4, a4 := Tryd.isAgg4, z4 := Tryd.sizeOf4, v4 := Tryd.zeroValue4, t9 := Tryd.underlying9, a9 := Tryd.isAgg9,
    z9 := Tryd.sizeOf9, v9 := Tryd.zeroValue9, t20 := Tryd.underlying20, a20 := Tryd.isAgg20, z20 := Tryd.sizeOf20, v20 := Tryd.zeroValue20,
    t31 := Tryd.underlying48, a31 := Tryd.isAgg48, z31 := Tryd.sizeOf48, v31 := Tryd.zeroValue48, t37 := Tryd.underlying70, a37 := Tryd.isAgg70,
    z37 := Tryd.sizeOf70, v37 := Tryd.zeroValue70, t70 := Tryd.underlying69, a70 := Tryd.isAgg69, z70 := Tryd.sizeOf69, v70 := Tryd.zeroValue69,
    t72 := Tryd.underlying72, a72 := Tryd.isAgg72, z72 := Tryd.sizeOf72, v72 := Tryd.zeroValue72, t75 := Tryd.underlying59, a75 := Tryd.isAgg59,
    z75 := Tryd.sizeOf59, v75 := Tryd.zeroValue59, t76 := Tryd.underlying60, a76 := Tryd.isAgg60, z76 := Tryd.sizeOf60, v76 := Tryd.zeroValue60,
    t127 := Tryd.underlying82, a127 := Tryd.isAgg82, z127 := Tryd.sizeOf82, v127 := Tryd.zeroValue82, t164 := Tryd.underlying115,
    a164 := Tryd.isAgg115, z164 := Tryd.sizeOf115, v164 := Tryd.zeroValue115 }

def Tryd.l146_ren : Ren :=
  {
    f := fun
      | 146 => 22
      | 221 => 35
      | 268 => 53
      | 138 => 54
      | 143 => 20
      | 195 => 73
      | 197 => 43
      | 218 => 74
      | 219 => 32
      | 260 => 68
      | 217 => 36
      | 225 => 45
      | 224 => 46
      | 267 => 47
      | 266 => 55
      | 314 => 69
      | n => n,
    t := fun
      | 9 => 9
      | 31 => 48
      | 3 => 3
      | 4 => 4
      | 0 => 0
      | 105 => 83
      | 21 => 21
      | 5 => 5
      | 46 => 87
      | 119 => 133
      | 139 => 136
      | 138 => 135
      | 146 => 119
      | 51 => 118
      | n => n,
    g := fun
      | 1 => 0
      | 3 => 4
      | 4 => 5
      | n => n }
theorem Tryd.l146 : Lays.n146 Tryd.prog Tryd.l146_ren :=
  { mixed := by kernel_rfl, f138 := Eq.trans Tryd.func54 (congrArg some (by kernel_rfl)), f143 := Eq.trans Tryd.func20 (congrArg some (by kernel_rfl)),
    f146 := Eq.trans Tryd.func22 (congrArg some (by kernel_rfl)), f195 := Eq.trans Tryd.func73 (congrArg some (by kernel_rfl)),
    f197 := Eq.trans Tryd.func43 (congrArg some (by kernel_rfl)), f217 := Eq.trans Tryd.func36 (congrArg some (by kernel_rfl)),
    f218 := Eq.trans Tryd.func74 (congrArg some (by kernel_rfl)), f219 := Eq.trans Tryd.func32 (congrArg some (by kernel_rfl)),
    f221 := Eq.trans Tryd.func35 (congrArg some (by kernel_rfl)), f224 := Eq.trans Tryd.func46 (congrArg some (by kernel_rfl)),
    f225 := Eq.trans Tryd.func45 (congrArg some (by kernel_rfl)), f260 := Eq.trans Tryd.func68 (congrArg some (by kernel_rfl)),
    f266 := Eq.trans Tryd.func55 (congrArg some (by kernel_rfl)), f267 := Eq.trans Tryd.func47 (congrArg some (by kernel_rfl)),
    f268 := Eq.trans Tryd.func53 (congrArg some (by kernel_rfl)), f314 := Eq.trans Tryd.func69 (congrArg some (by kernel_rfl)), t0 := Tryd.underlying0,
    a0 := Tryd.isAgg0, z0 := Tryd.sizeOf0, v0 := Tryd.zeroValue0, t3 := Tryd.underlying3, a3 := Tryd.isAgg3, z3 := Tryd.sizeOf3, v3 := Tryd.zeroValue3,
    t4 := Tryd.underlying4, a4 := Tryd.isAgg4, z4 := Tryd.sizeOf4, v4 := Tryd.zeroValue4, t5 := Tryd.underlying5, a5 := Tryd.isAgg5,
    z5 := Tryd.sizeOf5, v5 := Tryd.zeroValue5, t9 := Tryd.underlying9, a9 := Tryd.isAgg9, z9 := Tryd.sizeOf9, v9 := Tryd.zeroValue9,
    t21 := Tryd.underlying21, a21 := Tryd.isAgg21, z21 := Tryd.sizeOf21, v21 := Tryd.zeroValue21, t31 := Tryd.underlying48, a31 := Tryd.isAgg48,
    z31 := Tryd.sizeOf48, v31 := Tryd.zeroValue48, t46 := Tryd.underlying87, a46 := Tryd.isAgg87, z46 := Tryd.sizeOf87, v46 := Tryd.zeroValue87,
    t51 := Tryd.underlying118, a51 := Tryd.isAgg118, z51 := Tryd.sizeOf118, v51 := Tryd.zeroValue118, t105 := Tryd.underlying83, a105 := Tryd.isAgg83,
    z105 := Tryd.sizeOf83, v105 := Tryd.zeroValue83, t119 := Tryd.underlying133, a119 := Tryd.isAgg133, z119 := Tryd.sizeOf133,
    t138 := Tryd.underlying135, a138 := Tryd.isAgg135, z138 := Tryd.sizeOf135, v138 := Tryd.zeroValue135, t139 := Tryd.underlying136,
    a139 := Tryd.isAgg136, z139 := Tryd.sizeOf136, v139 := Tryd.zeroValue136, t146 := Tryd.underlying119, a146 := Tryd.isAgg119,
    z146 := Tryd.sizeOf119, v146 := Tryd.zeroValue119, g1 := by kernel_rfl, g3 := by kernel_rfl, g4 := by kernel_rfl }

def Tryd.l104_ren : Ren :=
  {
    f := fun
      | 104 => 19
      | 211 => 31
      | 207 => 44
      | n => n,
    t := fun
      | 9 => 9
      | 4 => 4
      | 24 => 55
      | 3 => 3
      | n => n,
    g := fun x =>
      have n := x;
      n }
theorem Tryd.l104 : Lays.n104 Tryd.prog Tryd.l104_ren :=
  { mixed := by kernel_rfl, f104 := Eq.trans Tryd.func19 (congrArg some (by kernel_rfl)), f207 := Eq.trans Tryd.func44 (congrArg some (by kernel_rfl)),
    f211 := Eq.trans Tryd.func31 (congrArg some (by kernel_rfl)), t3 := Tryd.underlying3, a3 := Tryd.isAgg3, z3 := Tryd.sizeOf3, v3 := Tryd.zeroValue3,
    t4 := Tryd.underlying4, a4 := Tryd.isAgg4, z4 := Tryd.sizeOf4, v4 := Tryd.zeroValue4, t9 := Tryd.underlying9, a9 := Tryd.isAgg9,
    z9 := Tryd.sizeOf9, v9 := Tryd.zeroValue9, t24 := Tryd.underlying55, a24 := Tryd.isAgg55, z24 := Tryd.sizeOf55, v24 := Tryd.zeroValue55 }

def Tryd.l143_ren : Ren :=
  {
    f := fun
      | 143 => 20
      | 219 => 32
      | 217 => 36
      | 225 => 45
      | 224 => 46
      | 267 => 47
      | 266 => 55
      | 314 => 69
      | n => n,
    t := fun
      | 9 => 9
      | 3 => 3
      | 4 => 4
      | 5 => 5
      | 46 => 87
      | 146 => 119
      | 51 => 118
      | n => n,
    g := fun
      | 1 => 0
      | n => n }
theorem Tryd.l143 : Lays.n143 Tryd.prog Tryd.l143_ren :=
  { mixed := by kernel_rfl, f143 := Eq.trans Tryd.func20 (congrArg some (by kernel_rfl)), f217 := Eq.trans Tryd.func36 (congrArg some (by kernel_rfl)),
    f219 := Eq.trans Tryd.func32 (congrArg some (by kernel_rfl)), f224 := Eq.trans Tryd.func46 (congrArg some (by kernel_rfl)),
    f225 := Eq.trans Tryd.func45 (congrArg some (by kernel_rfl)), f266 := Eq.trans Tryd.func55 (congrArg some (by kernel_rfl)),
    f267 := Eq.trans Tryd.func47 (congrArg some (by kernel_rfl)), f314 := Eq.trans Tryd.func69 (congrArg some (by kernel_rfl)), t3 := Tryd.underlying3,
    a3 := Tryd.isAgg3, z3 := Tryd.sizeOf3, v3 := Tryd.zeroValue3, t4 := Tryd.underlying4, a4 := Tryd.isAgg4, z4 := Tryd.sizeOf4, v4 := Tryd.zeroValue4,
    t5 := Tryd.underlying5, a5 := Tryd.isAgg5, z5 := Tryd.sizeOf5, v5 := Tryd.zeroValue5, t9 := Tryd.underlying9, a9 := Tryd.isAgg9,
    z9 := Tryd.sizeOf9, v9 := Tryd.zeroValue9, t46 := Tryd.underlying87, a46 := Tryd.isAgg87, z46 := Tryd.sizeOf87, v46 := Tryd.zeroValue87,
    t51 := Tryd.underlying118, a51 := Tryd.isAgg118, z51 := Tryd.sizeOf118, v51 := Tryd.zeroValue118, t146 := Tryd.underlying119,
    a146 := Tryd.isAgg119, z146 := Tryd.sizeOf119, v146 := Tryd.zeroValue119, g1 := by kernel_rfl }

def Tryd.l137_ren : Ren :=
  {
    f := fun
      | 137 => 23
      | 217 => 36
      | 266 => 55
      | n => n,
    t := fun
      | 9 => 9
      | 5 => 5
      | 3 => 3
      | n => n,
    g := fun x =>
      have n := x;
      n }
theorem Tryd.l137 : Lays.n137 Tryd.prog Tryd.l137_ren :=
  { mixed := by kernel_rfl, f137 := Eq.trans Tryd.func23 (congrArg some (by kernel_rfl)), f217 := Eq.trans Tryd.func36 (congrArg some (by kernel_rfl)),
    f266 := Eq.trans Tryd.func55 (congrArg some (by kernel_rfl)), t3 := Tryd.underlying3, a3 := Tryd.isAgg3, z3 := Tryd.sizeOf3, v3 := Tryd.zeroValue3,
    t5 := Tryd.underlying5, a5 := Tryd.isAgg5, z5 := Tryd.sizeOf5, v5 := Tryd.zeroValue5, t9 := Tryd.underlying9, a9 := Tryd.isAgg9,
    z9 := Tryd.sizeOf9, v9 := Tryd.zeroValue9 }

def Tryd.l172_ren : Ren :=
  {
    f := fun
      | 172 => 21
      | 244 => 33
      | 245 => 34
      | 247 => 48
      | 279 => 49
      | 280 => 50
      | 281 => 51
      | 282 => 52
      | 287 => 70
      | 316 => 71
      | 171 => 15
      | 205 => 72
      | 321 => 80
      | 322 => 81
      | 243 => 26
      | 246 => 39
      | 283 => 62
      | 284 => 63
      | 285 => 64
      | 286 => 65
      | 129 => 76
      | 317 => 75
      | 318 => 77
      | 319 => 78
      | 320 => 79
      | 337 => 82
      | 338 => 83
      | n => n,
    t := fun
      | 9 => 9
      | 3 => 3
      | 75 => 59
      | 76 => 60
      | 4 => 4
      | 5 => 5
      | 167 => 88
      | 37 => 70
      | 0 => 0
      | 85 => 89
      | 2 => 2
      | 168 => 91
      | 53 => 110
      | 175 => 121
      | 46 => 87
      | 210 => 125
      | 127 => 82
      | 145 => 140
      | 143 => 138
      | 21 => 21
      | 171 => 109
      | 173 => 113
      | 212 => 129
      | 51 => 118
      | 20 => 20
      | 213 => 130
      | 232 => 142
      | 233 => 143
      | 80 => 74
      | n => n,
    g := fun
      | 15 => 1
      | 16 => 2
      | 17 => 3
      | 18 => 6
      | 19 => 7
      | n => n }
theorem Tryd.l172 : LaysC.n172 Tryd.prog Tryd.l172_ren :=
  { mixed := by kernel_rfl, f129 := Eq.trans Tryd.func76 (congrArg some (by kernel_rfl)), f171 := Eq.trans Tryd.func15 (congrArg some (by kernel_rfl)),
    f172 := Eq.trans Tryd.func21 (congrArg some (by kernel_rfl)), f205 := Eq.trans Tryd.func72 (congrArg some (by kernel_rfl)),
    f243 := Eq.trans Tryd.func26 (congrArg some (by kernel_rfl)), f244 := Eq.trans Tryd.func33 (congrArg some (by kernel_rfl)),
    f245 := Eq.trans Tryd.func34 (congrArg some (by kernel_rfl)), f246 := Eq.trans Tryd.func39 (congrArg some (by kernel_rfl)),
    f247 := Eq.trans Tryd.func48 (congrArg some (by kernel_rfl)), f279 := Eq.trans Tryd.func49 (congrArg some (by kernel_rfl)),
    f280 := Eq.trans Tryd.func50 (congrArg some (by kernel_rfl)), f281 := Eq.trans Tryd.func51 (congrArg some (by kernel_rfl)),
    f282 := Eq.trans Tryd.func52 (congrArg some (by kernel_rfl)), f283 := Eq.trans Tryd.func62 (congrArg some (by kernel_rfl)),
    f284 := Eq.trans Tryd.func63 (congrArg some (by kernel_rfl)), f285 := Eq.trans Tryd.func64 (congrArg some (by kernel_rfl)),
    f286 := Eq.trans Tryd.func65 (congrArg some (by kernel_rfl)), f287 := Eq.trans Tryd.func70 (congrArg some (by kernel_rfl)),
    f316 := Eq.trans Tryd.func71 (congrArg some (by kernel_rfl)), f317 := Eq.trans Tryd.func75 (congrArg some (by kernel_rfl)),
    f318 := Eq.trans Tryd.func77 (congrArg some (by kernel_rfl)), f319 := Eq.trans Tryd.func78 (congrArg some (by kernel_rfl)),
    f320 := Eq.trans Tryd.func79 (congrArg some (by kernel_rfl)), f321 := Eq.trans Tryd.func80 (congrArg some (by kernel_rfl)),
    f322 := Eq.trans Tryd.func81 (congrArg some (by kernel_rfl)), f337 := Eq.trans Tryd.func82 (congrArg some (by kernel_rfl)),
    f338 := Eq.trans Tryd.func83 (congrArg some (by kernel_rfl)), t0 := Tryd.underlying0, a0 := Tryd.isAgg0, z0 := Tryd.sizeOf0, v0 := Tryd.zeroValue0,
    t2 := Tryd.underlying2, a2 := Tryd.isAgg2, z2 := Tryd.sizeOf2, v2 := Tryd.zeroValue2, t3 := Tryd.underlying3, a3 := Tryd.isAgg3,
    z3 := Tryd.sizeOf3, v3 := Tryd.zeroValue3, t4 := Tryd.underlying4, a4 := Tryd.isAgg4, z4 := Tryd.sizeOf4, v4 := Tryd.zeroValue4,
    t5 := Tryd.underlying5, a5 := Tryd.isAgg5, z5 := Tryd.sizeOf5, v5 := Tryd.zeroValue5, t9 := Tryd.underlying9, a9 := Tryd.isAgg9,
    z9 := Tryd.sizeOf9, v9 := Tryd.zeroValue9, t20 := Tryd.underlying20, a20 := Tryd.isAgg20, z20 := Tryd.sizeOf20, v20 := Tryd.zeroValue20,
    t21 := Tryd.underlying21, a21 := Tryd.isAgg21, z21 := Tryd.sizeOf21, v21 := Tryd.zeroValue21, t37 := Tryd.underlying70, a37 := Tryd.isAgg70,
    z37 := Tryd.sizeOf70, v37 := Tryd.zeroValue70, t46 := Tryd.underlying87, a46 := Tryd.isAgg87, z46 := Tryd.sizeOf87, v46 := Tryd.zeroValue87,
    t51 := Tryd.underlying118, a51 := Tryd.isAgg118, z51 := Tryd.sizeOf118, v51 := Tryd.zeroValue118, t53 := Tryd.underlying110, a53 := Tryd.isAgg110,
    z53 := Tryd.sizeOf110, v53 := Tryd.zeroValue110, t75 := Tryd.underlying59, a75 := Tryd.isAgg59, z75 := Tryd.sizeOf59, v75 := Tryd.zeroValue59,
    t76 := Tryd.underlying60, a76 := Tryd.isAgg60, z76 := Tryd.sizeOf60, v76 := Tryd.zeroValue60, t85 := Tryd.underlying89, a85 := Tryd.isAgg89,
    z85 := Tryd.sizeOf89, v85 := Tryd.zeroValue89, t127 := Tryd.underlying82, a127 := Tryd.isAgg82, z127 := Tryd.sizeOf82, v127 := Tryd.zeroValue82,
    t143 := Tryd.underlying138, a143 := Tryd.isAgg138, z143 := Tryd.sizeOf138, v143 := Tryd.zeroValue138, t145 := Tryd.underlying140,
    a145 := Tryd.isAgg140, z145 := Tryd.sizeOf140, v145 := Tryd.zeroValue140, t167 := Tryd.underlying88, a167 := Tryd.isAgg88, z167 := Tryd.sizeOf88,
    v167 := Tryd.zeroValue88, t168 := Tryd.underlying91, a168 := Tryd.isAgg91, z168 := Tryd.sizeOf91, v168 := Tryd.zeroValue91,
    t171 := Tryd.underlying109, a171 := Tryd.isAgg109, z171 := Tryd.sizeOf109, v171 := Tryd.zeroValue109, t173 := Tryd.underlying113,
    a173 := Tryd.isAgg113, z173 := Tryd.sizeOf113, v173 := Tryd.zeroValue113, t175 := Tryd.underlying121, a175 := Tryd.isAgg121,
    z175 := Tryd.sizeOf121, v175 := Tryd.zeroValue121, t210 := Tryd.underlying125, a210 := Tryd.isAgg125, z210 := Tryd.sizeOf125,
    v210 := Tryd.zeroValue125, t212 := Tryd.underlying129, a212 := Tryd.isAgg129, z212 := Tryd.sizeOf129, v212 := Tryd.zeroValue129,
    t213 := Tryd.underlying130, a213 := Tryd.isAgg130, z213 := Tryd.sizeOf130, t232 := Tryd.underlying142, a232 := Tryd.isAgg142,
    z232 := Tryd.sizeOf142, v232 := Tryd.zeroValue142, t233 := Tryd.underlying143, a233 := Tryd.isAgg143, z233 := Tryd.sizeOf143,
    v233 := Tryd.zeroValue143, g15 := by kernel_rfl, g16 := by kernel_rfl, g17 := by kernel_rfl, g18 := by kernel_rfl, g19 := by kernel_rfl,
    t80 := Tryd.underlying74, a80 := Tryd.isAgg74, z80 := Tryd.sizeOf74, v80 := Tryd.zeroValue74, i0 := by kernel_rfl, i2 := by kernel_rfl,
    i3 := by kernel_rfl, i4 := by kernel_rfl, i5 := by kernel_rfl, i9 := by kernel_rfl, i20 := by kernel_rfl, i21 := by kernel_rfl,
    i37 := by kernel_rfl, i46 := by kernel_rfl, i51 := by kernel_rfl, i53 := by kernel_rfl, i75 := by kernel_rfl, i76 := by kernel_rfl,
    i80 := by kernel_rfl, i85 := by kernel_rfl, i127 := by kernel_rfl, i143 := by kernel_rfl, i145 := by kernel_rfl, i167 := by kernel_rfl,
    i168 := by kernel_rfl, i171 := by kernel_rfl, i173 := by kernel_rfl, i175 := by kernel_rfl, i210 := by kernel_rfl, i212 := by kernel_rfl,
    i232 := by kernel_rfl, i233 := by kernel_rfl, m15 := by kernel_rfl, m16 := by kernel_rfl, m17 := by kernel_rfl, m18 := by kernel_rfl,
    m19 := by kernel_rfl, c0 := by kernel_rfl, c2 := by kernel_rfl, c3 := by kernel_rfl, c4 := by kernel_rfl, c5 := by kernel_rfl, c9 := by kernel_rfl,
    c20 := by kernel_rfl, c21 := by kernel_rfl, c37 := by kernel_rfl, c46 := by kernel_rfl, c51 := by kernel_rfl, c53 := by kernel_rfl,
    c75 := by kernel_rfl, c76 := by kernel_rfl, c80 := by kernel_rfl, c85 := by kernel_rfl, c127 := by kernel_rfl, c143 := by kernel_rfl,
    c145 := by kernel_rfl, c167 := by kernel_rfl, c168 := by kernel_rfl, c171 := by kernel_rfl, c173 := by kernel_rfl, c175 := by kernel_rfl,
    c210 := by kernel_rfl, c212 := by kernel_rfl, c213 := by kernel_rfl, c232 := by kernel_rfl, c233 := by kernel_rfl }

theorem Tryd.x156 : Builder.Extra Tryd.prog Tryd.l156_ren where
  sizeBuilder := by kernel_rfl
  liesBuilder := by kernel_rfl
  t5 := Tryd.underlying5
  a5 := Tryd.isAgg5
  z5 := Tryd.sizeOf5
  v5 := Tryd.zeroValue5
  infoByte := by kernel_rfl
  cellsByte := by kernel_rfl
  sizeByte := by kernel_rfl
  neB5 := by decide
end Go.Proofs
