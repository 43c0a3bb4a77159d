/- Contracts of strconv.Itoa, Atoi, strings.Trim, CutPrefix, Contains laid at this translation (printed by wip/gen_lay2.py). No conditions. -/
import Derived.Test.YtpdlogpkfnpbpaaDoorProg
import Derived.Shelf.Strconv.Itoa3
import Derived.Shelf.Strconv.Atoi
import Derived.Shelf.Strings.SlTrimAscii
import Derived.Shelf.Small.Wraps
import Derived.Shelf.Strings.Search3
import Derived.KernelRfl
namespace Go.Proofs
open Go.Shelf

def Tryd.l171_ren : Ren :=
  {
    f := fun
      | 171 => 11
      | 243 => 27
      | 246 => 44
      | 283 => 60
      | 284 => 61
      | 285 => 62
      | 286 => 63
      | 129 => 78
      | 317 => 77
      | 318 => 79
      | 319 => 80
      | 320 => 81
      | 337 => 90
      | 338 => 91
      | n => n,
    t := fun
      | 3 => 3
      | 9 => 9
      | 2 => 2
      | 4 => 4
      | 171 => 87
      | 0 => 0
      | 53 => 51
      | 37 => 90
      | 5 => 5
      | 173 => 91
      | 212 => 106
      | 51 => 70
      | 20 => 20
      | 213 => 107
      | 46 => 82
      | 232 => 130
      | 233 => 131
      | n => n,
    g := fun
      | 17 => 1
      | 18 => 6
      | 19 => 7
      | n => n }
theorem Tryd.l171 : LaysM.n171 Tryd.prog Tryd.l171_ren :=
  { mixed := by kernel_rfl, f129 := Eq.trans Tryd.func78 (congrArg some (by kernel_rfl)), f171 := Eq.trans Tryd.func11 (congrArg some (by kernel_rfl)),
    f243 := Eq.trans Tryd.func27 (congrArg some (by kernel_rfl)), f246 := Eq.trans Tryd.func44 (congrArg some (by kernel_rfl)),
    f283 := Eq.trans Tryd.func60 (congrArg some (by kernel_rfl)), f284 := Eq.trans Tryd.func61 (congrArg some (by kernel_rfl)),
    f285 := Eq.trans Tryd.func62 (congrArg some (by kernel_rfl)), f286 := Eq.trans Tryd.func63 (congrArg some (by kernel_rfl)),
    f317 := Eq.trans Tryd.func77 (congrArg some (by kernel_rfl)), f318 := Eq.trans Tryd.func79 (congrArg some (by kernel_rfl)),
    f319 := Eq.trans Tryd.func80 (congrArg some (by kernel_rfl)), f320 := Eq.trans Tryd.func81 (congrArg some (by kernel_rfl)),
    f337 := Eq.trans Tryd.func90 (congrArg some (by kernel_rfl)), f338 := Eq.trans Tryd.func91 (congrArg some (by kernel_rfl)), t0 := Tryd.underlying0,
    a0 := Tryd.isAgg0, z0 := Tryd.sizeOf0, v0 := Tryd.zeroValue0, t2 := Tryd.underlying2, a2 := Tryd.isAgg2, z2 := Tryd.sizeOf2, v2 := Tryd.zeroValue2,
    t3 := Tryd.underlying3, a3 := Tryd.isAgg3, z3 := Tryd.sizeOf3, v3 := Tryd.zeroValue3, t4 := Tryd.underlying4, a4 := Tryd.isAgg4,
    z4 := Tryd.sizeOf4, v4 := Tryd.zeroValue4, t5 := Tryd.underlying5, a5 := Tryd.isAgg5, z5 := Tryd.sizeOf5, v5 := Tryd.zeroValue5,
    t9 := Tryd.underlying9, a9 := Tryd.isAgg9, z9 := Tryd.sizeOf9, v9 := Tryd.zeroValue9, t20 := Tryd.underlying20, a20 := Tryd.isAgg20,
    z20 := Tryd.sizeOf20, v20 := Tryd.zeroValue20, t37 := Tryd.underlying90, a37 := Tryd.isAgg90, z37 := Tryd.sizeOf90, v37 := Tryd.zeroValue90,
    t46 := Tryd.underlying82, a46 := Tryd.isAgg82, z46 := Tryd.sizeOf82, v46 := Tryd.zeroValue82, t51 := Tryd.underlying70, a51 := Tryd.isAgg70,
    z51 := Tryd.sizeOf70, v51 := Tryd.zeroValue70, t53 := Tryd.underlying51, a53 := Tryd.isAgg51, z53 := Tryd.sizeOf51, v53 := Tryd.zeroValue51,
    t171 := Tryd.underlying87, a171 := Tryd.isAgg87, z171 := Tryd.sizeOf87, v171 := Tryd.zeroValue87, t173 := Tryd.underlying91, a173 := Tryd.isAgg91,
    z173 := Tryd.sizeOf91, v173 := Tryd.zeroValue91, t212 := Tryd.underlying106, a212 := Tryd.isAgg106, z212 := Tryd.sizeOf106,
    v212 := Tryd.zeroValue106, t213 := Tryd.underlying107, a213 := Tryd.isAgg107, z213 := Tryd.sizeOf107, t232 := Tryd.underlying130,
    a232 := Tryd.isAgg130, z232 := Tryd.sizeOf130, v232 := Tryd.zeroValue130, t233 := Tryd.underlying131, a233 := Tryd.isAgg131,
    z233 := Tryd.sizeOf131, v233 := Tryd.zeroValue131, g17 := by kernel_rfl, g18 := by kernel_rfl, g19 := by kernel_rfl, i0 := by kernel_rfl,
    i2 := by kernel_rfl, i3 := by kernel_rfl, i4 := by kernel_rfl, i5 := by kernel_rfl, i9 := by kernel_rfl, i20 := by kernel_rfl,
    i37 := by kernel_rfl, i46 := by kernel_rfl, i51 := by kernel_rfl, i53 := by kernel_rfl, i171 := by kernel_rfl, i173 := by kernel_rfl,
    i212 := by kernel_rfl, i232 := by kernel_rfl, i233 := by kernel_rfl, m17 := by kernel_rfl, m18 := by kernel_rfl, m19 := by kernel_rfl }

def Tryd.l172_ren : Ren :=
  {
    f := fun
      | 172 => 35
      | 244 => 54
      | 245 => 55
      | 247 => 72
      | 279 => 73
      | 280 => 74
      | 281 => 75
      | 282 => 76
      | 287 => 87
      | 316 => 88
      | 171 => 11
      | 205 => 89
      | 321 => 94
      | 322 => 95
      | 243 => 27
      | 246 => 44
      | 283 => 60
      | 284 => 61
      | 285 => 62
      | 286 => 63
      | 129 => 78
      | 317 => 77
      | 318 => 79
      | 319 => 80
      | 320 => 81
      | 337 => 90
      | 338 => 91
      | n => n,
    t := fun
      | 9 => 9
      | 3 => 3
      | 75 => 62
      | 76 => 63
      | 4 => 4
      | 5 => 5
      | 167 => 99
      | 37 => 90
      | 0 => 0
      | 85 => 100
      | 2 => 2
      | 168 => 102
      | 53 => 51
      | 175 => 113
      | 46 => 82
      | 210 => 117
      | 127 => 126
      | 145 => 129
      | 143 => 127
      | 21 => 21
      | 171 => 87
      | 173 => 91
      | 212 => 106
      | 51 => 70
      | 20 => 20
      | 213 => 107
      | 232 => 130
      | 233 => 131
      | 80 => 132
      | n => n,
    g := fun
      | 15 => 2
      | 16 => 3
      | 17 => 1
      | 18 => 6
      | 19 => 7
      | n => n }
theorem Tryd.l172 : Lays.n172 Tryd.prog Tryd.l172_ren :=
  { mixed := by kernel_rfl, f129 := Eq.trans Tryd.func78 (congrArg some (by kernel_rfl)), f171 := Eq.trans Tryd.func11 (congrArg some (by kernel_rfl)),
    f172 := Eq.trans Tryd.func35 (congrArg some (by kernel_rfl)), f205 := Eq.trans Tryd.func89 (congrArg some (by kernel_rfl)),
    f243 := Eq.trans Tryd.func27 (congrArg some (by kernel_rfl)), f244 := Eq.trans Tryd.func54 (congrArg some (by kernel_rfl)),
    f245 := Eq.trans Tryd.func55 (congrArg some (by kernel_rfl)), f246 := Eq.trans Tryd.func44 (congrArg some (by kernel_rfl)),
    f247 := Eq.trans Tryd.func72 (congrArg some (by kernel_rfl)), f279 := Eq.trans Tryd.func73 (congrArg some (by kernel_rfl)),
    f280 := Eq.trans Tryd.func74 (congrArg some (by kernel_rfl)), f281 := Eq.trans Tryd.func75 (congrArg some (by kernel_rfl)),
    f282 := Eq.trans Tryd.func76 (congrArg some (by kernel_rfl)), f283 := Eq.trans Tryd.func60 (congrArg some (by kernel_rfl)),
    f284 := Eq.trans Tryd.func61 (congrArg some (by kernel_rfl)), f285 := Eq.trans Tryd.func62 (congrArg some (by kernel_rfl)),
    f286 := Eq.trans Tryd.func63 (congrArg some (by kernel_rfl)), f287 := Eq.trans Tryd.func87 (congrArg some (by kernel_rfl)),
    f316 := Eq.trans Tryd.func88 (congrArg some (by kernel_rfl)), f317 := Eq.trans Tryd.func77 (congrArg some (by kernel_rfl)),
    f318 := Eq.trans Tryd.func79 (congrArg some (by kernel_rfl)), f319 := Eq.trans Tryd.func80 (congrArg some (by kernel_rfl)),
    f320 := Eq.trans Tryd.func81 (congrArg some (by kernel_rfl)), f321 := Eq.trans Tryd.func94 (congrArg some (by kernel_rfl)),
    f322 := Eq.trans Tryd.func95 (congrArg some (by kernel_rfl)), f337 := Eq.trans Tryd.func90 (congrArg some (by kernel_rfl)),
    f338 := Eq.trans Tryd.func91 (congrArg some (by kernel_rfl)), t0 := Tryd.underlying0, a0 := Tryd.isAgg0, z0 := Tryd.sizeOf0, v0 := Tryd.zeroValue0,
    t2 := Tryd.underlying2, a2 := Tryd.isAgg2, z2 := Tryd.sizeOf2, v2 := Tryd.zeroValue2, t3 := Tryd.underlying3, a3 := Tryd.isAgg3,
    z3 := Tryd.sizeOf3, v3 := Tryd.zeroValue3, t4 := Tryd.underlying4, a4 := Tryd.isAgg4, z4 := Tryd.sizeOf4, v4 := Tryd.zeroValue4,
    t5 := Tryd.underlying5, a5 := Tryd.isAgg5, z5 := Tryd.sizeOf5, v5 := Tryd.zeroValue5, t9 := Tryd.underlying9, a9 := Tryd.isAgg9,
    z9 := Tryd.sizeOf9, v9 := Tryd.zeroValue9, t20 := Tryd.underlying20, a20 := Tryd.isAgg20, z20 := Tryd.sizeOf20, v20 := Tryd.zeroValue20,
    t21 := Tryd.underlying21, a21 := Tryd.isAgg21, z21 := Tryd.sizeOf21, v21 := Tryd.zeroValue21, t37 := Tryd.underlying90, a37 := Tryd.isAgg90,
    z37 := Tryd.sizeOf90, v37 := Tryd.zeroValue90, t46 := Tryd.underlying82, a46 := Tryd.isAgg82, z46 := Tryd.sizeOf82, v46 := Tryd.zeroValue82,
    t51 := Tryd.underlying70, a51 := Tryd.isAgg70, z51 := Tryd.sizeOf70, v51 := Tryd.zeroValue70, t53 := Tryd.underlying51, a53 := Tryd.isAgg51,
    z53 := Tryd.sizeOf51, v53 := Tryd.zeroValue51, t75 := Tryd.underlying62, a75 := Tryd.isAgg62, z75 := Tryd.sizeOf62, v75 := Tryd.zeroValue62,
    t76 := Tryd.underlying63, a76 := Tryd.isAgg63, z76 := Tryd.sizeOf63, v76 := Tryd.zeroValue63, t85 := Tryd.underlying100, a85 := Tryd.isAgg100,
    z85 := Tryd.sizeOf100, v85 := Tryd.zeroValue100, t127 := Tryd.underlying126, a127 := Tryd.isAgg126, z127 := Tryd.sizeOf126,
    v127 := Tryd.zeroValue126, t143 := Tryd.underlying127, a143 := Tryd.isAgg127, z143 := Tryd.sizeOf127, v143 := Tryd.zeroValue127,
    t145 := Tryd.underlying129, a145 := Tryd.isAgg129, z145 := Tryd.sizeOf129, v145 := Tryd.zeroValue129, t167 := Tryd.underlying99,
    a167 := Tryd.isAgg99, z167 := Tryd.sizeOf99, v167 := Tryd.zeroValue99, t168 := Tryd.underlying102, a168 := Tryd.isAgg102, z168 := Tryd.sizeOf102,
    v168 := Tryd.zeroValue102, t171 := Tryd.underlying87, a171 := Tryd.isAgg87, z171 := Tryd.sizeOf87, v171 := Tryd.zeroValue87,
    t173 := Tryd.underlying91, a173 := Tryd.isAgg91, z173 := Tryd.sizeOf91, v173 := Tryd.zeroValue91, t175 := Tryd.underlying113,
    a175 := Tryd.isAgg113, z175 := Tryd.sizeOf113, v175 := Tryd.zeroValue113, t210 := Tryd.underlying117, a210 := Tryd.isAgg117,
    z210 := Tryd.sizeOf117, v210 := Tryd.zeroValue117, t212 := Tryd.underlying106, a212 := Tryd.isAgg106, z212 := Tryd.sizeOf106,
    v212 := Tryd.zeroValue106, t213 := Tryd.underlying107, a213 := Tryd.isAgg107, z213 := Tryd.sizeOf107, t232 := Tryd.underlying130,
    a232 := Tryd.isAgg130, z232 := Tryd.sizeOf130, v232 := Tryd.zeroValue130, t233 := Tryd.underlying131, a233 := Tryd.isAgg131,
    z233 := Tryd.sizeOf131, v233 := Tryd.zeroValue131, g15 := by kernel_rfl, g16 := by kernel_rfl, g17 := by kernel_rfl, g18 := by kernel_rfl,
    g19 := by kernel_rfl }

def Tryd.l160_ren : Ren :=
  {
    f := fun
      | 160 => 34
      | 232 => 48
      | 231 => 47
      | 227 => 49
      | 234 => 51
      | 233 => 50
      | 236 => 53
      | 235 => 52
      | 228 => 68
      | 271 => 71
      | 151 => 70
      | 197 => 69
      | 120 => 86
      | 152 => 85
      | 260 => 84
      | 137 => 92
      | 119 => 93
      | 224 => 66
      | 225 => 65
      | 217 => 64
      | 266 => 82
      | n => n,
    t := fun
      | 9 => 9
      | 4 => 4
      | 3 => 3
      | 5 => 5
      | 117 => 77
      | 116 => 76
      | 0 => 0
      | 124 => 80
      | 21 => 21
      | 105 => 96
      | 46 => 82
      | 119 => 120
      | 139 => 123
      | 138 => 122
      | n => n,
    g := fun
      | 3 => 4
      | 4 => 5
      | n => n }
theorem Tryd.l160 : Lays.n160 Tryd.prog Tryd.l160_ren :=
  { mixed := by kernel_rfl, f119 := Eq.trans Tryd.func93 (congrArg some (by kernel_rfl)), f120 := Eq.trans Tryd.func86 (congrArg some (by kernel_rfl)),
    f137 := Eq.trans Tryd.func92 (congrArg some (by kernel_rfl)), f151 := Eq.trans Tryd.func70 (congrArg some (by kernel_rfl)),
    f152 := Eq.trans Tryd.func85 (congrArg some (by kernel_rfl)), f160 := Eq.trans Tryd.func34 (congrArg some (by kernel_rfl)),
    f197 := Eq.trans Tryd.func69 (congrArg some (by kernel_rfl)), f217 := Eq.trans Tryd.func64 (congrArg some (by kernel_rfl)),
    f224 := Eq.trans Tryd.func66 (congrArg some (by kernel_rfl)), f225 := Eq.trans Tryd.func65 (congrArg some (by kernel_rfl)),
    f227 := Eq.trans Tryd.func49 (congrArg some (by kernel_rfl)), f228 := Eq.trans Tryd.func68 (congrArg some (by kernel_rfl)),
    f231 := Eq.trans Tryd.func47 (congrArg some (by kernel_rfl)), f232 := Eq.trans Tryd.func48 (congrArg some (by kernel_rfl)),
    f233 := Eq.trans Tryd.func50 (congrArg some (by kernel_rfl)), f234 := Eq.trans Tryd.func51 (congrArg some (by kernel_rfl)),
    f235 := Eq.trans Tryd.func52 (congrArg some (by kernel_rfl)), f236 := Eq.trans Tryd.func53 (congrArg some (by kernel_rfl)),
    f260 := Eq.trans Tryd.func84 (congrArg some (by kernel_rfl)), f266 := Eq.trans Tryd.func82 (congrArg some (by kernel_rfl)),
    f271 := Eq.trans Tryd.func71 (congrArg some (by kernel_rfl)), t0 := Tryd.underlying0, a0 := Tryd.isAgg0, z0 := Tryd.sizeOf0, v0 := Tryd.zeroValue0,
    t3 := Tryd.underlying3, a3 := Tryd.isAgg3, z3 := Tryd.sizeOf3, v3 := Tryd.zeroValue3, t4 := Tryd.underlying4, a4 := Tryd.isAgg4,
    z4 := Tryd.sizeOf4, v4 := Tryd.zeroValue4, t5 := Tryd.underlying5, a5 := Tryd.isAgg5, z5 := Tryd.sizeOf5, v5 := Tryd.zeroValue5,
    t9 := Tryd.underlying9, a9 := Tryd.isAgg9, z9 := Tryd.sizeOf9, v9 := Tryd.zeroValue9, t21 := Tryd.underlying21, a21 := Tryd.isAgg21,
    z21 := Tryd.sizeOf21, v21 := Tryd.zeroValue21, t46 := Tryd.underlying82, a46 := Tryd.isAgg82, z46 := Tryd.sizeOf82, v46 := Tryd.zeroValue82,
    t105 := Tryd.underlying96, a105 := Tryd.isAgg96, z105 := Tryd.sizeOf96, v105 := Tryd.zeroValue96, t116 := Tryd.underlying76, a116 := Tryd.isAgg76,
    z116 := Tryd.sizeOf76, t117 := Tryd.underlying77, a117 := Tryd.isAgg77, z117 := Tryd.sizeOf77, v117 := Tryd.zeroValue77,
    t119 := Tryd.underlying120, a119 := Tryd.isAgg120, z119 := Tryd.sizeOf120, t124 := Tryd.underlying80, a124 := Tryd.isAgg80, z124 := Tryd.sizeOf80,
    v124 := Tryd.zeroValue80, t138 := Tryd.underlying122, a138 := Tryd.isAgg122, z138 := Tryd.sizeOf122, v138 := Tryd.zeroValue122,
    t139 := Tryd.underlying123, a139 := Tryd.isAgg123, z139 := Tryd.sizeOf123, v139 := Tryd.zeroValue123, g3 := by kernel_rfl, g4 := by kernel_rfl }

def Tryd.l103_ren : Ren :=
  {
    f := fun
      | 103 => 14
      | 210 => 31
      | 206 => 45
      | n => n,
    t := fun
      | 9 => 9
      | 4 => 4
      | 24 => 34
      | 3 => 3
      | n => n,
    g := fun x =>
      have n := x;
      n }
theorem Tryd.l103 : Lays.n103 Tryd.prog Tryd.l103_ren :=
  { mixed := by kernel_rfl, f103 := Eq.trans Tryd.func14 (congrArg some (by kernel_rfl)), f206 := Eq.trans Tryd.func45 (congrArg some (by kernel_rfl)),
    f210 := Eq.trans Tryd.func31 (congrArg some (by kernel_rfl)), t3 := Tryd.underlying3, a3 := Tryd.isAgg3, z3 := Tryd.sizeOf3, v3 := Tryd.zeroValue3,
    t4 := Tryd.underlying4, a4 := Tryd.isAgg4, z4 := Tryd.sizeOf4, v4 := Tryd.zeroValue4, t9 := Tryd.underlying9, a9 := Tryd.isAgg9,
    z9 := Tryd.sizeOf9, v9 := Tryd.zeroValue9, t24 := Tryd.underlying34, a24 := Tryd.isAgg34, z24 := Tryd.sizeOf34, v24 := Tryd.zeroValue34 }

def Tryd.l144_ren : Ren :=
  {
    f := fun
      | 144 => 16
      | 143 => 33
      | 219 => 46
      | 217 => 64
      | 225 => 65
      | 224 => 66
      | 267 => 67
      | 266 => 82
      | 314 => 83
      | n => n,
    t := fun
      | 9 => 9
      | 4 => 4
      | 3 => 3
      | 5 => 5
      | 46 => 82
      | 146 => 110
      | 51 => 70
      | n => n,
    g := fun
      | 1 => 0
      | n => n }
theorem Tryd.l144 : Lays.n144 Tryd.prog Tryd.l144_ren :=
  { mixed := by kernel_rfl, f143 := Eq.trans Tryd.func33 (congrArg some (by kernel_rfl)), f144 := Eq.trans Tryd.func16 (congrArg some (by kernel_rfl)),
    f217 := Eq.trans Tryd.func64 (congrArg some (by kernel_rfl)), f219 := Eq.trans Tryd.func46 (congrArg some (by kernel_rfl)),
    f224 := Eq.trans Tryd.func66 (congrArg some (by kernel_rfl)), f225 := Eq.trans Tryd.func65 (congrArg some (by kernel_rfl)),
    f266 := Eq.trans Tryd.func82 (congrArg some (by kernel_rfl)), f267 := Eq.trans Tryd.func67 (congrArg some (by kernel_rfl)),
    f314 := Eq.trans Tryd.func83 (congrArg some (by kernel_rfl)), t3 := Tryd.underlying3, a3 := Tryd.isAgg3, z3 := Tryd.sizeOf3, v3 := Tryd.zeroValue3,
    t4 := Tryd.underlying4, a4 := Tryd.isAgg4, z4 := Tryd.sizeOf4, v4 := Tryd.zeroValue4, t5 := Tryd.underlying5, a5 := Tryd.isAgg5,
    z5 := Tryd.sizeOf5, v5 := Tryd.zeroValue5, t9 := Tryd.underlying9, a9 := Tryd.isAgg9, z9 := Tryd.sizeOf9, v9 := Tryd.zeroValue9,
    t46 := Tryd.underlying82, a46 := Tryd.isAgg82, z46 := Tryd.sizeOf82, v46 := Tryd.zeroValue82, t51 := Tryd.underlying70, a51 := Tryd.isAgg70,
    z51 := Tryd.sizeOf70, v51 := Tryd.zeroValue70, t146 := Tryd.underlying110, a146 := Tryd.isAgg110, z146 := Tryd.sizeOf110,
    v146 := Tryd.zeroValue110, g1 := by kernel_rfl }

end Go.Proofs
