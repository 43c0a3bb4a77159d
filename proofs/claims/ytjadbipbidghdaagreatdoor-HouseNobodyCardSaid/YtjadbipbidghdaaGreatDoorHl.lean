/- Contracts of strconv.Itoa, Atoi, strings.Trim, CutPrefix, Split laid at this translation (printed by wip/gen_lay2.py). No conditions. -/
import Derived.Test.YtjadbipbidghdaaGreatDoorProg
import Derived.Shelf.Strconv.Itoa3
import Derived.Shelf.Strconv.Atoi
import Derived.Shelf.Strings.SlTrimAscii
import Derived.Shelf.Small.Wraps
import Derived.Shelf.Strings.Search3
import Derived.Shelf.Strings.Split
import Derived.KernelRfl
namespace Go.Proofs
open Go.Shelf

def Tryz.l171_ren : Ren :=
  {
    f := fun
      | 171 => 22
      | 243 => 60
      | 246 => 106
      | 283 => 171
      | 284 => 172
      | 285 => 173
      | 286 => 174
      | 129 => 222
      | 317 => 221
      | 318 => 223
      | 319 => 224
      | 320 => 225
      | 337 => 286
      | 338 => 287
      | n => n,
    t := fun
      | 3 => 3
      | 9 => 9
      | 2 => 2
      | 4 => 4
      | 171 => 260
      | 0 => 0
      | 53 => 261
      | 37 => 47
      | 5 => 5
      | 173 => 264
      | 212 => 329
      | 51 => 258
      | 20 => 20
      | 213 => 330
      | 46 => 251
      | 232 => 436
      | 233 => 437
      | n => n,
    g := fun
      | 17 => 0
      | 18 => 7
      | 19 => 8
      | n => n }
theorem Tryz.l171 : LaysM.n171 Tryz.prog Tryz.l171_ren :=
  { mixed := by kernel_rfl, f129 := Eq.trans Tryz.func222 (congrArg some (by kernel_rfl)),
    f171 := Eq.trans Tryz.func22 (congrArg some (by kernel_rfl)), f243 := Eq.trans Tryz.func60 (congrArg some (by kernel_rfl)),
    f246 := Eq.trans Tryz.func106 (congrArg some (by kernel_rfl)), f283 := Eq.trans Tryz.func171 (congrArg some (by kernel_rfl)),
    f284 := Eq.trans Tryz.func172 (congrArg some (by kernel_rfl)), f285 := Eq.trans Tryz.func173 (congrArg some (by kernel_rfl)),
    f286 := Eq.trans Tryz.func174 (congrArg some (by kernel_rfl)), f317 := Eq.trans Tryz.func221 (congrArg some (by kernel_rfl)),
    f318 := Eq.trans Tryz.func223 (congrArg some (by kernel_rfl)), f319 := Eq.trans Tryz.func224 (congrArg some (by kernel_rfl)),
    f320 := Eq.trans Tryz.func225 (congrArg some (by kernel_rfl)), f337 := Eq.trans Tryz.func286 (congrArg some (by kernel_rfl)),
    f338 := Eq.trans Tryz.func287 (congrArg some (by kernel_rfl)), t0 := Tryz.underlying0, a0 := Tryz.isAgg0, z0 := Tryz.sizeOf0,
    v0 := Tryz.zeroValue0, t2 := Tryz.underlying2, a2 := Tryz.isAgg2, z2 := Tryz.sizeOf2, v2 := Tryz.zeroValue2, t3 := Tryz.underlying3,
    a3 := Tryz.isAgg3, z3 := Tryz.sizeOf3, v3 := Tryz.zeroValue3, t4 := Tryz.underlying4, a4 := Tryz.isAgg4, z4 := Tryz.sizeOf4, v4 := Tryz.zeroValue4,
    t5 := Tryz.underlying5, a5 := Tryz.isAgg5, z5 := Tryz.sizeOf5, v5 := Tryz.zeroValue5, t9 := Tryz.underlying9, a9 := Tryz.isAgg9,
    z9 := Tryz.sizeOf9, v9 := Tryz.zeroValue9, t20 := Tryz.underlying20, a20 := Tryz.isAgg20, z20 := Tryz.sizeOf20, v20 := Tryz.zeroValue20,
    t37 := Tryz.underlying47, a37 := Tryz.isAgg47, z37 := Tryz.sizeOf47, v37 := Tryz.zeroValue47, t46 := Tryz.underlying251, a46 := Tryz.isAgg251,
    z46 := Tryz.sizeOf251, v46 := Tryz.zeroValue251, t51 := Tryz.underlying258, a51 := Tryz.isAgg258, z51 := Tryz.sizeOf258, v51 := Tryz.zeroValue258,
    t53 := Tryz.underlying261, a53 := Tryz.isAgg261, z53 := Tryz.sizeOf261, v53 := Tryz.zeroValue261, t171 := Tryz.underlying260,
    a171 := Tryz.isAgg260, z171 := Tryz.sizeOf260, v171 := Tryz.zeroValue260, t173 := Tryz.underlying264, a173 := Tryz.isAgg264,
    z173 := Tryz.sizeOf264, v173 := Tryz.zeroValue264, t212 := Tryz.underlying329, a212 := Tryz.isAgg329, z212 := Tryz.sizeOf329,
    v212 := Tryz.zeroValue329, t213 := Tryz.underlying330, a213 := Tryz.isAgg330, z213 := Tryz.sizeOf330, t232 := Tryz.underlying436,
    a232 := Tryz.isAgg436, z232 := Tryz.sizeOf436, v232 := Tryz.zeroValue436, t233 := Tryz.underlying437, a233 := Tryz.isAgg437,
    z233 := Tryz.sizeOf437, v233 := Tryz.zeroValue437, g17 := by kernel_rfl, g18 := by kernel_rfl, g19 := by kernel_rfl, i0 := by kernel_rfl,
    i2 := by kernel_rfl, i3 := by kernel_rfl, i4 := by kernel_rfl, i5 := by kernel_rfl, i9 := by kernel_rfl, i20 := by kernel_rfl,
    i37 := by kernel_rfl, i46 := by kernel_rfl, i51 := by kernel_rfl, i53 := by kernel_rfl, i171 := by kernel_rfl, i173 := by kernel_rfl,
    i212 := by kernel_rfl, i232 := by kernel_rfl, i233 := by kernel_rfl, m17 := by kernel_rfl, m18 := by kernel_rfl, m19 := by kernel_rfl }

def Tryz.l172_ren : Ren :=
  {
    f := fun
      | 172 => 74
      | 244 => 122
      | 245 => 123
      | 247 => 183
      | 279 => 184
      | 280 => 185
      | 281 => 186
      | 282 => 187
      | 287 => 233
      | 316 => 234
      | 171 => 22
      | 205 => 235
      | 321 => 292
      | 322 => 293
      | 243 => 60
      | 246 => 106
      | 283 => 171
      | 284 => 172
      | 285 => 173
      | 286 => 174
      | 129 => 222
      | 317 => 221
      | 318 => 223
      | 319 => 224
      | 320 => 225
      | 337 => 286
      | 338 => 287
      | n => n,
    t := fun
      | 9 => 9
      | 3 => 3
      | 75 => 52
      | 76 => 53
      | 4 => 4
      | 5 => 5
      | 167 => 272
      | 37 => 47
      | 0 => 0
      | 85 => 273
      | 2 => 2
      | 168 => 275
      | 53 => 261
      | 175 => 333
      | 46 => 251
      | 210 => 337
      | 127 => 152
      | 145 => 402
      | 143 => 400
      | 21 => 21
      | 171 => 260
      | 173 => 264
      | 212 => 329
      | 51 => 258
      | 20 => 20
      | 213 => 330
      | 232 => 436
      | 233 => 437
      | 80 => 32
      | n => n,
    g := fun
      | 15 => 2
      | 16 => 3
      | 17 => 0
      | 18 => 7
      | 19 => 8
      | n => n }
theorem Tryz.l172 : Lays.n172 Tryz.prog Tryz.l172_ren :=
  { mixed := by kernel_rfl, f129 := Eq.trans Tryz.func222 (congrArg some (by kernel_rfl)),
    f171 := Eq.trans Tryz.func22 (congrArg some (by kernel_rfl)), f172 := Eq.trans Tryz.func74 (congrArg some (by kernel_rfl)),
    f205 := Eq.trans Tryz.func235 (congrArg some (by kernel_rfl)), f243 := Eq.trans Tryz.func60 (congrArg some (by kernel_rfl)),
    f244 := Eq.trans Tryz.func122 (congrArg some (by kernel_rfl)), f245 := Eq.trans Tryz.func123 (congrArg some (by kernel_rfl)),
    f246 := Eq.trans Tryz.func106 (congrArg some (by kernel_rfl)), f247 := Eq.trans Tryz.func183 (congrArg some (by kernel_rfl)),
    f279 := Eq.trans Tryz.func184 (congrArg some (by kernel_rfl)), f280 := Eq.trans Tryz.func185 (congrArg some (by kernel_rfl)),
    f281 := Eq.trans Tryz.func186 (congrArg some (by kernel_rfl)), f282 := Eq.trans Tryz.func187 (congrArg some (by kernel_rfl)),
    f283 := Eq.trans Tryz.func171 (congrArg some (by kernel_rfl)), f284 := Eq.trans Tryz.func172 (congrArg some (by kernel_rfl)),
    f285 := Eq.trans Tryz.func173 (congrArg some (by kernel_rfl)), f286 := Eq.trans Tryz.func174 (congrArg some (by kernel_rfl)),
    f287 := Eq.trans Tryz.func233 (congrArg some (by kernel_rfl)), f316 := Eq.trans Tryz.func234 (congrArg some (by kernel_rfl)),
    f317 := Eq.trans Tryz.func221 (congrArg some (by kernel_rfl)), f318 := Eq.trans Tryz.func223 (congrArg some (by kernel_rfl)),
    f319 := Eq.trans Tryz.func224 (congrArg some (by kernel_rfl)), f320 := Eq.trans Tryz.func225 (congrArg some (by kernel_rfl)),
    f321 := Eq.trans Tryz.func292 (congrArg some (by kernel_rfl)), f322 := Eq.trans Tryz.func293 (congrArg some (by kernel_rfl)),
    f337 := Eq.trans Tryz.func286 (congrArg some (by kernel_rfl)), f338 := Eq.trans Tryz.func287 (congrArg some (by kernel_rfl)),
    t0 := Tryz.underlying0, a0 := Tryz.isAgg0, z0 := Tryz.sizeOf0, v0 := Tryz.zeroValue0, t2 := Tryz.underlying2, a2 := Tryz.isAgg2,
    z2 := Tryz.sizeOf2, v2 := Tryz.zeroValue2, t3 := Tryz.underlying3, a3 := Tryz.isAgg3, z3 := Tryz.sizeOf3, v3 := Tryz.zeroValue3,
    t4 := Tryz.underlying4, a4 := Tryz.isAgg4, z4 := Tryz.sizeOf4, v4 := Tryz.zeroValue4, t5 := Tryz.underlying5, a5 := Tryz.isAgg5,
    z5 := Tryz.sizeOf5, v5 := Tryz.zeroValue5, t9 := Tryz.underlying9, a9 := Tryz.isAgg9, z9 := Tryz.sizeOf9, v9 := Tryz.zeroValue9,
    t20 := Tryz.underlying20, a20 := Tryz.isAgg20, z20 := Tryz.sizeOf20, v20 := Tryz.zeroValue20, t21 := Tryz.underlying21, a21 := Tryz.isAgg21,
    z21 := Tryz.sizeOf21, v21 := Tryz.zeroValue21, t37 := Tryz.underlying47, a37 := Tryz.isAgg47, z37 := Tryz.sizeOf47, v37 := Tryz.zeroValue47,
    t46 := Tryz.underlying251, a46 := Tryz.isAgg251, z46 := Tryz.sizeOf251, v46 := Tryz.zeroValue251, t51 := Tryz.underlying258, a51 := Tryz.isAgg258,
    z51 := Tryz.sizeOf258, v51 := Tryz.zeroValue258, t53 := Tryz.underlying261, a53 := Tryz.isAgg261, z53 := Tryz.sizeOf261, v53 := Tryz.zeroValue261,
    t75 := Tryz.underlying52, a75 := Tryz.isAgg52, z75 := Tryz.sizeOf52, v75 := Tryz.zeroValue52, t76 := Tryz.underlying53, a76 := Tryz.isAgg53,
    z76 := Tryz.sizeOf53, v76 := Tryz.zeroValue53, t85 := Tryz.underlying273, a85 := Tryz.isAgg273, z85 := Tryz.sizeOf273, v85 := Tryz.zeroValue273,
    t127 := Tryz.underlying152, a127 := Tryz.isAgg152, z127 := Tryz.sizeOf152, v127 := Tryz.zeroValue152, t143 := Tryz.underlying400,
    a143 := Tryz.isAgg400, z143 := Tryz.sizeOf400, v143 := Tryz.zeroValue400, t145 := Tryz.underlying402, a145 := Tryz.isAgg402,
    z145 := Tryz.sizeOf402, v145 := Tryz.zeroValue402, t167 := Tryz.underlying272, a167 := Tryz.isAgg272, z167 := Tryz.sizeOf272,
    v167 := Tryz.zeroValue272, t168 := Tryz.underlying275, a168 := Tryz.isAgg275, z168 := Tryz.sizeOf275, v168 := Tryz.zeroValue275,
    t171 := Tryz.underlying260, a171 := Tryz.isAgg260, z171 := Tryz.sizeOf260, v171 := Tryz.zeroValue260, t173 := Tryz.underlying264,
    a173 := Tryz.isAgg264, z173 := Tryz.sizeOf264, v173 := Tryz.zeroValue264, t175 := Tryz.underlying333, a175 := Tryz.isAgg333,
    z175 := Tryz.sizeOf333, v175 := Tryz.zeroValue333, t210 := Tryz.underlying337, a210 := Tryz.isAgg337, z210 := Tryz.sizeOf337,
    v210 := Tryz.zeroValue337, t212 := Tryz.underlying329, a212 := Tryz.isAgg329, z212 := Tryz.sizeOf329, v212 := Tryz.zeroValue329,
    t213 := Tryz.underlying330, a213 := Tryz.isAgg330, z213 := Tryz.sizeOf330, t232 := Tryz.underlying436, a232 := Tryz.isAgg436,
    z232 := Tryz.sizeOf436, v232 := Tryz.zeroValue436, t233 := Tryz.underlying437, a233 := Tryz.isAgg437, z233 := Tryz.sizeOf437,
    v233 := Tryz.zeroValue437, g15 := by kernel_rfl, g16 := by kernel_rfl, g17 := by kernel_rfl, g18 := by kernel_rfl, g19 := by kernel_rfl }

def Tryz.l160_ren : Ren :=
  {
    f := fun
      | 160 => 73
      | 232 => 116
      | 231 => 115
      | 227 => 117
      | 234 => 119
      | 233 => 118
      | 236 => 121
      | 235 => 120
      | 228 => 180
      | 271 => 182
      | 151 => 181
      | 197 => 176
      | 120 => 232
      | 152 => 231
      | 260 => 226
      | 137 => 290
      | 119 => 291
      | 224 => 229
      | 225 => 228
      | 217 => 227
      | 266 => 288
      | n => n,
    t := fun
      | 9 => 9
      | 4 => 4
      | 3 => 3
      | 5 => 5
      | 117 => 199
      | 116 => 198
      | 0 => 0
      | 124 => 202
      | 21 => 21
      | 105 => 267
      | 46 => 251
      | 119 => 392
      | 139 => 395
      | 138 => 394
      | n => n,
    g := fun
      | 3 => 5
      | 4 => 6
      | n => n }
theorem Tryz.l160 : Lays.n160 Tryz.prog Tryz.l160_ren :=
  { mixed := by kernel_rfl, f119 := Eq.trans Tryz.func291 (congrArg some (by kernel_rfl)),
    f120 := Eq.trans Tryz.func232 (congrArg some (by kernel_rfl)), f137 := Eq.trans Tryz.func290 (congrArg some (by kernel_rfl)),
    f151 := Eq.trans Tryz.func181 (congrArg some (by kernel_rfl)), f152 := Eq.trans Tryz.func231 (congrArg some (by kernel_rfl)),
    f160 := Eq.trans Tryz.func73 (congrArg some (by kernel_rfl)), f197 := Eq.trans Tryz.func176 (congrArg some (by kernel_rfl)),
    f217 := Eq.trans Tryz.func227 (congrArg some (by kernel_rfl)), f224 := Eq.trans Tryz.func229 (congrArg some (by kernel_rfl)),
    f225 := Eq.trans Tryz.func228 (congrArg some (by kernel_rfl)), f227 := Eq.trans Tryz.func117 (congrArg some (by kernel_rfl)),
    f228 := Eq.trans Tryz.func180 (congrArg some (by kernel_rfl)), f231 := Eq.trans Tryz.func115 (congrArg some (by kernel_rfl)),
    f232 := Eq.trans Tryz.func116 (congrArg some (by kernel_rfl)), f233 := Eq.trans Tryz.func118 (congrArg some (by kernel_rfl)),
    f234 := Eq.trans Tryz.func119 (congrArg some (by kernel_rfl)), f235 := Eq.trans Tryz.func120 (congrArg some (by kernel_rfl)),
    f236 := Eq.trans Tryz.func121 (congrArg some (by kernel_rfl)), f260 := Eq.trans Tryz.func226 (congrArg some (by kernel_rfl)),
    f266 := Eq.trans Tryz.func288 (congrArg some (by kernel_rfl)), f271 := Eq.trans Tryz.func182 (congrArg some (by kernel_rfl)),
    t0 := Tryz.underlying0, a0 := Tryz.isAgg0, z0 := Tryz.sizeOf0, v0 := Tryz.zeroValue0, t3 := Tryz.underlying3, a3 := Tryz.isAgg3,
    z3 := Tryz.sizeOf3, v3 := Tryz.zeroValue3, t4 := Tryz.underlying4, a4 := Tryz.isAgg4, z4 := Tryz.sizeOf4, v4 := Tryz.zeroValue4,
    t5 := Tryz.underlying5, a5 := Tryz.isAgg5, z5 := Tryz.sizeOf5, v5 := Tryz.zeroValue5, t9 := Tryz.underlying9, a9 := Tryz.isAgg9,
    z9 := Tryz.sizeOf9, v9 := Tryz.zeroValue9, t21 := Tryz.underlying21, a21 := Tryz.isAgg21, z21 := Tryz.sizeOf21, v21 := Tryz.zeroValue21,
    t46 := Tryz.underlying251, a46 := Tryz.isAgg251, z46 := Tryz.sizeOf251, v46 := Tryz.zeroValue251, t105 := Tryz.underlying267,
    a105 := Tryz.isAgg267, z105 := Tryz.sizeOf267, v105 := Tryz.zeroValue267, t116 := Tryz.underlying198, a116 := Tryz.isAgg198,
    z116 := Tryz.sizeOf198, t117 := Tryz.underlying199, a117 := Tryz.isAgg199, z117 := Tryz.sizeOf199, v117 := Tryz.zeroValue199,
    t119 := Tryz.underlying392, a119 := Tryz.isAgg392, z119 := Tryz.sizeOf392, t124 := Tryz.underlying202, a124 := Tryz.isAgg202,
    z124 := Tryz.sizeOf202, v124 := Tryz.zeroValue202, t138 := Tryz.underlying394, a138 := Tryz.isAgg394, z138 := Tryz.sizeOf394,
    v138 := Tryz.zeroValue394, t139 := Tryz.underlying395, a139 := Tryz.isAgg395, z139 := Tryz.sizeOf395, v139 := Tryz.zeroValue395,
    g3 := by kernel_rfl, g4 := by kernel_rfl }

def Tryz.l103_ren : Ren :=
  {
    f := fun
      | 103 => 72
      | 210 => 114
      | 206 => 179
      | n => n,
    t := fun
      | 9 => 9
      | 4 => 4
      | 24 => 102
      | 3 => 3
      | n => n,
    g := fun x =>
      have n := x;
      n }
theorem Tryz.l103 : Lays.n103 Tryz.prog Tryz.l103_ren :=
  { mixed := by kernel_rfl, f103 := Eq.trans Tryz.func72 (congrArg some (by kernel_rfl)),
    f206 := Eq.trans Tryz.func179 (congrArg some (by kernel_rfl)), f210 := Eq.trans Tryz.func114 (congrArg some (by kernel_rfl)),
    t3 := Tryz.underlying3, a3 := Tryz.isAgg3, z3 := Tryz.sizeOf3, v3 := Tryz.zeroValue3, t4 := Tryz.underlying4, a4 := Tryz.isAgg4,
    z4 := Tryz.sizeOf4, v4 := Tryz.zeroValue4, t9 := Tryz.underlying9, a9 := Tryz.isAgg9, z9 := Tryz.sizeOf9, v9 := Tryz.zeroValue9,
    t24 := Tryz.underlying102, a24 := Tryz.isAgg102, z24 := Tryz.sizeOf102, v24 := Tryz.zeroValue102 }

def Tryz.l146_ren : Ren :=
  {
    f := fun
      | 146 => 33
      | 221 => 70
      | 268 => 111
      | 138 => 112
      | 143 => 113
      | 195 => 175
      | 197 => 176
      | 218 => 177
      | 219 => 178
      | 260 => 226
      | 217 => 227
      | 225 => 228
      | 224 => 229
      | 267 => 230
      | 266 => 288
      | 314 => 289
      | n => n,
    t := fun
      | 9 => 9
      | 31 => 25
      | 3 => 3
      | 4 => 4
      | 0 => 0
      | 105 => 267
      | 21 => 21
      | 5 => 5
      | 46 => 251
      | 119 => 392
      | 139 => 395
      | 138 => 394
      | 146 => 396
      | 51 => 258
      | n => n,
    g := fun
      | 1 => 1
      | 3 => 5
      | 4 => 6
      | n => n }
theorem Tryz.l146 : Lays.n146 Tryz.prog Tryz.l146_ren :=
  { mixed := by kernel_rfl, f138 := Eq.trans Tryz.func112 (congrArg some (by kernel_rfl)),
    f143 := Eq.trans Tryz.func113 (congrArg some (by kernel_rfl)), f146 := Eq.trans Tryz.func33 (congrArg some (by kernel_rfl)),
    f195 := Eq.trans Tryz.func175 (congrArg some (by kernel_rfl)), f197 := Eq.trans Tryz.func176 (congrArg some (by kernel_rfl)),
    f217 := Eq.trans Tryz.func227 (congrArg some (by kernel_rfl)), f218 := Eq.trans Tryz.func177 (congrArg some (by kernel_rfl)),
    f219 := Eq.trans Tryz.func178 (congrArg some (by kernel_rfl)), f221 := Eq.trans Tryz.func70 (congrArg some (by kernel_rfl)),
    f224 := Eq.trans Tryz.func229 (congrArg some (by kernel_rfl)), f225 := Eq.trans Tryz.func228 (congrArg some (by kernel_rfl)),
    f260 := Eq.trans Tryz.func226 (congrArg some (by kernel_rfl)), f266 := Eq.trans Tryz.func288 (congrArg some (by kernel_rfl)),
    f267 := Eq.trans Tryz.func230 (congrArg some (by kernel_rfl)), f268 := Eq.trans Tryz.func111 (congrArg some (by kernel_rfl)),
    f314 := Eq.trans Tryz.func289 (congrArg some (by kernel_rfl)), t0 := Tryz.underlying0, a0 := Tryz.isAgg0, z0 := Tryz.sizeOf0,
    v0 := Tryz.zeroValue0, t3 := Tryz.underlying3, a3 := Tryz.isAgg3, z3 := Tryz.sizeOf3, v3 := Tryz.zeroValue3, t4 := Tryz.underlying4,
    a4 := Tryz.isAgg4, z4 := Tryz.sizeOf4, v4 := Tryz.zeroValue4, t5 := Tryz.underlying5, a5 := Tryz.isAgg5, z5 := Tryz.sizeOf5, v5 := Tryz.zeroValue5,
    t9 := Tryz.underlying9, a9 := Tryz.isAgg9, z9 := Tryz.sizeOf9, v9 := Tryz.zeroValue9, t21 := Tryz.underlying21, a21 := Tryz.isAgg21,
    z21 := Tryz.sizeOf21, v21 := Tryz.zeroValue21, t31 := Tryz.underlying25, a31 := Tryz.isAgg25, z31 := Tryz.sizeOf25, v31 := Tryz.zeroValue25,
    t46 := Tryz.underlying251, a46 := Tryz.isAgg251, z46 := Tryz.sizeOf251, v46 := Tryz.zeroValue251, t51 := Tryz.underlying258, a51 := Tryz.isAgg258,
    z51 := Tryz.sizeOf258, v51 := Tryz.zeroValue258, t105 := Tryz.underlying267, a105 := Tryz.isAgg267, z105 := Tryz.sizeOf267,
    v105 := Tryz.zeroValue267, t119 := Tryz.underlying392, a119 := Tryz.isAgg392, z119 := Tryz.sizeOf392, t138 := Tryz.underlying394,
    a138 := Tryz.isAgg394, z138 := Tryz.sizeOf394, v138 := Tryz.zeroValue394, t139 := Tryz.underlying395, a139 := Tryz.isAgg395,
    z139 := Tryz.sizeOf395, v139 := Tryz.zeroValue395, t146 := Tryz.underlying396, a146 := Tryz.isAgg396, z146 := Tryz.sizeOf396,
    v146 := Tryz.zeroValue396, g1 := by kernel_rfl, g3 := by kernel_rfl, g4 := by kernel_rfl }

end Go.Proofs
