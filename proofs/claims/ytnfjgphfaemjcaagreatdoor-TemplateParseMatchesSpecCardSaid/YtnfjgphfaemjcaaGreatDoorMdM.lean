/- That the library texts at this seat are those that the contracts of the shelf speak of; no condition. -/
import Derived.Shelf.Strings.Fields
import Derived.Shelf.Strconv.Itoa3
import Derived.Shelf.Strings.OnBuilder
import Derived.Test.YtnfjgphfaemjcaaGreatDoorProg
import Derived.Shelf.Strings.Split
import Derived.Shelf.Strings.Cut
import Derived.Shelf.Strings.Prefix
import Derived.Shelf.Strings.Search3
import Derived.Shelf.Strconv.AtoiAll
import Derived.Shelf.Strings.Replace
import Derived.Shelf.Strings.RuneCount
import Derived.Lib.LaidU8
import Derived.Test.YtnfjgphfaemjcaaGreatDoorMgA
import Derived.Test.YtnfjgphfaemjcaaGreatDoorMgJ
import Derived.Test.YtnfjgphfaemjcaaGreatDoorAdE
import Derived.Lib.AppendIntMem
import Derived.Lib.AtoiAllCases
import Derived.Lib.ItoaLen
import Derived.Lib.Split
import Derived.Lib.SplitLaws
import Derived.Lib.ValidLaws
set_option linter.all false
namespace Go.Proofs.YtnfjgphfaemjcaaGreatDoor
open Go.Shelf
def Rz : Go.Shelf.Ren := ⟨fun | 171 => 65 | 243 => 103 | 246 => 141 | 283 => 174 | 284 => 175 | 285 => 176 | 286 => 177 | 129 => 201 | 317 => 200 | 318 => 202 | 319 => 203 | 320 => 204 | 337 => 217 | 338 => 218 | n => n, fun | 3 => 3 | 9 => 9 | 2 => 2 | 4 => 4 | 171 => 197 | 0 => 0 | 53 => 198 | 37 => 84 | 5 => 5 | 173 => 201 | 212 => 228 | 51 => 185 | 20 => 20 | 213 => 229 | 46 => 157 | 232 => 254 | 233 => 255 | n => n, fun | 17 => 3 | 18 => 8 | 19 => 9 | n => n⟩
theorem Y9 : Go.Proofs.LaysM.n171 Tryz.prog Rz := {
 mixed := by kernel_rfl
 f129 := Tryz.func201.trans (congrArg some (by kernel_rfl))
 f171 := Tryz.func65.trans (congrArg some (by kernel_rfl))
 f243 := Tryz.func103.trans (congrArg some (by kernel_rfl))
 f246 := Tryz.func141.trans (congrArg some (by kernel_rfl))
 f283 := Tryz.func174.trans (congrArg some (by kernel_rfl))
 f284 := Tryz.func175.trans (congrArg some (by kernel_rfl))
 f285 := Tryz.func176.trans (congrArg some (by kernel_rfl))
 f286 := Tryz.func177.trans (congrArg some (by kernel_rfl))
 f317 := Tryz.func200.trans (congrArg some (by kernel_rfl))
 f318 := Tryz.func202.trans (congrArg some (by kernel_rfl))
 f319 := Tryz.func203.trans (congrArg some (by kernel_rfl))
 f320 := Tryz.func204.trans (congrArg some (by kernel_rfl))
 f337 := Tryz.func217.trans (congrArg some (by kernel_rfl))
 f338 := Tryz.func218.trans (congrArg some (by kernel_rfl))
 t0 := Tryz.underlying0
 a0 := Tryz.isAgg0
 z0 := Tryz.sizeOf0
 v0 := Tryz.zeroValue0
 t2 := Tryz.underlying2
 a2 := Tryz.isAgg2
 z2 := Tryz.sizeOf2
 v2 := Tryz.zeroValue2
 t3 := Tryz.underlying3
 a3 := Tryz.isAgg3
 z3 := Tryz.sizeOf3
 v3 := Tryz.zeroValue3
 t4 := Tryz.underlying4
 a4 := Tryz.isAgg4
 z4 := Tryz.sizeOf4
 v4 := Tryz.zeroValue4
 t5 := Tryz.underlying5
 a5 := Tryz.isAgg5
 z5 := Tryz.sizeOf5
 v5 := Tryz.zeroValue5
 t9 := Tryz.underlying9
 a9 := Tryz.isAgg9
 z9 := Tryz.sizeOf9
 v9 := Tryz.zeroValue9
 t20 := Tryz.underlying20
 a20 := Tryz.isAgg20
 z20 := Tryz.sizeOf20
 v20 := Tryz.zeroValue20
 t37 := Tryz.underlying84
 a37 := Tryz.isAgg84
 z37 := Tryz.sizeOf84
 v37 := Tryz.zeroValue84
 t46 := Tryz.underlying157
 a46 := Tryz.isAgg157
 z46 := Tryz.sizeOf157
 v46 := Tryz.zeroValue157
 t51 := Tryz.underlying185
 a51 := Tryz.isAgg185
 z51 := Tryz.sizeOf185
 v51 := Tryz.zeroValue185
 t53 := Tryz.underlying198
 a53 := Tryz.isAgg198
 z53 := Tryz.sizeOf198
 v53 := Tryz.zeroValue198
 t171 := Tryz.underlying197
 a171 := Tryz.isAgg197
 z171 := Tryz.sizeOf197
 v171 := Tryz.zeroValue197
 t173 := Tryz.underlying201
 a173 := Tryz.isAgg201
 z173 := Tryz.sizeOf201
 v173 := Tryz.zeroValue201
 t212 := Tryz.underlying228
 a212 := Tryz.isAgg228
 z212 := Tryz.sizeOf228
 v212 := Tryz.zeroValue228
 t213 := Tryz.underlying229
 a213 := Tryz.isAgg229
 z213 := Tryz.sizeOf229
 t232 := Tryz.underlying254
 a232 := Tryz.isAgg254
 z232 := Tryz.sizeOf254
 v232 := Tryz.zeroValue254
 t233 := Tryz.underlying255
 a233 := Tryz.isAgg255
 z233 := Tryz.sizeOf255
 v233 := Tryz.zeroValue255
 g17 := by kernel_rfl
 g18 := by kernel_rfl
 g19 := by kernel_rfl
 i0 := by kernel_rfl
 i2 := by kernel_rfl
 i3 := by kernel_rfl
 i4 := by kernel_rfl
 i5 := by kernel_rfl
 i9 := by kernel_rfl
 i20 := by kernel_rfl
 i37 := by kernel_rfl
 i46 := by kernel_rfl
 i51 := by kernel_rfl
 i53 := by kernel_rfl
 i171 := by kernel_rfl
 i173 := by kernel_rfl
 i212 := by kernel_rfl
 i232 := by kernel_rfl
 i233 := by kernel_rfl
 m17 := by kernel_rfl
 m18 := by kernel_rfl
 m19 := by kernel_rfl }
def N9 : Go.Shelf.Ren := ⟨fun | 156 => 52 | 165 => 90 | 166 => 62 | 169 => 47 | 240 => 101 | 241 => 129 | 276 => 138 | 277 => 164 | n => n, fun | 31 => 35 | 9 => 9 | 3 => 3 | 4 => 4 | 0 => 0 | 20 => 20 | 72 => 86 | 76 => 114 | 70 => 83 | 37 => 84 | 75 => 113 | 127 => 139 | 164 => 178 | 5 => 5 | 80 => 90 | n => n, fun | n => n⟩
theorem W5 : Go.Proofs.Lays.n156 Tryz.prog N9 := {
 mixed := by kernel_rfl
 f156 := Tryz.func52.trans (congrArg some (by kernel_rfl))
 f165 := Tryz.func90.trans (congrArg some (by kernel_rfl))
 f166 := Tryz.func62.trans (congrArg some (by kernel_rfl))
 f169 := Tryz.func47.trans (congrArg some (by kernel_rfl))
 f240 := Tryz.func101.trans (congrArg some (by kernel_rfl))
 f241 := Tryz.func129.trans (congrArg some (by kernel_rfl))
 f276 := Tryz.func138.trans (congrArg some (by kernel_rfl))
 f277 := Tryz.func164.trans (congrArg some (by kernel_rfl))
 t0 := Tryz.underlying0
 a0 := Tryz.isAgg0
 z0 := Tryz.sizeOf0
 v0 := Tryz.zeroValue0
 t3 := Tryz.underlying3
 a3 := Tryz.isAgg3
 z3 := Tryz.sizeOf3
 v3 := Tryz.zeroValue3
 t4 := Tryz.underlying4
 a4 := Tryz.isAgg4
 z4 := Tryz.sizeOf4
 v4 := Tryz.zeroValue4
 t9 := Tryz.underlying9
 a9 := Tryz.isAgg9
 z9 := Tryz.sizeOf9
 v9 := Tryz.zeroValue9
 t20 := Tryz.underlying20
 a20 := Tryz.isAgg20
 z20 := Tryz.sizeOf20
 v20 := Tryz.zeroValue20
 t31 := Tryz.underlying35
 a31 := Tryz.isAgg35
 z31 := Tryz.sizeOf35
 v31 := Tryz.zeroValue35
 t37 := Tryz.underlying84
 a37 := Tryz.isAgg84
 z37 := Tryz.sizeOf84
 v37 := Tryz.zeroValue84
 t70 := Tryz.underlying83
 a70 := Tryz.isAgg83
 z70 := Tryz.sizeOf83
 v70 := Tryz.zeroValue83
 t72 := Tryz.underlying86
 a72 := Tryz.isAgg86
 z72 := Tryz.sizeOf86
 v72 := Tryz.zeroValue86
 t75 := Tryz.underlying113
 a75 := Tryz.isAgg113
 z75 := Tryz.sizeOf113
 v75 := Tryz.zeroValue113
 t76 := Tryz.underlying114
 a76 := Tryz.isAgg114
 z76 := Tryz.sizeOf114
 v76 := Tryz.zeroValue114
 t127 := Tryz.underlying139
 a127 := Tryz.isAgg139
 z127 := Tryz.sizeOf139
 v127 := Tryz.zeroValue139
 t164 := Tryz.underlying178
 a164 := Tryz.isAgg178
 z164 := Tryz.sizeOf178
 v164 := Tryz.zeroValue178 }
theorem Gg : Builder.Extra Tryz.prog N9 := {
 sizeBuilder := by kernel_rfl
 liesBuilder := by kernel_rfl
 t5 := Tryz.underlying5
 a5 := Tryz.isAgg5
 z5 := Tryz.sizeOf5
 v5 := Tryz.zeroValue5
 infoByte := by kernel_rfl
 cellsByte := by kernel_rfl
 sizeByte := by kernel_rfl
 neB5 := by decide }
def Ty : Go.Shelf.Ren := ⟨fun | 157 => 178 | 229 => 205 | 199 => 206 | 261 => 219 | 311 => 224 | 312 => 225 | n => n, fun | 9 => 9 | 31 => 35 | 3 => 3 | 5 => 5 | 4 => 4 | 119 => 211 | 0 => 0 | 40 => 233 | 152 => 244 | 21 => 21 | 154 => 246 | 51 => 185 | 141 => 248 | 196 => 259 | 193 => 256 | 198 => 262 | 49 => 260 | 194 => 257 | 201 => 265 | 226 => 267 | 46 => 157 | 227 => 268 | n => n, fun | 0 => 4 | 6 => 7 | n => n⟩
theorem A0f : Go.Proofs.Lays.n157 Tryz.prog Ty := {
 mixed := by kernel_rfl
 f157 := Tryz.func178.trans (congrArg some (by kernel_rfl))
 f199 := Tryz.func206.trans (congrArg some (by kernel_rfl))
 f229 := Tryz.func205.trans (congrArg some (by kernel_rfl))
 f261 := Tryz.func219.trans (congrArg some (by kernel_rfl))
 f311 := Tryz.func224.trans (congrArg some (by kernel_rfl))
 f312 := Tryz.func225.trans (congrArg some (by kernel_rfl))
 t0 := Tryz.underlying0
 a0 := Tryz.isAgg0
 z0 := Tryz.sizeOf0
 v0 := Tryz.zeroValue0
 t3 := Tryz.underlying3
 a3 := Tryz.isAgg3
 z3 := Tryz.sizeOf3
 v3 := Tryz.zeroValue3
 t4 := Tryz.underlying4
 a4 := Tryz.isAgg4
 z4 := Tryz.sizeOf4
 v4 := Tryz.zeroValue4
 t5 := Tryz.underlying5
 a5 := Tryz.isAgg5
 z5 := Tryz.sizeOf5
 v5 := Tryz.zeroValue5
 t9 := Tryz.underlying9
 a9 := Tryz.isAgg9
 z9 := Tryz.sizeOf9
 v9 := Tryz.zeroValue9
 t21 := Tryz.underlying21
 a21 := Tryz.isAgg21
 z21 := Tryz.sizeOf21
 v21 := Tryz.zeroValue21
 t31 := Tryz.underlying35
 a31 := Tryz.isAgg35
 z31 := Tryz.sizeOf35
 v31 := Tryz.zeroValue35
 t40 := Tryz.underlying233
 a40 := Tryz.isAgg233
 z40 := Tryz.sizeOf233
 v40 := Tryz.zeroValue233
 t46 := Tryz.underlying157
 a46 := Tryz.isAgg157
 z46 := Tryz.sizeOf157
 v46 := Tryz.zeroValue157
 t49 := Tryz.underlying260
 a49 := Tryz.isAgg260
 z49 := Tryz.sizeOf260
 v49 := Tryz.zeroValue260
 t51 := Tryz.underlying185
 a51 := Tryz.isAgg185
 z51 := Tryz.sizeOf185
 v51 := Tryz.zeroValue185
 t119 := Tryz.underlying211
 a119 := Tryz.isAgg211
 z119 := Tryz.sizeOf211
 t141 := Tryz.underlying248
 a141 := Tryz.isAgg248
 z141 := Tryz.sizeOf248
 v141 := Tryz.zeroValue248
 t152 := Tryz.underlying244
 a152 := Tryz.isAgg244
 z152 := Tryz.sizeOf244
 v152 := Tryz.zeroValue244
 t154 := Tryz.underlying246
 a154 := Tryz.isAgg246
 z154 := Tryz.sizeOf246
 v154 := Tryz.zeroValue246
 t193 := Tryz.underlying256
 a193 := Tryz.isAgg256
 z193 := Tryz.sizeOf256
 v193 := Tryz.zeroValue256
 t194 := Tryz.underlying257
 a194 := Tryz.isAgg257
 z194 := Tryz.sizeOf257
 v194 := Tryz.zeroValue257
 t196 := Tryz.underlying259
 a196 := Tryz.isAgg259
 z196 := Tryz.sizeOf259
 v196 := Tryz.zeroValue259
 t198 := Tryz.underlying262
 a198 := Tryz.isAgg262
 z198 := Tryz.sizeOf262
 v198 := Tryz.zeroValue262
 t201 := Tryz.underlying265
 a201 := Tryz.isAgg265
 z201 := Tryz.sizeOf265
 v201 := Tryz.zeroValue265
 t226 := Tryz.underlying267
 a226 := Tryz.isAgg267
 z226 := Tryz.sizeOf267
 v226 := Tryz.zeroValue267
 t227 := Tryz.underlying268
 a227 := Tryz.isAgg268
 z227 := Tryz.sizeOf268
 v227 := Tryz.zeroValue268
 g0 := by kernel_rfl
 g6 := by kernel_rfl }
open Go.Shelf
def T1 : Go.Shelf.Ren := ⟨fun | 145 => 41 | 220 => 71 | 219 => 69 | 217 => 109 | 225 => 110 | 224 => 111 | 267 => 112 | 266 => 149 | 314 => 150 | n => n, fun | 9 => 9 | 4 => 4 | 59 => 77 | 3 => 3 | 5 => 5 | 46 => 157 | 146 => 186 | 51 => 185 | n => n, fun | 1 => 0 | n => n⟩
theorem A0i : Go.Proofs.Lays.n145 Tryz.prog T1 := {
 mixed := by kernel_rfl
 f145 := Tryz.func41.trans (congrArg some (by kernel_rfl))
 f217 := Tryz.func109.trans (congrArg some (by kernel_rfl))
 f219 := Tryz.func69.trans (congrArg some (by kernel_rfl))
 f220 := Tryz.func71.trans (congrArg some (by kernel_rfl))
 f224 := Tryz.func111.trans (congrArg some (by kernel_rfl))
 f225 := Tryz.func110.trans (congrArg some (by kernel_rfl))
 f266 := Tryz.func149.trans (congrArg some (by kernel_rfl))
 f267 := Tryz.func112.trans (congrArg some (by kernel_rfl))
 f314 := Tryz.func150.trans (congrArg some (by kernel_rfl))
 t3 := Tryz.underlying3
 a3 := Tryz.isAgg3
 z3 := Tryz.sizeOf3
 v3 := Tryz.zeroValue3
 t4 := Tryz.underlying4
 a4 := Tryz.isAgg4
 z4 := Tryz.sizeOf4
 v4 := Tryz.zeroValue4
 t5 := Tryz.underlying5
 a5 := Tryz.isAgg5
 z5 := Tryz.sizeOf5
 v5 := Tryz.zeroValue5
 t9 := Tryz.underlying9
 a9 := Tryz.isAgg9
 z9 := Tryz.sizeOf9
 v9 := Tryz.zeroValue9
 t46 := Tryz.underlying157
 a46 := Tryz.isAgg157
 z46 := Tryz.sizeOf157
 v46 := Tryz.zeroValue157
 t51 := Tryz.underlying185
 a51 := Tryz.isAgg185
 z51 := Tryz.sizeOf185
 v51 := Tryz.zeroValue185
 t59 := Tryz.underlying77
 a59 := Tryz.isAgg77
 z59 := Tryz.sizeOf77
 v59 := Tryz.zeroValue77
 t146 := Tryz.underlying186
 a146 := Tryz.isAgg186
 z146 := Tryz.sizeOf186
 v146 := Tryz.zeroValue186
 g1 := by kernel_rfl }
def TZ : Go.Shelf.Ren := ⟨fun | 146 => 73 | 221 => 113 | 268 => 151 | 138 => 139 | 143 => 39 | 195 => 171 | 197 => 140 | 218 => 172 | 219 => 69 | 260 => 173 | 217 => 109 | 225 => 110 | 224 => 111 | 267 => 112 | 266 => 149 | 314 => 150 | n => n, fun | 9 => 9 | 31 => 35 | 3 => 3 | 4 => 4 | 0 => 0 | 105 => 180 | 21 => 21 | 5 => 5 | 46 => 157 | 119 => 211 | 139 => 214 | 138 => 213 | 146 => 186 | 51 => 185 | n => n, fun | 1 => 0 | 3 => 1 | 4 => 2 | n => n⟩
theorem Zh : Go.Proofs.Lays.n146 Tryz.prog TZ := {
 mixed := by kernel_rfl
 f138 := Tryz.func139.trans (congrArg some (by kernel_rfl))
 f143 := Tryz.func39.trans (congrArg some (by kernel_rfl))
 f146 := Tryz.func73.trans (congrArg some (by kernel_rfl))
 f195 := Tryz.func171.trans (congrArg some (by kernel_rfl))
 f197 := Tryz.func140.trans (congrArg some (by kernel_rfl))
 f217 := Tryz.func109.trans (congrArg some (by kernel_rfl))
 f218 := Tryz.func172.trans (congrArg some (by kernel_rfl))
 f219 := Tryz.func69.trans (congrArg some (by kernel_rfl))
 f221 := Tryz.func113.trans (congrArg some (by kernel_rfl))
 f224 := Tryz.func111.trans (congrArg some (by kernel_rfl))
 f225 := Tryz.func110.trans (congrArg some (by kernel_rfl))
 f260 := Tryz.func173.trans (congrArg some (by kernel_rfl))
 f266 := Tryz.func149.trans (congrArg some (by kernel_rfl))
 f267 := Tryz.func112.trans (congrArg some (by kernel_rfl))
 f268 := Tryz.func151.trans (congrArg some (by kernel_rfl))
 f314 := Tryz.func150.trans (congrArg some (by kernel_rfl))
 t0 := Tryz.underlying0
 a0 := Tryz.isAgg0
 z0 := Tryz.sizeOf0
 v0 := Tryz.zeroValue0
 t3 := Tryz.underlying3
 a3 := Tryz.isAgg3
 z3 := Tryz.sizeOf3
 v3 := Tryz.zeroValue3
 t4 := Tryz.underlying4
 a4 := Tryz.isAgg4
 z4 := Tryz.sizeOf4
 v4 := Tryz.zeroValue4
 t5 := Tryz.underlying5
 a5 := Tryz.isAgg5
 z5 := Tryz.sizeOf5
 v5 := Tryz.zeroValue5
 t9 := Tryz.underlying9
 a9 := Tryz.isAgg9
 z9 := Tryz.sizeOf9
 v9 := Tryz.zeroValue9
 t21 := Tryz.underlying21
 a21 := Tryz.isAgg21
 z21 := Tryz.sizeOf21
 v21 := Tryz.zeroValue21
 t31 := Tryz.underlying35
 a31 := Tryz.isAgg35
 z31 := Tryz.sizeOf35
 v31 := Tryz.zeroValue35
 t46 := Tryz.underlying157
 a46 := Tryz.isAgg157
 z46 := Tryz.sizeOf157
 v46 := Tryz.zeroValue157
 t51 := Tryz.underlying185
 a51 := Tryz.isAgg185
 z51 := Tryz.sizeOf185
 v51 := Tryz.zeroValue185
 t105 := Tryz.underlying180
 a105 := Tryz.isAgg180
 z105 := Tryz.sizeOf180
 v105 := Tryz.zeroValue180
 t119 := Tryz.underlying211
 a119 := Tryz.isAgg211
 z119 := Tryz.sizeOf211
 t138 := Tryz.underlying213
 a138 := Tryz.isAgg213
 z138 := Tryz.sizeOf213
 v138 := Tryz.zeroValue213
 t139 := Tryz.underlying214
 a139 := Tryz.isAgg214
 z139 := Tryz.sizeOf214
 v139 := Tryz.zeroValue214
 t146 := Tryz.underlying186
 a146 := Tryz.isAgg186
 z146 := Tryz.sizeOf186
 v146 := Tryz.zeroValue186
 g1 := by kernel_rfl
 g3 := by kernel_rfl
 g4 := by kernel_rfl }
def TG : Go.Shelf.Ren := ⟨fun | 143 => 39 | 219 => 69 | 217 => 109 | 225 => 110 | 224 => 111 | 267 => 112 | 266 => 149 | 314 => 150 | n => n, fun | 9 => 9 | 3 => 3 | 4 => 4 | 5 => 5 | 46 => 157 | 146 => 186 | 51 => 185 | n => n, fun | 1 => 0 | n => n⟩
theorem Zj : Go.Proofs.Lays.n143 Tryz.prog TG := {
 mixed := by kernel_rfl
 f143 := Tryz.func39.trans (congrArg some (by kernel_rfl))
 f217 := Tryz.func109.trans (congrArg some (by kernel_rfl))
 f219 := Tryz.func69.trans (congrArg some (by kernel_rfl))
 f224 := Tryz.func111.trans (congrArg some (by kernel_rfl))
 f225 := Tryz.func110.trans (congrArg some (by kernel_rfl))
 f266 := Tryz.func149.trans (congrArg some (by kernel_rfl))
 f267 := Tryz.func112.trans (congrArg some (by kernel_rfl))
 f314 := Tryz.func150.trans (congrArg some (by kernel_rfl))
 t3 := Tryz.underlying3
 a3 := Tryz.isAgg3
 z3 := Tryz.sizeOf3
 v3 := Tryz.zeroValue3
 t4 := Tryz.underlying4
 a4 := Tryz.isAgg4
 z4 := Tryz.sizeOf4
 v4 := Tryz.zeroValue4
 t5 := Tryz.underlying5
 a5 := Tryz.isAgg5
 z5 := Tryz.sizeOf5
 v5 := Tryz.zeroValue5
 t9 := Tryz.underlying9
 a9 := Tryz.isAgg9
 z9 := Tryz.sizeOf9
 v9 := Tryz.zeroValue9
 t46 := Tryz.underlying157
 a46 := Tryz.isAgg157
 z46 := Tryz.sizeOf157
 v46 := Tryz.zeroValue157
 t51 := Tryz.underlying185
 a51 := Tryz.isAgg185
 z51 := Tryz.sizeOf185
 v51 := Tryz.zeroValue185
 t146 := Tryz.underlying186
 a146 := Tryz.isAgg186
 z146 := Tryz.sizeOf186
 v146 := Tryz.zeroValue186
 g1 := by kernel_rfl }
def S7 : Go.Shelf.Ren := ⟨fun | 172 => 115 | 244 => 152 | 245 => 153 | 247 => 180 | 279 => 181 | 280 => 182 | 281 => 183 | 282 => 184 | 287 => 207 | 316 => 208 | 171 => 65 | 205 => 209 | 321 => 220 | 322 => 221 | 243 => 103 | 246 => 141 | 283 => 174 | 284 => 175 | 285 => 176 | 286 => 177 | 129 => 201 | 317 => 200 | 318 => 202 | 319 => 203 | 320 => 204 | 337 => 217 | 338 => 218 | n => n, fun | 9 => 9 | 3 => 3 | 75 => 113 | 76 => 114 | 4 => 4 | 5 => 5 | 167 => 204 | 37 => 84 | 0 => 0 | 85 => 205 | 2 => 2 | 168 => 207 | 53 => 198 | 175 => 234 | 46 => 157 | 210 => 237 | 127 => 139 | 145 => 252 | 143 => 250 | 21 => 21 | 171 => 197 | 173 => 201 | 212 => 228 | 51 => 185 | 20 => 20 | 213 => 229 | 232 => 254 | 233 => 255 | 80 => 90 | n => n, fun | 15 => 5 | 16 => 6 | 17 => 3 | 18 => 8 | 19 => 9 | n => n⟩
theorem PR : Go.Proofs.LaysC.n172 Tryz.prog S7 := {
 mixed := by kernel_rfl
 f129 := Tryz.func201.trans (congrArg some (by kernel_rfl))
 f171 := Tryz.func65.trans (congrArg some (by kernel_rfl))
 f172 := Tryz.func115.trans (congrArg some (by kernel_rfl))
 f205 := Tryz.func209.trans (congrArg some (by kernel_rfl))
 f243 := Tryz.func103.trans (congrArg some (by kernel_rfl))
 f244 := Tryz.func152.trans (congrArg some (by kernel_rfl))
 f245 := Tryz.func153.trans (congrArg some (by kernel_rfl))
 f246 := Tryz.func141.trans (congrArg some (by kernel_rfl))
 f247 := Tryz.func180.trans (congrArg some (by kernel_rfl))
 f279 := Tryz.func181.trans (congrArg some (by kernel_rfl))
 f280 := Tryz.func182.trans (congrArg some (by kernel_rfl))
 f281 := Tryz.func183.trans (congrArg some (by kernel_rfl))
 f282 := Tryz.func184.trans (congrArg some (by kernel_rfl))
 f283 := Tryz.func174.trans (congrArg some (by kernel_rfl))
 f284 := Tryz.func175.trans (congrArg some (by kernel_rfl))
 f285 := Tryz.func176.trans (congrArg some (by kernel_rfl))
 f286 := Tryz.func177.trans (congrArg some (by kernel_rfl))
 f287 := Tryz.func207.trans (congrArg some (by kernel_rfl))
 f316 := Tryz.func208.trans (congrArg some (by kernel_rfl))
 f317 := Tryz.func200.trans (congrArg some (by kernel_rfl))
 f318 := Tryz.func202.trans (congrArg some (by kernel_rfl))
 f319 := Tryz.func203.trans (congrArg some (by kernel_rfl))
 f320 := Tryz.func204.trans (congrArg some (by kernel_rfl))
 f321 := Tryz.func220.trans (congrArg some (by kernel_rfl))
 f322 := Tryz.func221.trans (congrArg some (by kernel_rfl))
 f337 := Tryz.func217.trans (congrArg some (by kernel_rfl))
 f338 := Tryz.func218.trans (congrArg some (by kernel_rfl))
 t0 := Tryz.underlying0
 a0 := Tryz.isAgg0
 z0 := Tryz.sizeOf0
 v0 := Tryz.zeroValue0
 t2 := Tryz.underlying2
 a2 := Tryz.isAgg2
 z2 := Tryz.sizeOf2
 v2 := Tryz.zeroValue2
 t3 := Tryz.underlying3
 a3 := Tryz.isAgg3
 z3 := Tryz.sizeOf3
 v3 := Tryz.zeroValue3
 t4 := Tryz.underlying4
 a4 := Tryz.isAgg4
 z4 := Tryz.sizeOf4
 v4 := Tryz.zeroValue4
 t5 := Tryz.underlying5
 a5 := Tryz.isAgg5
 z5 := Tryz.sizeOf5
 v5 := Tryz.zeroValue5
 t9 := Tryz.underlying9
 a9 := Tryz.isAgg9
 z9 := Tryz.sizeOf9
 v9 := Tryz.zeroValue9
 t20 := Tryz.underlying20
 a20 := Tryz.isAgg20
 z20 := Tryz.sizeOf20
 v20 := Tryz.zeroValue20
 t21 := Tryz.underlying21
 a21 := Tryz.isAgg21
 z21 := Tryz.sizeOf21
 v21 := Tryz.zeroValue21
 t37 := Tryz.underlying84
 a37 := Tryz.isAgg84
 z37 := Tryz.sizeOf84
 v37 := Tryz.zeroValue84
 t46 := Tryz.underlying157
 a46 := Tryz.isAgg157
 z46 := Tryz.sizeOf157
 v46 := Tryz.zeroValue157
 t51 := Tryz.underlying185
 a51 := Tryz.isAgg185
 z51 := Tryz.sizeOf185
 v51 := Tryz.zeroValue185
 t53 := Tryz.underlying198
 a53 := Tryz.isAgg198
 z53 := Tryz.sizeOf198
 v53 := Tryz.zeroValue198
 t75 := Tryz.underlying113
 a75 := Tryz.isAgg113
 z75 := Tryz.sizeOf113
 v75 := Tryz.zeroValue113
 t76 := Tryz.underlying114
 a76 := Tryz.isAgg114
 z76 := Tryz.sizeOf114
 v76 := Tryz.zeroValue114
 t85 := Tryz.underlying205
 a85 := Tryz.isAgg205
 z85 := Tryz.sizeOf205
 v85 := Tryz.zeroValue205
 t127 := Tryz.underlying139
 a127 := Tryz.isAgg139
 z127 := Tryz.sizeOf139
 v127 := Tryz.zeroValue139
 t143 := Tryz.underlying250
 a143 := Tryz.isAgg250
 z143 := Tryz.sizeOf250
 v143 := Tryz.zeroValue250
 t145 := Tryz.underlying252
 a145 := Tryz.isAgg252
 z145 := Tryz.sizeOf252
 v145 := Tryz.zeroValue252
 t167 := Tryz.underlying204
 a167 := Tryz.isAgg204
 z167 := Tryz.sizeOf204
 v167 := Tryz.zeroValue204
 t168 := Tryz.underlying207
 a168 := Tryz.isAgg207
 z168 := Tryz.sizeOf207
 v168 := Tryz.zeroValue207
 t171 := Tryz.underlying197
 a171 := Tryz.isAgg197
 z171 := Tryz.sizeOf197
 v171 := Tryz.zeroValue197
 t173 := Tryz.underlying201
 a173 := Tryz.isAgg201
 z173 := Tryz.sizeOf201
 v173 := Tryz.zeroValue201
 t175 := Tryz.underlying234
 a175 := Tryz.isAgg234
 z175 := Tryz.sizeOf234
 v175 := Tryz.zeroValue234
 t210 := Tryz.underlying237
 a210 := Tryz.isAgg237
 z210 := Tryz.sizeOf237
 v210 := Tryz.zeroValue237
 t212 := Tryz.underlying228
 a212 := Tryz.isAgg228
 z212 := Tryz.sizeOf228
 v212 := Tryz.zeroValue228
 t213 := Tryz.underlying229
 a213 := Tryz.isAgg229
 z213 := Tryz.sizeOf229
 t232 := Tryz.underlying254
 a232 := Tryz.isAgg254
 z232 := Tryz.sizeOf254
 v232 := Tryz.zeroValue254
 t233 := Tryz.underlying255
 a233 := Tryz.isAgg255
 z233 := Tryz.sizeOf255
 v233 := Tryz.zeroValue255
 g15 := by kernel_rfl
 g16 := by kernel_rfl
 g17 := by kernel_rfl
 g18 := by kernel_rfl
 g19 := by kernel_rfl
 t80 := Tryz.underlying90
 a80 := Tryz.isAgg90
 z80 := Tryz.sizeOf90
 v80 := Tryz.zeroValue90
 i0 := by kernel_rfl
 i2 := by kernel_rfl
 i3 := by kernel_rfl
 i4 := by kernel_rfl
 i5 := by kernel_rfl
 i9 := by kernel_rfl
 i20 := by kernel_rfl
 i21 := by kernel_rfl
 i37 := by kernel_rfl
 i46 := by kernel_rfl
 i51 := by kernel_rfl
 i53 := by kernel_rfl
 i75 := by kernel_rfl
 i76 := by kernel_rfl
 i80 := by kernel_rfl
 i85 := by kernel_rfl
 i127 := by kernel_rfl
 i143 := by kernel_rfl
 i145 := by kernel_rfl
 i167 := by kernel_rfl
 i168 := by kernel_rfl
 i171 := by kernel_rfl
 i173 := by kernel_rfl
 i175 := by kernel_rfl
 i210 := by kernel_rfl
 i212 := by kernel_rfl
 i232 := by kernel_rfl
 i233 := by kernel_rfl
 m15 := by kernel_rfl
 m16 := by kernel_rfl
 m17 := by kernel_rfl
 m18 := by kernel_rfl
 m19 := by kernel_rfl
 c0 := by kernel_rfl
 c2 := by kernel_rfl
 c3 := by kernel_rfl
 c4 := by kernel_rfl
 c5 := by kernel_rfl
 c9 := by kernel_rfl
 c20 := by kernel_rfl
 c21 := by kernel_rfl
 c37 := by kernel_rfl
 c46 := by kernel_rfl
 c51 := by kernel_rfl
 c53 := by kernel_rfl
 c75 := by kernel_rfl
 c76 := by kernel_rfl
 c80 := by kernel_rfl
 c85 := by kernel_rfl
 c127 := by kernel_rfl
 c143 := by kernel_rfl
 c145 := by kernel_rfl
 c167 := by kernel_rfl
 c168 := by kernel_rfl
 c171 := by kernel_rfl
 c173 := by kernel_rfl
 c175 := by kernel_rfl
 c210 := by kernel_rfl
 c212 := by kernel_rfl
 c213 := by kernel_rfl
 c232 := by kernel_rfl
 c233 := by kernel_rfl }
open Go.Shelf
def NE : Go.Shelf.Ren := ⟨fun | 155 => 63 | 154 => 102 | 138 => 139 | 165 => 90 | 143 => 39 | 166 => 62 | 197 => 140 | 169 => 47 | 195 => 171 | 218 => 172 | 240 => 101 | 241 => 129 | 219 => 69 | 260 => 173 | 276 => 138 | 277 => 164 | 217 => 109 | 225 => 110 | 224 => 111 | 267 => 112 | 266 => 149 | 314 => 150 | n => n, fun | 9 => 9 | 3 => 3 | 4 => 4 | 72 => 86 | 0 => 0 | 76 => 114 | 105 => 180 | 21 => 21 | 5 => 5 | 70 => 83 | 20 => 20 | 37 => 84 | 75 => 113 | 127 => 139 | 164 => 178 | 46 => 157 | 119 => 211 | 139 => 214 | 138 => 213 | 146 => 186 | 51 => 185 | 80 => 90 | n => n, fun | 1 => 0 | 3 => 1 | 4 => 2 | n => n⟩
theorem A0r : Go.Proofs.Lays.n155 Tryz.prog NE := {
 mixed := by kernel_rfl
 f138 := Tryz.func139.trans (congrArg some (by kernel_rfl))
 f143 := Tryz.func39.trans (congrArg some (by kernel_rfl))
 f154 := Tryz.func102.trans (congrArg some (by kernel_rfl))
 f155 := Tryz.func63.trans (congrArg some (by kernel_rfl))
 f165 := Tryz.func90.trans (congrArg some (by kernel_rfl))
 f166 := Tryz.func62.trans (congrArg some (by kernel_rfl))
 f169 := Tryz.func47.trans (congrArg some (by kernel_rfl))
 f195 := Tryz.func171.trans (congrArg some (by kernel_rfl))
 f197 := Tryz.func140.trans (congrArg some (by kernel_rfl))
 f217 := Tryz.func109.trans (congrArg some (by kernel_rfl))
 f218 := Tryz.func172.trans (congrArg some (by kernel_rfl))
 f219 := Tryz.func69.trans (congrArg some (by kernel_rfl))
 f224 := Tryz.func111.trans (congrArg some (by kernel_rfl))
 f225 := Tryz.func110.trans (congrArg some (by kernel_rfl))
 f240 := Tryz.func101.trans (congrArg some (by kernel_rfl))
 f241 := Tryz.func129.trans (congrArg some (by kernel_rfl))
 f260 := Tryz.func173.trans (congrArg some (by kernel_rfl))
 f266 := Tryz.func149.trans (congrArg some (by kernel_rfl))
 f267 := Tryz.func112.trans (congrArg some (by kernel_rfl))
 f276 := Tryz.func138.trans (congrArg some (by kernel_rfl))
 f277 := Tryz.func164.trans (congrArg some (by kernel_rfl))
 f314 := Tryz.func150.trans (congrArg some (by kernel_rfl))
 t0 := Tryz.underlying0
 a0 := Tryz.isAgg0
 z0 := Tryz.sizeOf0
 v0 := Tryz.zeroValue0
 t3 := Tryz.underlying3
 a3 := Tryz.isAgg3
 z3 := Tryz.sizeOf3
 v3 := Tryz.zeroValue3
 t4 := Tryz.underlying4
 a4 := Tryz.isAgg4
 z4 := Tryz.sizeOf4
 v4 := Tryz.zeroValue4
 t5 := Tryz.underlying5
 a5 := Tryz.isAgg5
 z5 := Tryz.sizeOf5
 v5 := Tryz.zeroValue5
 t9 := Tryz.underlying9
 a9 := Tryz.isAgg9
 z9 := Tryz.sizeOf9
 v9 := Tryz.zeroValue9
 t20 := Tryz.underlying20
 a20 := Tryz.isAgg20
 z20 := Tryz.sizeOf20
 v20 := Tryz.zeroValue20
 t21 := Tryz.underlying21
 a21 := Tryz.isAgg21
 z21 := Tryz.sizeOf21
 v21 := Tryz.zeroValue21
 t37 := Tryz.underlying84
 a37 := Tryz.isAgg84
 z37 := Tryz.sizeOf84
 v37 := Tryz.zeroValue84
 t46 := Tryz.underlying157
 a46 := Tryz.isAgg157
 z46 := Tryz.sizeOf157
 v46 := Tryz.zeroValue157
 t51 := Tryz.underlying185
 a51 := Tryz.isAgg185
 z51 := Tryz.sizeOf185
 v51 := Tryz.zeroValue185
 t70 := Tryz.underlying83
 a70 := Tryz.isAgg83
 z70 := Tryz.sizeOf83
 v70 := Tryz.zeroValue83
 t72 := Tryz.underlying86
 a72 := Tryz.isAgg86
 z72 := Tryz.sizeOf86
 v72 := Tryz.zeroValue86
 t75 := Tryz.underlying113
 a75 := Tryz.isAgg113
 z75 := Tryz.sizeOf113
 v75 := Tryz.zeroValue113
 t76 := Tryz.underlying114
 a76 := Tryz.isAgg114
 z76 := Tryz.sizeOf114
 v76 := Tryz.zeroValue114
 t105 := Tryz.underlying180
 a105 := Tryz.isAgg180
 z105 := Tryz.sizeOf180
 v105 := Tryz.zeroValue180
 t119 := Tryz.underlying211
 a119 := Tryz.isAgg211
 z119 := Tryz.sizeOf211
 t127 := Tryz.underlying139
 a127 := Tryz.isAgg139
 z127 := Tryz.sizeOf139
 v127 := Tryz.zeroValue139
 t138 := Tryz.underlying213
 a138 := Tryz.isAgg213
 z138 := Tryz.sizeOf213
 v138 := Tryz.zeroValue213
 t139 := Tryz.underlying214
 a139 := Tryz.isAgg214
 z139 := Tryz.sizeOf214
 v139 := Tryz.zeroValue214
 t146 := Tryz.underlying186
 a146 := Tryz.isAgg186
 z146 := Tryz.sizeOf186
 v146 := Tryz.zeroValue186
 t164 := Tryz.underlying178
 a164 := Tryz.isAgg178
 z164 := Tryz.sizeOf178
 v164 := Tryz.zeroValue178
 g1 := by kernel_rfl
 g3 := by kernel_rfl
 g4 := by kernel_rfl }
theorem Lx : Builder.Extra Tryz.prog NE := {
 sizeBuilder := by kernel_rfl
 liesBuilder := by kernel_rfl
 t5 := Tryz.underlying5
 a5 := Tryz.isAgg5
 z5 := Tryz.sizeOf5
 v5 := Tryz.zeroValue5
 infoByte := by kernel_rfl
 cellsByte := by kernel_rfl
 sizeByte := by kernel_rfl
 neB5 := by decide }
def Sq : Go.Shelf.Ren := ⟨fun | 195 => 171 | n => n, fun | 9 => 9 | 3 => 3 | 0 => 0 | 4 => 4 | n => n, fun | n => n⟩
theorem Zo : Go.Proofs.Lays.n195 Tryz.prog Sq := {
 mixed := by kernel_rfl
 f195 := Tryz.func171.trans (congrArg some (by kernel_rfl))
 t0 := Tryz.underlying0
 a0 := Tryz.isAgg0
 z0 := Tryz.sizeOf0
 v0 := Tryz.zeroValue0
 t3 := Tryz.underlying3
 a3 := Tryz.isAgg3
 z3 := Tryz.sizeOf3
 v3 := Tryz.zeroValue3
 t4 := Tryz.underlying4
 a4 := Tryz.isAgg4
 z4 := Tryz.sizeOf4
 v4 := Tryz.zeroValue4
 t9 := Tryz.underlying9
 a9 := Tryz.isAgg9
 z9 := Tryz.sizeOf9
 v9 := Tryz.zeroValue9 }
open Go.Shelf
def N2 : Go.Shelf.Ren := ⟨fun | 260 => 173 | n => n, fun | 9 => 9 | 21 => 21 | 3 => 3 | 4 => 4 | 5 => 5 | 119 => 211 | 0 => 0 | 46 => 157 | 139 => 214 | 138 => 213 | n => n, fun | 3 => 1 | 4 => 2 | n => n⟩
theorem A0d : Go.Proofs.Lays.n260 Tryz.prog N2 := {
 mixed := by kernel_rfl
 f260 := Tryz.func173.trans (congrArg some (by kernel_rfl))
 t0 := Tryz.underlying0
 a0 := Tryz.isAgg0
 z0 := Tryz.sizeOf0
 v0 := Tryz.zeroValue0
 t3 := Tryz.underlying3
 a3 := Tryz.isAgg3
 z3 := Tryz.sizeOf3
 v3 := Tryz.zeroValue3
 t4 := Tryz.underlying4
 a4 := Tryz.isAgg4
 z4 := Tryz.sizeOf4
 v4 := Tryz.zeroValue4
 t5 := Tryz.underlying5
 a5 := Tryz.isAgg5
 z5 := Tryz.sizeOf5
 v5 := Tryz.zeroValue5
 t9 := Tryz.underlying9
 a9 := Tryz.isAgg9
 z9 := Tryz.sizeOf9
 v9 := Tryz.zeroValue9
 t21 := Tryz.underlying21
 a21 := Tryz.isAgg21
 z21 := Tryz.sizeOf21
 v21 := Tryz.zeroValue21
 t46 := Tryz.underlying157
 a46 := Tryz.isAgg157
 z46 := Tryz.sizeOf157
 v46 := Tryz.zeroValue157
 t119 := Tryz.underlying211
 a119 := Tryz.isAgg211
 z119 := Tryz.sizeOf211
 t138 := Tryz.underlying213
 a138 := Tryz.isAgg213
 z138 := Tryz.sizeOf213
 v138 := Tryz.zeroValue213
 t139 := Tryz.underlying214
 a139 := Tryz.isAgg214
 z139 := Tryz.sizeOf214
 v139 := Tryz.zeroValue214
 g3 := by kernel_rfl
 g4 := by kernel_rfl }
abbrev AE := List UInt8
abbrev aI (n : Int) : AV := .int .i64 n
abbrev aF (f : Int × Int) : AV := .agg [.int .i64 f.1, .int .i64 f.2]
open Go.RowKit
theorem Ms {P : Program} {w0 w w' : World} {G : Gh} {n : Nat} {H : A3} (h0 : Rel0 P w0 G n H w) (hb : Below w.heap.size w w') : Rel0 P w0 G n H w' := by
 have hbl : ∀ g, g < w.heap.size → w'.heap[g]? = w.heap[g]? := fun g hg => hb.block g hg
 refine ⟨h0.ext.tr hb, h0.lo, Nat.le_trans h0.hi hb.size, fun b o v hv => ?_, fun g e c hg => ?_, h0.capLo, fun g ob hob => ?_⟩
 ·have hc := h0.seal_ b o v hv
  have hlt : b < w.heap.size := World.block_lt_of_cell? _ _ hc
  rw [hb.cell (p := ⟨b, o, none⟩) hlt]; exact hc
 ·obtain ⟨cur, fz, h1, h2⟩ := h0.caps g e c hg
  refine ⟨cur, fz, ?_, h2⟩
  rw [hbl g (Array.getElem?_eq_some_iff.1 h1).1]; exact h1
 ·obtain ⟨h1, h2, h3⟩ := h0.objs g ob hob
  have hlt : g < w.heap.size := Nat.lt_of_lt_of_le h2 h0.hi
  exact ⟨h1, h2, h3.keep (hbl g hlt) (fun _ => rfl) rfl (Gh.Le.rfl_ G) (MapsKeep.lt hbl)⟩
theorem GD {P : Program} {f : Nat} {args : List AV} {v : AV} (h : ∀ (G : Gh) (vs : List Value), RepL G vs args → ∃ u : Value, (∀ G', Rep G' u v) ∧ ∀ w : World, Laid w → Calls P f vs.toArray w fun e w' => e = .returned u ∧ Below w.heap.size w w') : APure P f args v := by
 intro n H hs w0 G w vs hl h0 hrep
 obtain ⟨u, hu, hc⟩ := h G vs hrep
 refine (hc w (hl.ext h0.ext)).mono ?_
 rintro e w' ⟨rfl, hb⟩
 exact ⟨u, v, G, n, H, rfl, ⟨rfl, rfl, rfl⟩, hu G, Gh.Le.rfl_ _, Nat.le_refl _, Ms h0 hb⟩
theorem ZI (s : ByteArray) (l : List UInt8) (h : s.data.toList = l) : s = ⟨l.toArray⟩ := by cases s; subst h; simp
theorem VK (n : Int) (h : -9223372036854775808 ≤ n ∧ n ≤ 9223372036854775807) : APure Tryz.prog 65 [.int .i64 n] (.str (Lib.itoa n)) := by
 refine GD fun G vs hr => ⟨.string ⟨(Lib.itoa n).toArray⟩, fun _ => .str (by simp), fun w hl => ?_⟩
 cases hr with | cons h1 h2 =>
 cases h2; cases h1
 refine (Any.strconv_Itoa Y9 n h.1 h.2 w (Xy (by kernel_rfl) hl.pow)).mono ?_
 rintro e w' ⟨rfl, k, os, rfl⟩
 exact ⟨rfl, Lib.below_grow _ _ (Nat.le_refl _) _ _⟩
theorem Hj (l : List AE) : AG (l.map AV.str) = l.map AV.str := by
 induction l with
 | nil => rfl
 | cons x l ih => simp only [List.map_cons, AG, List.flatMap_cons, AV.cells, List.singleton_append] at ih ⊢; rw [ih]
theorem RY {G : Gh} (l : List AE) : RepL G (l.map fun x => Value.string ⟨x.toArray⟩) (l.map AV.str) := by
 induction l with
 | nil => exact .nil
 | cons x l ih => exact .cons (.str (by simp)) ih
theorem TT (s : AE) (hs : s.length < 4294967281) (ha : ∀ b ∈ s, b.toNat < 128) (hk : (Lib.fields s).length ≤ 1000000) : APure Tryz.prog 178 [.str s] (.sl 1 ((Lib.fields s).map AV.str) .ro) := by
 intro n H hH w0 G w vs hl h0 hrep
 cases hrep with | cons h1 h2 =>
 cases h2; cases h1
 rename_i sb hsb
 subst hsb
 refine (Any.strings_Fields A0f (by kernel_rfl) (by kernel_rfl) sb w (by rw [Lib.size_eq]; exact hs) (fun j b hj => ha b (List.mem_of_getElem? hj)) (Xy (by kernel_rfl) (hl.ext h0.ext).spc)).mono ?_
 rintro e w' ⟨rfl, rfl⟩
 have hrel := h0.newRow (w' := w.alloc (.cells ((Lib.fields sb.data.toList).map fun l => Value.string ⟨l.toArray⟩).toArray 9)) (cur := ((Lib.fields sb.data.toList).map fun l => Value.string ⟨l.toArray⟩).toArray) (e := 9) (fz := (0, 0)) (vs := (Lib.fields sb.data.toList).map fun l => Value.string ⟨l.toArray⟩) (c := none) (ob := none) rfl rfl rfl rfl
  (fun j u hu => by simpa using hu) (fun e' c' hc => by cases hc) (.inl rfl)
 have hle := h0.addLe ((Lib.fields sb.data.toList).map fun l => Value.string ⟨l.toArray⟩) none
 have hhi := h0.hi
 refine ⟨_, _, _, n, H, rfl, ⟨rfl, rfl, rfl⟩, .slro (vs := (Lib.fields sb.data.toList).map fun l => Value.string ⟨l.toArray⟩) ?_ (Gh.add_sealed _ _ _) ?_ (by simp), hle, Nat.le_refl _, hrel.less h0.lo (by omega) hH ?_⟩
 ·rw [Hj]; exact RY _
 ·refine ⟨by simp, by simp only [maxLen]; omega, by decide, fun x hx => ?_, fun x hx => ?_⟩
  ·obtain ⟨y, _, rfl⟩ := List.mem_map.1 hx; rfl
  ·rw [Hj] at hx; obtain ⟨y, _, rfl⟩ := List.mem_map.1 hx; rfl
 ·intro k hk'
  rw [upd_ne (by omega)]
abbrev CG (l : List AE) : AV := .sl 1 (l.map AV.str) .ro
theorem V7 (l : List AE) (sep : AE) (hl : l.length ≤ 140737488355328) (hlen : (Lib.join l sep).length ≤ 140737488355328) : APure Tryz.prog 52 [CG l, .str sep] (.str (Lib.join l sep)) := by
 intro n H hH w0 G w vs hl0 h0 hrep
 cases hrep with | cons h1 h2 =>
 cases h2 with | cons h3 h4 =>
 cases h4; cases h3
 rename_i sb hsb
 subst hsb
 obtain ⟨A, c, rfl, hc, hm, hA⟩ := h1.slOut
 have key : ∀ {W : World} {e : Ending}, e = .returned (.string ⟨(Lib.join l sb.data.toList).toArray⟩) → Below w.heap.size w W → ∃ (v : Value) (r : AV) (G' : Gh) (n' : Nat) (H' : A3), e = .returned v ∧ (r = .str (Lib.join l sb.data.toList) ∧ n' = n ∧ H' = H) ∧ Rep G' v r ∧ G.Le G' ∧ n ≤ n' ∧ Rel0 Tryz.prog w0 G' n' H' W := fun he hb =>
  ⟨_, _, G, n, H, he, ⟨rfl, rfl, rfl⟩, .str (by simp), Gh.Le.rfl_ _, Nat.le_refl _, Ms h0 hb⟩
 by_cases hl0 : l = []
 ·subst hl0
  refine (Any.strings_Join_none W5 Gg A c sb w).mono ?_
  rintro e w' ⟨he, rfl⟩
  exact key (by rw [he]; rfl) (Below.refl _ _)
 ·obtain ⟨g, off, us, rfl, hr, hs, ho⟩ := hA (by simpa using hl0)
  rw [Hj] at hr
  have hcell : ∀ (j : Nat) (x : ByteArray), (l.map fun x => (⟨x.toArray⟩ : ByteArray))[j]? = some x → w.cell? ⟨g, off + j, none⟩ = some (.string x) := by
   intro j x hj
   obtain ⟨y, hy, rfl⟩ : ∃ y, l[j]? = some y ∧ (⟨y.toArray⟩ : ByteArray) = x := by simpa [List.getElem?_map] using hj
   obtain ⟨u, hu, hru⟩ := hr.at (i := j) (x := .str y) (by simp [List.getElem?_map, hy])
   have h5 := h0.seal_ _ _ _ (hs j u hu)
   cases hru
   rename_i s hsy
   rw [h5, ZI _ _ hsy]
  have hlt : g < w.heap.size := by
   obtain ⟨y, hy⟩ : ∃ y, l[0]? = some y := ⟨_, List.getElem?_eq_getElem (List.length_pos_iff.2 hl0)⟩
   have := World.block_lt_of_cell? w _ (hcell 0 ⟨y.toArray⟩ (by simp [List.getElem?_map, hy]))
   simpa using this
  have hmap : (l.map fun x => (⟨x.toArray⟩ : ByteArray)).map (·.data.toList) = l := by
   rw [List.map_map]; conv => rhs; rw [← List.map_id l]
   apply List.map_congr_left; intro x _; simp
  have hj := Any.strings_Join W5 Gg g off c (l.map fun x => (⟨x.toArray⟩ : ByteArray)) sb w hcell hlt (by simpa using hl) (by simpa using hc) (by rw [hmap]; exact hlen)
  rw [hmap, List.length_map] at hj
  simp only [List.length_map] at *
  refine hj.mono ?_
  rintro e w' ⟨he, hb⟩
  exact key he hb
def BK (c : UInt8) : Bool := decide (48 ≤ c.toNat ∧ c.toNat ≤ 57)
def Eb (acc : Nat) : AE → Nat
 | [] => acc
 | c :: r => Eb (10 * acc + (c.toNat - 48)) r
theorem RQ (c : UInt8) (l : AE) : ∀ acc : Nat, Eb acc (l ++ [c]) = 10 * Eb acc l + (c.toNat - 48) := by
 induction l with
 | nil => intro acc; rfl
 | cons x l ih => intro acc; exact ih _
theorem A0p (l : AE) : ∀ acc : Nat, acc ≤ Eb acc l := by
 induction l with
 | nil => intro acc; exact Nat.le_refl _
 | cons x l ih =>
  intro acc
  have h2 : acc ≤ 10 * acc + (x.toNat - 48) := by omega
  exact Nat.le_trans h2 (ih _)
theorem A13 : ∀ d : Fin 10, (UInt8.ofNat (48 + d.val)).toNat = 48 + d.val := by decide
theorem Ry {d : Nat} (h : d < 10) : (UInt8.ofNat (48 + d)).toNat = 48 + d := by
 have e := A13 ⟨d, h⟩
 simp only at e
 exact e
theorem Xo {d : Nat} (h : d < 10) : BK (UInt8.ofNat (48 + d)) = true := by
 have e := Ry h
 unfold BK
 rw [e]
 exact decide_eq_true (by omega)
theorem EB (u : Nat) : ∀ c ∈ Lib.decDigits u, BK c = true := by
 induction u using Nat.strongRecOn with
 | _ u ih =>
  intro c hc
  rw [Lib.decDigits] at hc
  split at hc
  ·rw [List.mem_singleton.1 hc]
   exact Xo (by omega)
  ·rcases List.mem_append.1 hc with h | h
   ·exact ih _ (by omega) c h
   ·rw [List.mem_singleton.1 h]
    exact Xo (by omega)
theorem VY {c : UInt8} {d : Nat} (h : c.toNat = 48 + d) (acc : Nat) : Eb acc [c] = 10 * acc + d ∧ ∀ l : AE, Eb acc (l ++ [c]) = 10 * Eb acc l + d := by
 constructor
 ·show 10 * acc + (c.toNat - 48) = _
  rw [h]; omega
 ·intro l; rw [RQ, h]; omega
theorem Pq (u : Nat) : Eb 0 (Lib.decDigits u) = u := by
 induction u using Nat.strongRecOn with
 | _ u ih =>
  rw [Lib.decDigits]
  split
  ·rename_i h0
   have e := (VY (Ry (d := u) h0) 0).1
   generalize UInt8.ofNat (48 + u) = c at e ⊢
   rw [e]; omega
  ·rename_i h0
   have e := (VY (Ry (d := u % 10) (by omega)) 0).2 (Lib.decDigits (u / 10))
   have e2 := ih (u / 10) (by omega)
   generalize UInt8.ofNat (48 + u % 10) = c at e ⊢
   rw [e, e2]; omega
theorem PJ (u : Nat) : Lib.decDigits u ≠ [] := by
 intro h
 have := Lib.decDigits_length u
 rw [h] at this
 have := Lib.nDigits_pos u
 simp at *; omega
theorem GV : ∀ (k u : Nat), u < 10 ^ (k + 1) → Lib.nDigits u ≤ k + 1
 | 0, u, h => by rw [Lib.nDigits_small (by omega)]; omega
 | k + 1, u, h => by
  by_cases c : u < 10
  ·rw [Lib.nDigits_small c]; omega
  ·rw [Lib.nDigits_big c]
   have := GV k (u / 10) (by rw [Nat.pow_succ] at h; omega)
   omega
theorem MI (u : Nat) : (Lib.decDigits u).length ≤ 9 ↔ u ≤ 999999999 := by
 rw [Lib.decDigits_length]
 constructor
 ·intro h
  have h1 := Lib.lt_pow_nDigits u
  have h2 : 10 ^ Lib.nDigits u ≤ 10 ^ 9 := Nat.pow_le_pow_right (by omega) h
  omega
 ·intro h
  exact GV 8 u (by omega)
theorem XD (l : AE) (hl : ∀ c ∈ l, BK c = true) : ∀ acc : Nat, Eb acc l < 1844674407370955162 → Lib.parseUint10 acc l = .ok (Eb acc l) := by
 induction l with
 | nil => intro acc _; rfl
 | cons c r ih =>
  intro acc hb
  have hc := hl c List.mem_cons_self
  unfold BK at hc
  simp only [decide_eq_true_eq] at hc
  have e : Eb acc (c :: r) = Eb (10 * acc + (c.toNat - 48)) r := rfl
  rw [e] at hb ⊢
  have hg := A0p r (10 * acc + (c.toNat - 48))
  have hi := ih (fun x hx => hl x (List.mem_cons_of_mem _ hx)) (10 * acc + (c.toNat - 48)) hb
  rw [Lib.parseUint10, if_pos hc, if_neg (by omega), if_neg (by omega), Nat.mul_comm acc 10]
  exact hi
theorem WB {u : Nat} (h : u ≤ 999999999) : Lib.parseMag (Lib.decDigits u) = .ok u := by
 unfold Lib.parseMag
 rw [if_neg (PJ u), XD _ (EB u) 0 (by rw [Pq]; omega), Pq]
theorem WV {n : Int} (h : -999999999 ≤ n ∧ n ≤ 999999999) : Lib.atoiAll (Lib.itoa n) = .ok n := by
 by_cases c : n < 0
 ·obtain ⟨u, rfl⟩ : ∃ u : Nat, n = -(u : Int) := ⟨n.natAbs, by omega⟩
  rw [Lib.itoa_neg u (by omega), Lib.atoiAll_minus, WB (by omega)]
  simp [Lib.signed]; omega
 ·obtain ⟨u, rfl⟩ : ∃ u : Nat, n = (u : Int) := ⟨n.toNat, by omega⟩
  rw [Lib.itoa_nonneg]
  obtain ⟨d, l, e⟩ := List.exists_cons_of_ne_nil (PJ u)
  have hd := EB u d (by rw [e]; exact List.mem_cons_self)
  unfold BK at hd
  simp only [decide_eq_true_eq] at hd
  have hm := WB (u := u) (by omega)
  rw [e] at hm ⊢
  rw [Lib.atoiAll_plain d l (by omega) (by omega), hm]
  simp [Lib.signless]; omega
def Bg (s : AE) : Int × Bool := match Lib.atoiAll s with
 | .ok v => (v, decide (Lib.itoa v = s) && decide ((Lib.trimPrefix s [45]).length ≤ 9))
 | .range => (Lib.atoiSat s, false)
 | _ => (0, false)
theorem MZ (n : Int) : Lib.trimPrefix (Lib.itoa n) [45] = Lib.decDigits n.natAbs := by
 by_cases c : n < 0
 ·obtain ⟨u, rfl⟩ : ∃ u : Nat, n = -(u : Int) := ⟨n.natAbs, by omega⟩
  rw [Lib.itoa_neg u (by omega)]
  simp [Lib.trimPrefix, Lib.hasPrefix]
 ·obtain ⟨u, rfl⟩ : ∃ u : Nat, n = (u : Int) := ⟨n.toNat, by omega⟩
  rw [Lib.itoa_nonneg]
  obtain ⟨d, l, e⟩ := List.exists_cons_of_ne_nil (PJ u)
  have hd := EB u d (by rw [e]; exact List.mem_cons_self)
  unfold BK at hd
  simp only [decide_eq_true_eq] at hd
  have hne : ¬ (45 : UInt8) = d := by rintro rfl; revert hd; decide
  simp [Lib.trimPrefix, Lib.hasPrefix, e, hne]
theorem YA {n : Int} (h : -999999999 ≤ n ∧ n ≤ 999999999) : Bg (Lib.itoa n) = (n, true) := by
 unfold Bg
 rw [WV h]
 simp only [MZ, decide_true, Bool.true_and]
 rw [decide_eq_true ((MI _).2 (by omega))]
theorem Pu {s : AE} (h : (Bg s).2 = true) : Lib.itoa (Bg s).1 = s ∧ -999999999 ≤ (Bg s).1 ∧ (Bg s).1 ≤ 999999999 := by
 unfold Bg at h ⊢
 split at h
 ·rename_i v hv
  simp only [Bool.and_eq_true, decide_eq_true_eq] at h
  simp only [hv]
  obtain ⟨h1, h2⟩ := h
  rw [← h1, MZ, MI] at h2
  exact ⟨h1, by omega, by omega⟩
 ·cases h
 ·cases h
def Hv (s : AE) : Int × Bool :=
 let f := if s.head? = some 45 then 1 else 0
 if (s.drop f).all BK = true ∧ (s.drop f).length ≤ 9 then
  let n : Int := if f = 1 then -(Eb 0 (s.drop f) : Int) else Eb 0 (s.drop f)
  (n, decide (f < s.length) && decide (Lib.itoa n = s))
 else (0, false)
theorem X6 (n : Int) : (Lib.itoa n).drop (if (Lib.itoa n).head? = some 45 then 1 else 0) = Lib.decDigits n.natAbs ∧ ((Lib.itoa n).head? = some 45 ↔ n < 0) := by
 by_cases c : n < 0
 ·obtain ⟨u, rfl⟩ : ∃ u : Nat, n = -(u : Int) := ⟨n.natAbs, by omega⟩
  rw [Lib.itoa_neg u (by omega)]
  simp; omega
 ·obtain ⟨u, rfl⟩ : ∃ u : Nat, n = (u : Int) := ⟨n.toNat, by omega⟩
  rw [Lib.itoa_nonneg]
  obtain ⟨d, l, e⟩ := List.exists_cons_of_ne_nil (PJ u)
  have hd := EB u d (by rw [e]; exact List.mem_cons_self)
  unfold BK at hd
  simp only [decide_eq_true_eq] at hd
  have hne : ¬ d = (45 : UInt8) := by rintro rfl; revert hd; decide
  have e2 : (u : Int).natAbs = u := by omega
  rw [e2, e]
  simp [hne]
theorem Ka (l : AE) (hl : ∀ c ∈ l, BK c = true) : ∀ acc : Nat, Eb acc l < (acc + 1) * 10 ^ l.length := by
 induction l with
 | nil => intro acc; show acc < _; simp
 | cons c r ih =>
  intro acc
  have hc := hl c List.mem_cons_self
  unfold BK at hc
  simp only [decide_eq_true_eq] at hc
  have h1 := ih (fun x hx => hl x (List.mem_cons_of_mem _ hx)) (10 * acc + (c.toNat - 48))
  have e : Eb acc (c :: r) = Eb (10 * acc + (c.toNat - 48)) r := rfl
  rw [e]
  refine Nat.lt_of_lt_of_le h1 ?_
  rw [List.length_cons, Nat.pow_succ, ← Nat.mul_assoc, Nat.mul_right_comm]
  exact Nat.mul_le_mul_right _ (by omega)
theorem Vu (s : AE) : (Hv s).2 = (Bg s).2 ∧ ((Bg s).2 = true → (Hv s).1 = (Bg s).1) := by
 have key : (Bg s).2 = true → Hv s = ((Bg s).1, true) := by
  intro h
  obtain ⟨h1, h2, h3⟩ := Pu h
  generalize (Bg s).1 = n at h1 h2 h3
  subst h1
  obtain ⟨f1, f2⟩ := X6 n
  unfold Hv
  simp only [f1]
  have hall : (Lib.decDigits n.natAbs).all BK = true := List.all_eq_true.2 (EB _)
  rw [if_pos ⟨hall, (MI _).2 (by omega)⟩, Pq]
  have hv : (if (if (Lib.itoa n).head? = some 45 then 1 else 0) = 1 then -((n.natAbs : Nat) : Int) else (n.natAbs : Int)) = n := by
   by_cases c : (Lib.itoa n).head? = some 45
   ·have := f2.1 c; simp [c]; omega
   ·have : ¬ n < 0 := fun h => c (f2.2 h)
    simp [c]; omega
  have hl : (if (Lib.itoa n).head? = some 45 then 1 else 0) < (Lib.itoa n).length := by
   have h4 := congrArg List.length f1
   rw [List.length_drop] at h4
   have := List.length_pos_iff.2 (PJ n.natAbs)
   omega
  rw [hv]
  simp [hl]
 have back : (Hv s).2 = true → (Bg s).2 = true := by
  intro h
  unfold Hv at h
  dsimp only at h
  generalize hf : (if s.head? = some 45 then 1 else 0) = f at h
  split at h
  ·rename_i hc
   have hd := List.all_eq_true.1 hc.1
   have hsm := Ka (s.drop f) hd 0
   have hp : 10 ^ (s.drop f).length ≤ 10 ^ 9 := Nat.pow_le_pow_right (by omega) hc.2
   simp only [Bool.and_eq_true, decide_eq_true_eq] at h
   obtain ⟨_, h2⟩ := h
   rw [← h2, YA (by split <;> omega)]
  ·cases h
 cases h : (Bg s).2 with
 | true => rw [key h]; exact ⟨rfl, fun _ => rfl⟩
 | false =>
  refine ⟨?_, fun h => by cases h⟩
  cases h2 : (Hv s).2 with
  | true => rw [back h2] at h; cases h
  | false => rfl
def Ct (c : UInt8) : AE → List AE
 | [] => [[]]
 | x :: r => if x = c then [] :: Ct c r else match Ct c r with
  | [] => [[x]]
  | h :: t => (x :: h) :: t
theorem Fu (c : UInt8) (s : AE) : Ct c s ≠ [] := by
 cases s with
 | nil => simp [Ct]
 | cons x r =>
  unfold Ct
  split
  ·simp
  ·split <;> simp
theorem PV (c : UInt8) : ∀ s : AE, Lib.join (Ct c s) [c] = s
 | [] => rfl
 | x :: r => by
  have ih := PV c r
  unfold Ct
  obtain ⟨h, t, e⟩ := List.exists_cons_of_ne_nil (Fu c r)
  rw [e] at ih ⊢
  split
  ·rename_i hx; subst hx
   rw [Lib.join_cons]
   rw [Lib.join_cons] at ih
   simp only [List.nil_append, Lib.joinTail, List.map_cons, List.flatten_cons] at ih ⊢
   rw [List.append_assoc, ih]; rfl
  ·rw [Lib.join_cons] at ih ⊢
   rw [List.cons_append, ih]
theorem GS (c : UInt8) : ∀ s : AE, c ∉ s → Ct c s = [s]
 | [], _ => rfl
 | x :: r, h => by
  have h1 := GS c r (fun h' => h (List.mem_cons_of_mem _ h'))
  unfold Ct
  rw [if_neg (fun e => h (by rw [e]; exact List.mem_cons_self)), h1]
theorem Ik (c : UInt8) : ∀ (a b : AE), c ∉ a → Ct c (a ++ c :: b) = a :: Ct c b
 | [], b, _ => by simp [Ct]
 | x :: a, b, h => by
  have h1 := Ik c a b (fun h' => h (List.mem_cons_of_mem _ h'))
  rw [List.cons_append, Ct, if_neg (fun e => h (by rw [e]; exact List.mem_cons_self)), h1]
theorem EY (c : UInt8) : ∀ s : AE, (Ct c s).length ≤ s.length + 1
 | [] => by simp [Ct]
 | x :: r => by
  have ih := EY c r
  unfold Ct
  split
  ·simp; omega
  ·split
   ·simp
   ·rename_i h t e; rw [e] at ih; simp at ih ⊢; omega
theorem GA (c : UInt8) : ∀ (s p : AE), p ∈ Ct c s → c ∉ p
 | [], p, h => by simp [Ct] at h; subst h; simp
 | x :: r, p, h => by
  unfold Ct at h
  split at h
  ·rcases List.mem_cons.1 h with rfl | h
   ·simp
   ·exact GA c r p h
  ·rename_i hx
   split at h
   ·simp at h; subst h; simp; exact fun e => hx e.symm
   ·rename_i hd t e
    rcases List.mem_cons.1 h with rfl | h
    ·have := GA c r hd (by rw [e]; exact List.mem_cons_self)
     simp only [List.mem_cons, not_or]; exact ⟨fun e => hx e.symm, this⟩
    ·exact GA c r p (by rw [e]; exact List.mem_cons_of_mem _ h)
theorem W0 {c : UInt8} {s : AE} (h : c ∈ s) : 2 ≤ (Ct c s).length := by
 induction s with
 | nil => cases h
 | cons x r ih =>
  unfold Ct
  split
  ·have := List.length_pos_iff.2 (Fu c r); simp; omega
  ·rename_i hx
   have := ih (by rcases List.mem_cons.1 h with e | e; exact absurd e.symm hx; exact e)
   split
   ·rename_i e; rw [e] at this; simp at this
   ·rename_i hd t e; rw [e] at this; simpa using this
def Cv (c : UInt8) : AE → AE × AE × Bool
 | [] => ([], [], false)
 | x :: r => if x = c then ([], r, true) else (x :: (Cv c r).1, (Cv c r).2.1, (Cv c r).2.2)
theorem To (c : UInt8) : ∀ (a b : AE), c ∉ a → Cv c (a ++ c :: b) = (a, b, true)
 | [], b, _ => by simp [Cv]
 | x :: a, b, h => by
  have ih := To c a b fun h' => h (List.mem_cons_of_mem _ h')
  rw [List.cons_append, Cv, if_neg (fun e => h (by rw [e]; exact List.mem_cons_self)), ih]
theorem Qj (c : UInt8) : ∀ s : AE, c ∉ s → Cv c s = (s, [], false)
 | [], _ => rfl
 | x :: r, h => by
  have ih := Qj c r fun h' => h (List.mem_cons_of_mem _ h')
  rw [Cv, if_neg (fun e => h (by rw [e]; exact List.mem_cons_self)), ih]
theorem I0 (c : UInt8) (s : AE) : (∃ a b, s = a ++ c :: b ∧ c ∉ a ∧ Cv c s = (a, b, true)) ∨ (c ∉ s ∧ Cv c s = (s, [], false)) := by
 induction s with
 | nil => exact .inr ⟨by simp, rfl⟩
 | cons x r ih =>
  by_cases hx : x = c
  ·subst hx; exact .inl ⟨[], r, rfl, by simp, by simp [Cv]⟩
  ·rcases ih with ⟨a, b, e, h, _⟩ | ⟨h, _⟩
   ·refine .inl ⟨x :: a, b, by rw [e]; rfl, by simp only [List.mem_cons, not_or]; exact ⟨fun e => hx e.symm, h⟩, ?_⟩
    rw [e, ← List.cons_append]; exact To c _ _ (by simp only [List.mem_cons, not_or]; exact ⟨fun e => hx e.symm, h⟩)
   ·have h2 : c ∉ x :: r := by simp only [List.mem_cons, not_or]; exact ⟨fun e => hx e.symm, h⟩
    exact .inr ⟨h2, Qj c _ h2⟩
inductive Js where | mk (k : Int) (t : AE) (ns : List AE) (it : List Js)
def Js.k : Js → Int | .mk k _ _ _ => k
def Js.t : Js → AE | .mk _ t _ _ => t
def Js.ns : Js → List AE | .mk _ _ n _ => n
def Js.it : Js → List Js | .mk _ _ _ i => i
theorem Js.ind {Q : Js → Prop} (h : ∀ k t ns it, (∀ x ∈ it, Q x) → Q (.mk k t ns it)) (v : Js) : Q v := by
 refine Js.rec (motive_1 := Q) (motive_2 := fun l => ∀ x ∈ l, Q x) (fun k t ns it hi => h k t ns it hi) (by simp) (fun x l hx hl => ?_) v
 intro y hy
 rcases List.mem_cons.1 hy with rfl | hy
 ·exact hx
 ·exact hl y hy
inductive Pt where | mk (k : Int) (t n : AE) (pa : List AE) (fs : List (AE × Int)) (b e : List Pt)
def Pt.k : Pt → Int | .mk k _ _ _ _ _ _ => k
def Pt.t : Pt → AE | .mk _ t _ _ _ _ _ => t
def Pt.n : Pt → AE | .mk _ _ n _ _ _ _ => n
def Pt.pa : Pt → List AE | .mk _ _ _ p _ _ _ => p
def Pt.fs : Pt → List (AE × Int) | .mk _ _ _ _ f _ _ => f
def Pt.b : Pt → List Pt | .mk _ _ _ _ _ b _ => b
def Pt.e : Pt → List Pt | .mk _ _ _ _ _ _ e => e
theorem Pt.ind {Q : Pt → Prop} (h : ∀ k t n pa fs b e, (∀ x ∈ b, Q x) → (∀ x ∈ e, Q x) → Q (.mk k t n pa fs b e)) (p : Pt) : Q p := by
 refine Pt.rec (motive_1 := Q) (motive_2 := fun l => ∀ x ∈ l, Q x) (fun k t n pa fs b e hb he => h k t n pa fs b e hb he) (by simp) (fun x l hx hl => ?_) p
 intro y hy
 rcases List.mem_cons.1 hy with rfl | hy
 ·exact hx
 ·exact hl y hy
abbrev WG (f : AE × Int) : AV := .agg [.str f.1, aI f.2]
abbrev Aq (l : List (AE × Int)) : AV := .sl 2 (l.map WG) .ro
mutual
def Hq : Pt → AV
 | .mk k t n pa fs b e => .agg [aI k, .str t, .str n, CG pa, Aq fs, .sl 7 (AB b) .ro, .sl 7 (AB e) .ro]
def AB : List Pt → List AV
 | [] => []
 | x :: r => Hq x :: AB r
end
abbrev Cr (l : List Pt) : AV := .sl 7 (AB l) .ro
theorem Iw : ∀ l : List Pt, AB l = l.map Hq
 | [] => rfl
 | x :: r => by simp [AB, Iw r]
theorem B3 (l : List Pt) : (AB l).length = l.length := by simp [Iw]
theorem MS (a b : List Pt) : AB (a ++ b) = AB a ++ AB b := by simp [Iw]
theorem GW {l : List Pt} {i : Nat} {x : Pt} (h : l[i]? = some x) : (AB l)[i]? = some (Hq x) := by simp [Iw, h]
/-! ### names -/
def Jd (c : UInt8) : Bool := (decide (97 ≤ c.toNat) && decide (c.toNat ≤ 122)) || (decide (65 ≤ c.toNat) && decide (c.toNat ≤ 90)) || decide (c.toNat = 95)
def Y5 : AE := [105, 102]
def Ge : AE := [101, 97, 99, 104]
def XN : AE := [105, 110]
def N4 : AE := [101, 108, 115, 101]
def UA : AE := [101, 110, 100]
def Lr : AE := [111, 112, 101, 110]
def ZN : List AE := [Y5, Ge, XN, N4, UA, Lr]
def IK (s : AE) : Bool := decide (s ≠ []) && decide (s.length ≤ 24) && !BK (s.headD 48) && s.all fun c => Jd c || BK c
def Ho (s : AE) : Bool := IK s && !decide (s ∈ ZN)
def UH (s : AE) : Bool := (Bg s).2 && decide (0 ≤ (Bg s).1) && decide ((Bg s).1 ≤ 999)
def B5 : List AE → Bool
 | [] => false
 | h :: t => decide (t.length ≤ 7) && Ho h && t.all fun s => Ho s || UH s
def QJ : AE := [117, 112, 112, 101, 114]
def PD : AE := [108, 111, 119, 101, 114]
def TH : AE := [116, 114, 105, 109]
def Ln : AE := [106, 115, 111, 110]
def Xr : AE := [112, 97, 100]
def QA : AE := [114, 105, 103, 104, 116]
def Ya : AE := [99, 117, 116]
def fk1 : List AE := [QJ, PD, TH, Ln]
def fk2 : List AE := [Xr, QA, Ya]
def IA (s : AE) : Nat := if s ∈ fk1 then 1 else if s ∈ fk2 then 2 else 0
/-! ### right templates -/
def ID : Nat → List (AE × Int) → Int
 | _, [] => 0
 | i, f :: r => if IA f.1 = 0 then 5 else if (f.2 < 0 ∨ 200 < f.2) ∨ (IA f.1 = 1 ∧ f.2 ≠ 0) then 4 else if 0 < i ∧ f.1 = Ln then 11 else ID (i + 1) r
def RC (pv k : Int) (t n : AE) (pa : List AE) (fs : List (AE × Int)) (b e : List Pt) : Bool :=
 (decide (k = 1) == decide (t = [])) || (decide (k ≠ 4) && decide (n ≠ [])) || (decide (k = 1) && decide (pa ≠ [])) || (decide (k ≠ 2) && decide (fs ≠ [])) || (decide (k < 3) && (decide (b ≠ []) || decide (e ≠ []))) || (decide (k = 1) && decide (pv = 1))
def Gu (k : Int) (n : AE) (pa : List AE) (fs : List (AE × Int)) : Int :=
 if (k = 4 ∧ Ho n = false) ∨ (k ≠ 1 ∧ B5 pa = false) then 7 else if 8 < fs.length then 2 else ID 0 fs
def Gw (pv : Int) (i d : Nat) (k : Int) (t n : AE) (pa : List AE) (fs : List (AE × Int)) (b e : List Pt) : Int :=
 if 200 ≤ i then 2 else if 16 < d then 25 else if k < 1 ∨ 4 < k then 5 else if RC pv k t n pa fs b e = true then 6 else Gu k n pa fs
mutual
def Gb (pv : Int) (i d : Nat) : Pt → Nat × Int
 | .mk k t n pa fs b e => if Gw pv i d k t n pa fs b e ≠ 0 then (i, Gw pv i d k t n pa fs b e)
  else if (BU 0 (i + 1) (d + 1) b).2 ≠ 0 then BU 0 (i + 1) (d + 1) b else BU 0 (BU 0 (i + 1) (d + 1) b).1 (d + 1) e
def BU (pv : Int) (i d : Nat) : List Pt → Nat × Int
 | [] => (i, 0)
 | x :: r => if (Gb pv i d x).2 ≠ 0 then Gb pv i d x else BU x.k (Gb pv i d x).1 d r
end
/-! ### texts -/
def opS : AE := [60, 37]
def clS : AE := [37, 62]
def Pm : AE := [60, 37, 111, 112, 101, 110, 37, 62]
def E1 : AE → AE
 | [] => []
 | [c] => [c]
 | a :: b :: r => if a = 60 ∧ b = 37 then Pm ++ E1 r else a :: E1 (b :: r)
def Q5 (f : AE × Int) : AE := 124 :: f.1 ++ if IA f.1 = 2 then 32 :: Lib.itoa f.2 else []
def ifS : AE := [60, 37, 105, 102, 32]
def N6 : AE := [60, 37, 101, 97, 99, 104, 32]
def Wn : AE := [32, 105, 110, 32]
def N3 : AE := [60, 37, 101, 108, 115, 101, 37, 62]
def OY : AE := [60, 37, 101, 110, 100, 37, 62]
def T7 (pa : List AE) : AE := Lib.join pa [46]
mutual
def ZP : Pt → AE
 | .mk k t n pa fs b e => if k = 1 then E1 t else if k = 2 then opS ++ T7 pa ++ fs.flatMap Q5 ++ clS
  else (if k = 3 then ifS ++ T7 pa ++ clS else N6 ++ n ++ Wn ++ T7 pa ++ clS) ++ DC b ++ (if e = [] then [] else N3 ++ DC e) ++ OY
def DC : List Pt → AE
 | [] => []
 | x :: r => ZP x ++ DC r
end
def EK (l : List Pt) : Int × Int := if (BU 0 0 0 l).2 ≠ 0 then ((BU 0 0 0 l).2, ((BU 0 0 0 l).1 : Int)) else if 4000 < (DC l).length then (14, -1) else (0, 0)
theorem Rp : ∀ a b : List Pt, DC (a ++ b) = DC a ++ DC b
 | [], _ => rfl
 | x :: a, b => by simp [DC, Rp a b]
theorem A0s {pv : Int} {i d : Nat} {p : Pt} (h : (Gb pv i d p).2 = 0) : i < 200 ∧ d ≤ 16 := by
 obtain ⟨k, t, n, pa, fs, b, e⟩ := p
 rw [Gb] at h
 split at h
 ·rename_i h1; exact absurd h h1
 ·rename_i h1
  have h1 := Classical.not_not.1 h1
  unfold Gw at h1
  split at h1
  ·cases h1
  ·split at h1
   ·cases h1
   ·omega
def Ar (p : AE) : AE → Option (AE × AE)
 | [] => if p = [] then some ([], []) else none
 | x :: r => if p.isPrefixOf (x :: r) then some ([], (x :: r).drop p.length) else (Ar p r).map fun c => (x :: c.1, c.2)
theorem F8 {p : AE} : ∀ {s a b : AE}, Ar p s = some (a, b) → s = a ++ (p ++ b)
 | [], a, b, h => by
  unfold Ar at h
  split at h
  ·rename_i e; subst e; simp at h; obtain ⟨rfl, rfl⟩ := h; rfl
  ·cases h
 | x :: r, a, b, h => by
  unfold Ar at h
  split at h
  ·rename_i hp
   simp only [Option.some.injEq, Prod.mk.injEq] at h
   obtain ⟨rfl, rfl⟩ := h
   have := List.prefix_iff_eq_append.1 (List.isPrefixOf_iff_prefix.1 hp)
   simpa using this.symm
  ·obtain ⟨c, h1, h2⟩ := Option.map_eq_some_iff.1 h
   injection h2 with e1 e2
   subst e1; subst e2
   rw [List.cons_append, ← F8 (s := r) (a := c.1) (b := c.2) h1]
theorem Bk {p s a b : AE} (h : Ar p s = some (a, b)) : s.length = a.length + p.length + b.length := by
 have := F8 h; subst this; simp; omega
inductive Dir where | bad | opn | els | fin | fld (p : Pt) | bgn (p : Pt)
def fltO (s : AE) : Option (AE × Int) :=
 if (Cv 32 s).2.2 = true then (if IA (Cv 32 s).1 = 2 ∧ (Bg (Cv 32 s).2.1).2 = true ∧ 0 ≤ (Bg (Cv 32 s).2.1).1 then some ((Cv 32 s).1, (Bg (Cv 32 s).2.1).1) else none)
 else if IA s = 1 then some (s, 0) else none
def Hw : List AE → Option (List (AE × Int))
 | [] => some []
 | s :: r => match fltO s with
  | none => none
  | some f => (Hw r).map (f :: ·)
def FI (s : AE) : Dir := if B5 (Ct 46 s) = true then .bgn (.mk 3 [] [] (Ct 46 s) [] [] []) else .bad
def E8 (s : AE) : Dir := match Ar Wn s with
 | none => .bad
 | some (n, w) => if Ho n = true ∧ B5 (Ct 46 w) = true then .bgn (.mk 4 [] n (Ct 46 w) [] [] []) else .bad
def Bj (s : AE) : Dir := match Ct 124 s with
 | [] => .bad
 | h :: t => if B5 (Ct 46 h) = true then (match Hw t with | some fs => .fld (.mk 2 [] [] (Ct 46 h) fs [] []) | none => .bad) else .bad
def dirT (s : AE) : Dir :=
 if s = Lr then .opn else if s = N4 then .els else if s = UA then .fin
 else if (Cv 32 s).2.2 = true ∧ (Cv 32 s).1 = Y5 then FI (Cv 32 s).2.1
 else if (Cv 32 s).2.2 = true ∧ (Cv 32 s).1 = Ge then E8 (Cv 32 s).2.1
 else Bj s
theorem Ls {s : AE} {p : Pt} (h : dirT s = .bgn p) : p.b = [] ∧ p.e = [] ∧ (p.k = 3 ∨ p.k = 4) := by
 unfold dirT at h
 (repeat' split at h) <;> first | (cases h; done) | skip
 ·unfold FI at h; split at h
  ·injection h with h; subst h; exact ⟨rfl, rfl, .inl rfl⟩
  ·cases h
 ·unfold E8 at h; split at h
  ·cases h
  ·split at h
   ·injection h with h; subst h; exact ⟨rfl, rfl, .inr rfl⟩
   ·cases h
 ·unfold Bj at h; (repeat' split at h) <;> cases h
theorem A0m {s : AE} {p : Pt} (h : dirT s = .fld p) : p.b = [] ∧ p.e = [] ∧ p.k = 2 := by
 unfold dirT at h
 (repeat' split at h) <;> first | (cases h; done) | skip
 ·unfold FI at h; split at h <;> cases h
 ·unfold E8 at h; split at h
  ·cases h
  ·split at h <;> cases h
 ·unfold Bj at h; (repeat' split at h) <;> first | (cases h; done) | skip
  injection h with h; subst h; exact ⟨rfl, rfl, rfl⟩
theorem SO {s : AE} (h : dirT s = .els) : s.length = 4 := by
 unfold dirT at h
 split at h
 ·cases h
 ·split at h
  ·rename_i e; subst e; rfl
  ·(repeat' split at h) <;> first | (cases h; done) | skip
   ·unfold FI at h; split at h <;> cases h
   ·unfold E8 at h; (repeat' split at h) <;> cases h
   ·unfold Bj at h; (repeat' split at h) <;> cases h
theorem Vj {s : AE} (h : dirT s = .fin) : s.length = 3 := by
 unfold dirT at h
 split at h
 ·cases h
 ·split at h
  ·cases h
  ·split at h
   ·rename_i e; subst e; rfl
   ·(repeat' split at h) <;> first | (cases h; done) | skip
    ·unfold FI at h; split at h <;> cases h
    ·unfold E8 at h; (repeat' split at h) <;> cases h
    ·unfold Bj at h; (repeat' split at h) <;> cases h
def Fb (p : Pt) (l : List Pt) : Pt := .mk p.k p.t p.n p.pa p.fs l p.e
def PQ (p : Pt) (l : List Pt) : Pt := .mk p.k p.t p.n p.pa p.fs p.b l
def tP (t : AE) : Pt := .mk 1 t [] [] [] [] []
def BC (x : Pt) (l : List Pt) : List Pt := match l.getLast? with
 | some y => if x.k = 1 ∧ y.k = 1 then l.dropLast ++ [tP (y.t ++ x.t)] else l ++ [x]
 | none => [x]
abbrev Fv := List Pt × List (Pt × Bool)
def Gd : Fv → List Pt
 | (ps, []) => ps
 | (_, (o, b) :: _) => if b = true then o.e else o.b
def BP (l : List Pt) : Fv → Fv
 | (_, []) => (l, [])
 | (ps, (o, b) :: k) => (ps, (if b = true then PQ o l else Fb o l, b) :: k)
theorem Vn (l : List Pt) (st : Fv) : Gd (BP l st) = l := by
 obtain ⟨ps, _ | ⟨⟨o, b⟩, k⟩⟩ := st
 ·rfl
 ·cases b <;> rfl
theorem VU (l m : List Pt) (st : Fv) : BP l (BP m st) = BP l st := by
 obtain ⟨ps, _ | ⟨⟨o, b⟩, k⟩⟩ := st
 ·rfl
 ·cases b <;> rfl
theorem A1a (st : Fv) : BP (Gd st) st = st := by
 obtain ⟨ps, _ | ⟨⟨⟨k, t, n, pa, fs, b, e⟩, c⟩, r⟩⟩ := st
 ·rfl
 ·cases c <;> rfl
theorem P5 (l : List Pt) (st : Fv) : (BP l st).2.length = st.2.length := by
 obtain ⟨ps, _ | ⟨⟨o, b⟩, k⟩⟩ := st <;> rfl
def Ee (x : Pt) (st : Fv) : Fv := BP (BC x (Gd st)) st
def CF (t : AE) (st : Fv) : Fv := if t = [] then st else Ee (tP t) st
def BL : Dir → Fv → Option Fv
 | .bad, _ => none
 | .opn, st => some (Ee (tP opS) st)
 | .els, (ps, (o, false) :: k) => some (ps, (o, true) :: k)
 | .els, _ => none
 | .fin, (ps, (o, _) :: k) => some (Ee o (ps, k))
 | .fin, _ => none
 | .fld p, st => some (Ee p st)
 | .bgn p, (ps, k) => some (ps, (p, false) :: k)
def Q0 : Nat → AE → Nat → Fv → Except Nat Fv
 | 0, _, i, _ => .error i
 | n + 1, s, i, st => match Ar opS s with
  | none => .ok (CF s st)
  | some (p, r) => match Ar clS r with
   | none => .error (i + p.length)
   | some (d, q) => match BL (dirT d) (CF p st) with
    | none => .error (i + p.length)
    | some st' => Q0 n q (i + p.length + d.length + 4) st'
theorem Tg : ∀ (n m : Nat) (s : AE) (i : Nat) (st : Fv), s.length < n → s.length < m → Q0 n s i st = Q0 m s i st
 | 0, _, _, _, _, h, _ => by omega
 | _ + 1, 0, _, _, _, _, h => by omega
 | n + 1, m + 1, s, i, st, h, k => by
  unfold Q0
  split
  ·rfl
  ·rename_i p r e1
   split
   ·rfl
   ·rename_i d q e2
    split
    ·rfl
    ·have h1 := Bk e1
     have h2 := Bk e2
     have h3 : opS.length = 2 := rfl
     have h4 : clS.length = 2 := rfl
     exact Tg n m q _ _ (by omega) (by omega)
def Fx (s : AE) (i : Nat) (st : Fv) : Except Nat Fv := Q0 (s.length + 1) s i st
theorem RR {s : AE} {i : Nat} {st : Fv} (h : Ar opS s = none) : Fx s i st = .ok (CF s st) := by
 unfold Fx Q0; rw [h]
theorem R9 {s p r : AE} {i : Nat} {st : Fv} (h : Ar opS s = some (p, r)) (k : Ar clS r = none) : Fx s i st = .error (i + p.length) := by
 unfold Fx Q0; rw [h]; dsimp only; rw [k]
theorem MG {s p r d q : AE} {i : Nat} {st : Fv} (h : Ar opS s = some (p, r)) (k : Ar clS r = some (d, q)) (hs : BL (dirT d) (CF p st) = none) : Fx s i st = .error (i + p.length) := by
 unfold Fx Q0; rw [h]; dsimp only; rw [k]; dsimp only; rw [hs]
theorem Ip {s p r d q : AE} {i : Nat} {st st' : Fv} (h : Ar opS s = some (p, r)) (k : Ar clS r = some (d, q)) (hs : BL (dirT d) (CF p st) = some st') : Fx s i st = Fx q (i + p.length + d.length + 4) st' := by
 have h1 := Bk h
 have h2 := Bk k
 have h3 : opS.length = 2 := rfl
 have h4 : clS.length = 2 := rfl
 unfold Fx
 rw [Q0, h]; dsimp only; rw [k]; dsimp only; rw [hs]; dsimp only
 exact Tg _ _ _ _ _ (by omega) (by omega)
def JL (s : AE) : List Pt × (Int × Int) := if 4000 < s.length then ([], (3, -1)) else match Fx s 0 ([], []) with
 | .error i => ([], (1, (i : Int)))
 | .ok (l, k) => if k ≠ [] then ([], (1, (s.length : Int))) else if (EK l).1 ≠ 0 then ([], EK l) else (l, (0, 0))
/-! ### the reference: parts up to what ends them: 0 the end of the text, 1 something wrong, 5 an else, 6 an end, 7 the end of the text inside of a part -/
def DP : Nat → AE → Nat → List Pt → List Pt × Nat × Nat × AE
 | 0, s, i, l => (l, i, 1, s)
 | n + 1, s, i, l => match Ar opS s with
  | none => (if s = [] then l else BC (tP s) l, i + s.length, 0, [])
  | some (p, r) => match Ar clS r with
   | none => (if p = [] then l else BC (tP p) l, i + p.length, 1, [])
   | some (d, q) => match dirT d with
    | .bad => (if p = [] then l else BC (tP p) l, i + p.length, 1, [])
    | .opn => DP n q (i + p.length + d.length + 4) (BC (tP opS) (if p = [] then l else BC (tP p) l))
    | .fld x => DP n q (i + p.length + d.length + 4) (BC x (if p = [] then l else BC (tP p) l))
    | .els => (if p = [] then l else BC (tP p) l, i + p.length + d.length + 4, 5, q)
    | .fin => (if p = [] then l else BC (tP p) l, i + p.length + d.length + 4, 6, q)
    | .bgn x => match DP n q (i + p.length + d.length + 4) [] with
     | (b, j, en, t) => if en = 5 then (match DP n t j [] with
         | (e, j', en', t') => if en' = 6 then DP n t' j' (BC (PQ (Fb x b) e) (if p = [] then l else BC (tP p) l))
           else if en' = 5 then (if p = [] then l else BC (tP p) l, j' - 8, 1, []) else (if p = [] then l else BC (tP p) l, j', if en' = 0 then 7 else en', []))
      else if en = 6 then DP n t j (BC (Fb x b) (if p = [] then l else BC (tP p) l)) else (if p = [] then l else BC (tP p) l, j, if en = 0 then 7 else en, [])
structure RefOk (s : AE) (i : Nat) (st : Fv) (x : List Pt × Nat × Nat × AE) : Prop where
 cs : x.2.2.1 = 0 ∨ x.2.2.1 = 1 ∨ x.2.2.1 = 5 ∨ x.2.2.1 = 6 ∨ x.2.2.1 = 7
 bad : x.2.2.1 = 1 → Fx s i st = .error x.2.1
 fin0 : x.2.2.1 = 0 → x.2.1 = i + s.length ∧ Fx s i st = .ok (BP x.1 st)
 opn : x.2.2.1 = 7 → x.2.1 = i + s.length ∧ ∃ st', Fx s i st = .ok st' ∧ st.2.length < st'.2.length
 els : x.2.2.1 = 5 → i + s.length = x.2.1 + x.2.2.2.length ∧ i + 8 ≤ x.2.1 ∧ Fx s i st = match BL .els (BP x.1 st) with | none => .error (x.2.1 - 8) | some st' => Fx x.2.2.2 x.2.1 st'
 fin : x.2.2.1 = 6 → i + s.length = x.2.1 + x.2.2.2.length ∧ i + 7 ≤ x.2.1 ∧ Fx s i st = match BL .fin (BP x.1 st) with | none => .error (x.2.1 - 7) | some st' => Fx x.2.2.2 x.2.1 st'
theorem RefOk.move {s q : AE} {i j : Nat} {st st' : Fv} {x : List Pt × Nat × Nat × AE} (h : RefOk q j st' x) (hr : Fx s i st = Fx q j st') (hl : i + s.length = j + q.length) (hij : i ≤ j) (hs : ∀ l, BP l st' = BP l st) (hn : st'.2.length = st.2.length) : RefOk s i st x :=
 ⟨h.cs, fun e => hr.trans (h.bad e), fun e => ⟨by have := (h.fin0 e).1; omega, by rw [hr, (h.fin0 e).2, hs]⟩, fun e => by
  obtain ⟨a, st2, b, c⟩ := h.opn e
  exact ⟨by omega, st2, hr.trans b, by omega⟩, fun e => by
  obtain ⟨a, b, c⟩ := h.els e
  exact ⟨by omega, by omega, by rw [hr, c, hs]⟩, fun e => by
  obtain ⟨a, b, c⟩ := h.fin e
  exact ⟨by omega, by omega, by rw [hr, c, hs]⟩⟩
theorem TJ (p : AE) (st : Fv) : Gd (CF p st) = (if p = [] then Gd st else BC (tP p) (Gd st)) ∧ (∀ l, BP l (CF p st) = BP l st) ∧ (CF p st).2.length = st.2.length := by
 unfold CF
 split
 ·exact ⟨rfl, fun _ => rfl, rfl⟩
 ·exact ⟨Vn _ _, fun l => VU _ _ _, P5 _ _⟩
theorem P3 (p : AE) (st : Fv) : CF p st = BP (if p = [] then Gd st else BC (tP p) (Gd st)) st := by
 unfold CF
 split
 ·exact (A1a st).symm
 ·rfl
theorem Hp (x : Pt) (st : Fv) : Gd (Ee x st) = BC x (Gd st) ∧ (∀ l, BP l (Ee x st) = BP l st) ∧ (Ee x st).2.length = st.2.length :=
 ⟨Vn _ _, fun l => VU _ _ _, P5 _ _⟩
theorem Hy : ∀ (n : Nat) (s : AE) (i : Nat) (st : Fv), s.length < n → RefOk s i st (DP n s i (Gd st))
 | 0, _, _, _, h => by omega
 | n + 1, s, i, st, h => by
  unfold DP
  split
  ·rename_i e1
   refine ⟨.inl rfl, fun e => (by cases e), fun _ => ⟨rfl, ?_⟩, fun e => (by cases e), fun e => (by cases e), fun e => (by cases e)⟩
   rw [RR e1, P3]
  ·rename_i p r e1
   have l1 := Bk e1
   have h3 : opS.length = 2 := rfl
   have h4 : clS.length = 2 := rfl
   obtain ⟨q1, q2, q3⟩ := TJ p st
   rw [← q1]
   split
   ·rename_i e2
    exact ⟨.inr (.inl rfl), fun _ => R9 e1 e2, fun e => (by cases e), fun e => (by cases e), fun e => (by cases e), fun e => (by cases e)⟩
   ·rename_i d q e2
    have l2 := Bk e2
    split
    ·rename_i e3
     exact ⟨.inr (.inl rfl), fun _ => MG e1 e2 (by rw [e3]; rfl), fun e => (by cases e), fun e => (by cases e), fun e => (by cases e), fun e => (by cases e)⟩
    ·rename_i e3
     obtain ⟨a1, a2, a3⟩ := Hp (tP opS) (CF p st)
     have ih := Hy n q (i + p.length + d.length + 4) (Ee (tP opS) (CF p st)) (by omega)
     rw [a1] at ih
     exact ih.move (Ip e1 e2 (by rw [e3]; rfl)) (by omega) (by omega) (fun l => (a2 l).trans (q2 l)) (by omega)
    ·rename_i x e3
     obtain ⟨a1, a2, a3⟩ := Hp x (CF p st)
     have ih := Hy n q (i + p.length + d.length + 4) (Ee x (CF p st)) (by omega)
     rw [a1] at ih
     exact ih.move (Ip e1 e2 (by rw [e3]; rfl)) (by omega) (by omega) (fun l => (a2 l).trans (q2 l)) (by omega)
    ·rename_i e3
     have l3 := SO e3
     refine ⟨.inr (.inr (.inl rfl)), fun e => (by cases e), fun e => (by cases e), fun e => (by cases e), fun _ => ⟨by dsimp only; omega, by dsimp only; omega, ?_⟩, fun e => (by cases e)⟩
     dsimp only
     rw [q1, ← P3]
     cases hs : BL .els (CF p st) with
     | none => rw [MG e1 e2 (by rw [e3, hs])]; dsimp only; congr 1; omega
     | some st' => exact Ip e1 e2 (by rw [e3, hs])
    ·rename_i e3
     have l3 := Vj e3
     refine ⟨.inr (.inr (.inr (.inl rfl))), fun e => (by cases e), fun e => (by cases e), fun e => (by cases e), fun e => (by cases e), fun _ => ⟨by dsimp only; omega, by dsimp only; omega, ?_⟩⟩
     dsimp only
     rw [q1, ← P3]
     cases hs : BL .fin (CF p st) with
     | none => rw [MG e1 e2 (by rw [e3, hs])]; dsimp only; congr 1; omega
     | some st' => exact Ip e1 e2 (by rw [e3, hs])
    ·rename_i x e3
     obtain ⟨b1, b2, b3⟩ := Ls e3
     generalize hst1 : CF p st = st1 at *
     obtain ⟨ps, k⟩ := st1
     have hgo : Fx s i st = Fx q (i + p.length + d.length + 4) (ps, (x, false) :: k) := Ip e1 e2 (by rw [e3, hst1]; rfl)
     have ih := Hy n q (i + p.length + d.length + 4) (ps, (x, false) :: k) (by omega)
     rw [show Gd (ps, (x, false) :: k) = [] from b1] at ih
     generalize DP n q (i + p.length + d.length + 4) [] = X at *
     obtain ⟨b, j, en, t⟩ := X
     dsimp only
     obtain ⟨c0, c1, c2, c3, c4, c5⟩ := ih
     dsimp only at c0 c1 c2 c3 c4 c5
     have hxk : (ps, k).2.length = st.2.length := q3
     split
     ·rename_i hen
      obtain ⟨d1, d2, d3⟩ := c4 hen
      have hst3 : BL .els (BP b (ps, (x, false) :: k)) = some (ps, (Fb x b, true) :: k) := rfl
      rw [hst3] at d3
      dsimp only at d3
      have ih2 := Hy n t j (ps, (Fb x b, true) :: k) (by omega)
      rw [show Gd (ps, (Fb x b, true) :: k) = [] from b2] at ih2
      generalize DP n t j [] = Y at *
      obtain ⟨e, j', en', t'⟩ := Y
      dsimp only
      obtain ⟨f0, f1, f2, f3, f4, f5⟩ := ih2
      dsimp only at f0 f1 f2 f3 f4 f5
      split
      ·rename_i hen'
       obtain ⟨g1, g2, g3⟩ := f5 hen'
       have hst4 : BL .fin (BP e (ps, (Fb x b, true) :: k)) = some (Ee (PQ (Fb x b) e) (ps, k)) := rfl
       rw [hst4] at g3
       dsimp only at g3
       obtain ⟨a1, a2, a3⟩ := Hp (PQ (Fb x b) e) (ps, k)
       have ih3 := Hy n t' j' (Ee (PQ (Fb x b) e) (ps, k)) (by omega)
       rw [a1] at ih3
       exact ih3.move (hgo.trans (d3.trans g3)) (by omega) (by omega) (fun l => (a2 l).trans (q2 l)) (by omega)
      ·split
       ·rename_i hen' 
        obtain ⟨g1, g2, g3⟩ := f4 hen'
        have hst4 : BL .els (BP e (ps, (Fb x b, true) :: k)) = none := rfl
        rw [hst4] at g3
        exact ⟨.inr (.inl rfl), fun _ => hgo.trans (d3.trans g3), fun e => (by cases e), fun e => (by cases e), fun e => (by cases e), fun e => (by cases e)⟩
       ·rename_i h6 h5
        rcases f0 with hh | hh | hh | hh | hh
        ·subst hh
         obtain ⟨g1, g2⟩ := f2 rfl
         refine ⟨.inr (.inr (.inr (.inr rfl))), fun e => (by cases e), fun e => (by cases e), fun _ => ⟨by dsimp only; omega, _, hgo.trans (d3.trans g2), ?_⟩, fun e => (by cases e), fun e => (by cases e)⟩
         rw [P5]; simp only [List.length_cons]; simp only at hxk; omega
        ·subst hh
         exact ⟨.inr (.inl rfl), fun _ => hgo.trans (d3.trans (f1 rfl)), fun e => (by cases e), fun e => (by cases e), fun e => (by cases e), fun e => (by cases e)⟩
        ·exact absurd hh h5
        ·exact absurd hh h6
        ·subst hh
         obtain ⟨g1, st', g2, g3⟩ := f3 rfl
         refine ⟨.inr (.inr (.inr (.inr rfl))), fun e => (by cases e), fun e => (by cases e), fun _ => ⟨by dsimp only; omega, st', hgo.trans (d3.trans g2), ?_⟩, fun e => (by cases e), fun e => (by cases e)⟩
         simp only [List.length_cons] at g3; simp only at hxk; omega
     ·split
      ·rename_i hen
       obtain ⟨d1, d2, d3⟩ := c5 hen
       have hst3 : BL .fin (BP b (ps, (x, false) :: k)) = some (Ee (Fb x b) (ps, k)) := rfl
       rw [hst3] at d3
       dsimp only at d3
       obtain ⟨a1, a2, a3⟩ := Hp (Fb x b) (ps, k)
       have ih3 := Hy n t j (Ee (Fb x b) (ps, k)) (by omega)
       rw [a1] at ih3
       exact ih3.move (hgo.trans d3) (by omega) (by omega) (fun l => (a2 l).trans (q2 l)) (by omega)
      ·rename_i h5 h6
       rcases c0 with hh | hh | hh | hh | hh
       ·subst hh
        obtain ⟨g1, g2⟩ := c2 rfl
        refine ⟨.inr (.inr (.inr (.inr rfl))), fun e => (by cases e), fun e => (by cases e), fun _ => ⟨by dsimp only; omega, _, hgo.trans g2, ?_⟩, fun e => (by cases e), fun e => (by cases e)⟩
        rw [P5]; simp only [List.length_cons]; simp only at hxk; omega
       ·subst hh
        exact ⟨.inr (.inl rfl), fun _ => hgo.trans (c1 rfl), fun e => (by cases e), fun e => (by cases e), fun e => (by cases e), fun e => (by cases e)⟩
       ·exact absurd hh h5
       ·exact absurd hh h6
       ·subst hh
        obtain ⟨g1, st', g2, g3⟩ := c3 rfl
        refine ⟨.inr (.inr (.inr (.inr rfl))), fun e => (by cases e), fun e => (by cases e), fun _ => ⟨by dsimp only; omega, st', hgo.trans g2, ?_⟩, fun e => (by cases e), fun e => (by cases e)⟩
        simp only [List.length_cons] at g3; simp only at hxk; omega
def V2 (s : AE) : List Pt × (Int × Int) := if 4000 < s.length then ([], (3, -1)) else match DP (s.length + 1) s 0 [] with
 | (l, j, en, _) => if en = 5 then ([], (1, (j : Int) - 8)) else if en = 6 then ([], (1, (j : Int) - 7)) else if en = 1 ∨ en = 7 then ([], (1, (j : Int)))
  else if (EK l).1 ≠ 0 then ([], EK l) else (l, (0, 0))
theorem Vs (s : AE) : V2 s = JL s := by
 unfold V2 JL
 split
 ·rfl
 ·have h := Hy (s.length + 1) s 0 ([], []) (by omega)
  rw [show Gd ([], []) = [] from rfl] at h
  generalize DP (s.length + 1) s 0 [] = X at *
  obtain ⟨l, j, en, t⟩ := X
  obtain ⟨c0, c1, c2, c3, c4, c5⟩ := h
  dsimp only at c0 c1 c2 c3 c4 c5 ⊢
  rcases c0 with rfl | rfl | rfl | rfl | rfl
  ·rw [(c2 rfl).2]; by_cases h : (EK l).1 = 0 <;> simp [BP, h]
  ·rw [c1 rfl]; simp
  ·obtain ⟨a, b, c⟩ := c4 rfl
   rw [show BL .els (BP l ([], [])) = none from rfl] at c
   rw [c]; simp; omega
  ·obtain ⟨a, b, c⟩ := c5 rfl
   rw [show BL .fin (BP l ([], [])) = none from rfl] at c
   rw [c]; simp; omega
  ·obtain ⟨a, ⟨ps, k⟩, b, c⟩ := c3 rfl
   rw [b]
   have hk : k ≠ [] := by rintro rfl; simp at c
   simp [hk, a]
/-! ### cutting -/
theorem RA (p : AE) (x : UInt8) (r : AE) : Ar p (x :: r) = if p.isPrefixOf (x :: r) then some ([], (x :: r).drop p.length) else (Ar p r).map fun c => (x :: c.1, c.2) := rfl
theorem W1 {c : UInt8} {p : AE} : ∀ {a : AE} (r : AE), c ∉ a → Ar (c :: p) (a ++ ((c :: p) ++ r)) = some (a, r)
 | [], r, _ => by
  show Ar (c :: p) (c :: (p ++ r)) = _
  unfold Ar
  rw [if_pos (by simp [List.isPrefixOf_iff_prefix])]
  simp
 | x :: a, r, h => by
  simp only [List.mem_cons, not_or] at h
  rw [List.cons_append, Ar, if_neg (by simp [h.1]), W1 r h.2]; rfl
theorem TC : ∀ {t : AE}, Ar opS t = none → E1 t = t
 | [], _ => rfl
 | [x], _ => rfl
 | x :: y :: r, h => by
  unfold Ar at h
  split at h
  ·cases h
  ·rename_i hp
   have h1 : Ar opS (y :: r) = none := by simpa using h
   rw [E1, if_neg, TC h1]
   rintro ⟨rfl, rfl⟩
   exact hp rfl
theorem Sx : ∀ {t a b : AE}, Ar opS t = some (a, b) → E1 t = a ++ (Pm ++ E1 b)
 | [], a, b, h => by simp [Ar, opS] at h
 | [x], a, b, h => by simp [Ar, opS] at h
 | x :: y :: r, a, b, h => by
  unfold Ar at h
  split at h
  ·rename_i hp
   simp only [Option.some.injEq, Prod.mk.injEq] at h
   obtain ⟨rfl, rfl⟩ := h
   simp [opS] at hp
   obtain ⟨rfl, rfl⟩ := hp
   rw [E1, if_pos ⟨rfl, rfl⟩]; rfl
  ·rename_i hp
   obtain ⟨c, h1, h2⟩ := Option.map_eq_some_iff.1 h
   injection h2 with e1 e2
   subst e1; subst e2
   rw [E1, if_neg, Sx (a := c.1) (b := c.2) h1]; rfl
   rintro ⟨rfl, rfl⟩
   exact hp rfl
/-! ### names have no signs in them -/
def nmC (c : UInt8) : Bool := Jd c || BK c
theorem ZF {s : AE} (h : Ho s = true) : ∀ c ∈ s, nmC c = true := by
 unfold Ho IK at h
 simp only [Bool.and_eq_true, List.all_eq_true] at h
 exact h.1.2
theorem A5m {s : AE} (h : UH s = true) : ∀ c ∈ s, nmC c = true := by
 unfold UH at h
 simp only [Bool.and_eq_true, decide_eq_true_eq] at h
 obtain ⟨⟨h1, h2⟩, h3⟩ := h
 have he := (Pu h1).1
 intro c hc
 rw [← he] at hc
 have : Lib.itoa (Bg s).1 = Lib.decDigits (Bg s).1.natAbs := by
  unfold Lib.itoa; rw [if_neg (by omega), show (Bg s).1.toNat = (Bg s).1.natAbs by omega]
 rw [this] at hc
 unfold nmC
 rw [EB _ c hc, Bool.or_true]
theorem Zl {pa : List AE} (h : B5 pa = true) : pa ≠ [] ∧ ∀ x ∈ pa, ∀ c ∈ x, nmC c = true := by
 cases pa with
 | nil => cases h
 | cons a r =>
  refine ⟨by simp, ?_⟩
  simp only [B5, Bool.and_eq_true, List.all_eq_true] at h
  intro x hx
  rcases List.mem_cons.1 hx with rfl | hx
  ·exact ZF h.1.2
  ·have := h.2 x hx
   simp only [Bool.or_eq_true] at this
   rcases this with h | h
   ·exact ZF h
   ·exact A5m h
theorem Yw {c : UInt8} {s : AE} (h : ∀ x ∈ s, nmC x = true) (hc : nmC c = false) : c ∉ s := fun hm => by
 have := h c hm; rw [hc] at this; cases this
theorem XZ {sep : AE} : ∀ {l : List AE} {c : UInt8}, c ∈ Lib.join l sep → c ∈ sep ∨ ∃ x ∈ l, c ∈ x
 | [], c, h => by simp [Lib.join] at h
 | [a], c, h => by rw [Lib.join_one] at h; exact .inr ⟨a, by simp, h⟩
 | a :: b :: r, c, h => by
  rw [Lib.join_cons] at h
  rcases List.mem_append.1 h with h | h
  ·exact .inr ⟨a, by simp, h⟩
  ·unfold Lib.joinTail at h
   obtain ⟨y, hy, hc⟩ := List.mem_flatten.1 h
   obtain ⟨x, hx, rfl⟩ := List.mem_map.1 hy
   rcases List.mem_append.1 hc with hc | hc
   ·exact .inl hc
   ·exact .inr ⟨x, List.mem_cons_of_mem _ hx, hc⟩
theorem Vh (c : UInt8) : ∀ (a b : AE), c ∉ a → ∃ h t, Ct c b = h :: t ∧ Ct c (a ++ b) = (a ++ h) :: t
 | [], b, _ => by
  obtain ⟨h, t, e⟩ := List.exists_cons_of_ne_nil (Fu c b)
  exact ⟨h, t, e, e⟩
 | x :: a, b, hx => by
  simp only [List.mem_cons, not_or] at hx
  obtain ⟨h, t, e1, e2⟩ := Vh c a b hx.2
  refine ⟨h, t, e1, ?_⟩
  rw [List.cons_append, Ct, if_neg (fun e => hx.1 e.symm), e2]; rfl
structure FltOk (f : AE × Int) : Prop where
 k : IA f.1 ≠ 0
 lo : 0 ≤ f.2
 hi : f.2 ≤ 200
 z : IA f.1 = 1 → f.2 = 0
theorem YH : ∀ {fs : List (AE × Int)} {i : Nat}, ID i fs = 0 → ∀ f ∈ fs, FltOk f
 | [], _, _, f, h => by simp at h
 | g :: r, i, h, f, hf => by
  unfold ID at h
  split at h
  ·cases h
  ·rename_i h1
   split at h
   ·cases h
   ·rename_i h2
    split at h
    ·cases h
    ·rcases List.mem_cons.1 hf with rfl | hf
     ·simp only [not_or, not_and, Int.not_lt] at h2
      exact ⟨h1, h2.1.1, h2.1.2, fun h => Classical.not_not.1 (h2.2 h)⟩
     ·exact YH h f hf
theorem Z0 {s : AE} (h : IA s ≠ 0) : s ∈ fk1 ++ fk2 := by
 unfold IA at h
 split at h
 ·exact List.mem_append_left _ (by assumption)
 ·split at h
  ·exact List.mem_append_right _ (by assumption)
  ·exact absurd rfl h
structure ParOk (pv k : Int) (t n : AE) (pa : List AE) (fs : List (AE × Int)) (b e : List Pt) : Prop where
 k1 : 1 ≤ k
 k4 : k ≤ 4
 tx : k = 1 ↔ t ≠ []
 nm : k ≠ 4 → n = []
 pt : k = 1 → pa = []
 fl : k ≠ 2 → fs = []
 in_ : k < 3 → b = [] ∧ e = []
 pv : k = 1 → pv ≠ 1
 id_ : k = 4 → Ho n = true
 path : k ≠ 1 → B5 pa = true
 fo : ∀ f ∈ fs, FltOk f
variable {s : AE}
theorem A32 {pv k : Int} {i d : Nat} {t n : AE} {pa : List AE} {fs : List (AE × Int)} {b e : List Pt} (h : Gw pv i d k t n pa fs b e = 0) : ParOk pv k t n pa fs b e := by
 unfold Gw at h
 split at h
 ·cases h
 ·split at h
  ·cases h
  ·split at h
   ·cases h
   ·rename_i hk
    split at h
    ·cases h
    ·rename_i hf
     have hf : RC pv k t n pa fs b e = false := by simpa using hf
     unfold RC at hf
     simp only [Bool.or_eq_false_iff, Bool.and_eq_false_iff, decide_eq_false_iff_not, Classical.not_not] at hf
     obtain ⟨⟨⟨⟨⟨f1, f2⟩, f3⟩, f4⟩, f5⟩, f6⟩ := hf
     unfold Gu at h
     split at h
     ·cases h
     ·rename_i hn
      split at h
      ·cases h
      ·simp only [not_or, not_and, Bool.not_eq_false] at hn
       refine ⟨by omega, by omega, ?_, fun h => f2.resolve_left (fun e => h e), fun h => f3.resolve_left (fun e => e h), fun h => f4.resolve_left (fun e => h e), fun h => f5.resolve_left (by omega), fun h => f6.resolve_left (fun e => e h), hn.1, hn.2, YH h⟩
       by_cases h1 : k = 1 <;> by_cases h2 : t = [] <;> simp [h1, h2] at f1 ⊢
open Go.RowKit
theorem Kl (x c : UInt8) (r : AE) : Lib.index (x :: r) [c] = if x = c then 0 else if Lib.index r [c] = -1 then -1 else Lib.index r [c] + 1 := by
 by_cases h : x = c
 ·subst h; rw [Lib.index]; simp [List.isPrefixOf]
 ·have hp : ([c] : List UInt8).isPrefixOf (x :: r) = false := by simp [List.isPrefixOf, Ne.symm h]
  rw [Lib.index, hp, if_neg h]; simp
theorem Wv (c : UInt8) : Lib.index [] [c] = -1 := by simp [Lib.index]
theorem RX (c : UInt8) : ∀ s : AE, Lib.splitK [c] 0 (Lib.count s [c]) s = Ct c s ∧ Lib.count s [c] + 1 = (Ct c s).length
 | [] => by
  have e : Lib.count [] [c] = 0 := by rw [Lib.count_one]; rfl
  rw [e]; exact ⟨rfl, rfl⟩
 | x :: r => by
  obtain ⟨h1, h2⟩ := RX c r
  by_cases hx : x = c
  ·subst hx
   have e : Lib.count (x :: r) [x] = Lib.count r [x] + 1 := by rw [Lib.count_cons_eq, Nat.add_comm]
   rw [e, Ct, if_pos rfl, Lib.splitK, Kl, if_pos rfl]
   refine ⟨?_, by rw [List.length_cons, h2]⟩
   simpa using h1
  ·have e : Lib.count (x :: r) [c] = Lib.count r [c] := Lib.count_cons_ne _ _ _ hx
   rw [e, Ct, if_neg hx]
   obtain ⟨h, t, e3⟩ := List.exists_cons_of_ne_nil (Fu c r)
   rw [e3] at h1 h2 ⊢
   refine ⟨?_, h2⟩
   have hge := Lib.index_ge r [c]
   cases hk : Lib.count r [c] with
   | zero =>
    rw [hk] at h1
    simp only [Lib.splitK] at h1 ⊢
    injection h1 with h1 h1'
    subst h1; subst h1'; rfl
   | succ k =>
    rw [hk] at h1
    simp only [Lib.splitK] at h1 ⊢
    rw [Kl, if_neg hx]
    by_cases hi : Lib.index r [c] = -1
    ·rw [hi] at h1 ⊢
     simp only [BEq.rfl, if_true] at h1 ⊢
     injection h1 with h1 h1'
     subst h1; subst h1'; rfl
    ·have hn : ¬ (Lib.index r [c] == -1) = true := fun e => hi (beq_iff_eq.1 e)
     rw [if_neg hn] at h1
     rw [if_neg hi]
     have hn2 : ¬ (Lib.index r [c] + 1 == -1) = true := fun e => by have := beq_iff_eq.1 e; omega
     rw [if_neg hn2]
     have e1 : (Lib.index r [c] + 1).toNat = (Lib.index r [c]).toNat + 1 := by omega
     injection h1 with h1 h1'
     rw [e1, ← h1, ← h1']
     have e2 : (Lib.index r [c]).toNat + 1 + [c].length = (Lib.index r [c]).toNat + [c].length + 1 := by omega
     rw [e2]
     rfl
theorem TX (c : UInt8) : ∀ s : AE, Lib.cut s [c] = Cv c s
 | [] => by simp [Lib.cut, Wv, Cv]
 | x :: r => by
  have ih := TX c r
  have hge := Lib.index_ge r [c]
  unfold Lib.cut at ih ⊢
  rw [Kl, Cv]
  by_cases hx : x = c
  ·rw [if_pos hx, if_pos hx]; simp
  ·rw [if_neg hx, if_neg hx]
   by_cases hi : Lib.index r [c] = -1
   ·rw [if_pos hi, if_neg (by omega)]
    rw [hi, if_neg (by omega)] at ih
    rw [← ih]
   ·rw [if_neg hi, if_pos (by omega)]
    rw [if_pos (by omega)] at ih
    have e1 : (Lib.index r [c] + 1).toNat = (Lib.index r [c]).toNat + 1 := by omega
    have e2 : (Lib.index r [c]).toNat + 1 + [c].length = (Lib.index r [c]).toNat + [c].length + 1 := by omega
    rw [← ih, e1, e2]; rfl
theorem Wy (l : List ByteArray) : l.map Value.string = (l.map (·.data.toList)).map fun x => Value.string ⟨x.toArray⟩ := by
 rw [List.map_map]
 exact List.map_congr_left fun x _ => by simp
theorem I1 (s : AE) (c : UInt8) (hs : s.length ≤ 2000000) : APure Tryz.prog 73 [.str s, .str [c]] (CG (Ct c s)) := by
 intro n H hH w0 G w vs hl h0 hrep
 cases hrep with | cons h1 h2 =>
 cases h2 with | cons h3 h4 =>
 cases h4; cases h1; cases h3
 rename_i sb hsb cb hcb
 subst hsb
 obtain ⟨m, hm⟩ := (hl.ext h0.ext).len
 have hsz : cb.size = 1 := by rw [Lib.size_eq, hcb]; rfl
 refine (Any.strings_Split Zh (by kernel_rfl) sb cb m w (by rw [Lib.size_eq]; omega) hm (by omega)).mono ?_
 have hcl := EY c sb.data.toList
 obtain ⟨k1, k2⟩ := RX c sb.data.toList
 have hd := Lib.splitB_data cb 0 (Lib.countB sb cb) sb
 have hcnt : Lib.countB sb cb + 1 = (Ct c sb.data.toList).length := by rw [← k2]; unfold Lib.countB; rw [hcb]
 rw [hcb] at hd
 have hcb2 : Lib.countB sb cb = Lib.count sb.data.toList [c] := by unfold Lib.countB; rw [hcb]
 rw [← hcb2] at k1
 rw [k1] at hd
 have hrow := Wy (Lib.splitB cb 0 (Lib.countB sb cb) sb)
 rw [hd] at hrow
 rw [hcnt, hrow]
 generalize Ct c sb.data.toList = L at *
 rintro e w' ⟨rfl, rfl⟩
 have hrel := h0.newRow (w' := w.alloc (.cells (L.map fun l => Value.string ⟨l.toArray⟩).toArray 9)) (cur := (L.map fun l => Value.string ⟨l.toArray⟩).toArray) (e := 9) (fz := (0, 0)) (vs := L.map fun l => Value.string ⟨l.toArray⟩) (c := none) (ob := none) rfl rfl rfl rfl
  (fun j u hu => by simpa using hu) (fun e' c' hc => by cases hc) (.inl rfl)
 have hle := h0.addLe (L.map fun l => Value.string ⟨l.toArray⟩) none
 have hhi := h0.hi
 refine ⟨_, _, _, n, H, rfl, ⟨rfl, rfl, rfl⟩, .slro (vs := L.map fun l => Value.string ⟨l.toArray⟩) ?_ (Gh.add_sealed _ _ _) ?_ (by simp), hle, Nat.le_refl _, hrel.less h0.lo (by omega) hH ?_⟩
 ·rw [Hj]; exact RY _
 ·refine ⟨by simp, by simp only [maxLen]; omega, by decide, fun x hx => ?_, fun x hx => ?_⟩
  ·obtain ⟨y, _, rfl⟩ := List.mem_map.1 hx; rfl
  ·rw [Hj] at hx; obtain ⟨y, _, rfl⟩ := List.mem_map.1 hx; rfl
 ·intro k hk'
  rw [upd_ne (by omega)]
theorem I7 (s p : AE) (hs : s.length ≤ 2000000) : APure Tryz.prog 41 [.str s, .str p] (.tup [.str (Lib.cut s p).1, .str (Lib.cut s p).2.1, .bool (Lib.cut s p).2.2]) := by
 refine GD fun G vs hr => ⟨.tuple #[.string ⟨(Lib.cut s p).1.toArray⟩, .string ⟨(Lib.cut s p).2.1.toArray⟩, .bool (Lib.cut s p).2.2], fun _ => .tup (.cons (.str (by simp)) (.cons (.str (by simp)) (.cons .bool .nil))), fun w hl => ?_⟩
 cases hr with | cons h1 h2 =>
 cases h2 with | cons h3 h4 =>
 cases h4; cases h1; cases h3
 rename_i s1 hs1 s2 hs2
 obtain ⟨m, hm⟩ := hl.len
 have key := Any.strings_Cut A0i s1 s2 m w (by rw [Lib.size_eq, hs1]; omega) hm
 rw [hs1, hs2] at key
 refine key.mono ?_
 rintro e w' ⟨rfl, k, rfl⟩
 have b := Below.refl w.heap.size w
 exact ⟨rfl, ⟨b.os, b.tape, b.output, b.size, b.block⟩⟩
theorem TQ (s : AE) (c : UInt8) (hs : s.length ≤ 2000000) : APure Tryz.prog 41 [.str s, .str [c]] (.tup [.str (Cv c s).1, .str (Cv c s).2.1, .bool (Cv c s).2.2]) := by
 have h := I7 s [c] hs
 rw [TX] at h
 exact h
theorem MF (s p : AE) (hs : s.length ≤ 2000000) : APure Tryz.prog 39 [.str s, .str p] (aI (Lib.index s p)) := by
 refine GD fun G vs hr => ⟨.int .i64 (Lib.index s p), fun _ => .int, fun w hl => ?_⟩
 cases hr with | cons h1 h2 =>
 cases h2 with | cons h3 h4 =>
 cases h4; cases h1; cases h3
 rename_i s1 hs1 s2 hs2
 obtain ⟨m, hm⟩ := hl.len
 have key := Any.strings_Index Zj s1 s2 m w (by rw [Lib.size_eq, hs1]; omega) hm
 rw [hs1, hs2] at key
 refine key.mono ?_
 rintro e w' ⟨rfl, rfl⟩
 exact ⟨rfl, Below.refl _ _⟩
theorem Rr {v : Int} (h : Lib.atoiAll s = .ok v) (hs : s.length ≤ 2000000) : APure Tryz.prog 115 [.str s] (.tup [aI v, .nif]) := by
 refine GD fun G vs hr => ⟨.tuple #[.int .i64 v, .nilIface], fun _ => .tup (.cons .int (.cons .nif .nil)), fun w hl => ?_⟩
 cases hr with | cons h1 h2 =>
 cases h2; cases h1
 rename_i s1 hs1
 refine (Any.strconv_Atoi_ok PR s1 (by rw [Lib.size_eq, hs1]; omega) v (by rw [hs1]; exact h) w).mono ?_
 rintro e w' ⟨rfl, h2⟩
 refine ⟨rfl, ?_⟩
 rcases h2 with rfl | ⟨t, rfl⟩
 ·exact Below.refl _ _
 ·exact Lib.bytesWorld_below _ _ _
theorem Tn {P : Program} {f : Nat} {n : Int} {t : Nat} (h : ∀ (s1 : ByteArray) (w : World), s1.data.toList = s → Laid w → Calls P f #[.string s1] w fun e w' => ∃ N, e = .returned (.tuple #[.int .i64 n, .iface t (.pointer (some ⟨N, 0, none⟩))]) ∧ Below w.heap.size w w') : APure P f [.str s] (.tup [aI n, .ifc t .any]) := by
 intro n0 H hs w0 G w vs hl h0 hrep
 cases hrep with | cons h1 h2 =>
 cases h2; cases h1
 rename_i s1 hs1
 refine (h s1 w hs1 (hl.ext h0.ext)).mono ?_
 rintro e w' ⟨N, rfl, hb⟩
 exact ⟨_, _, G, n0, H, rfl, ⟨rfl, rfl, rfl⟩, .tup (.cons .int (.cons (.ifc .any) .nil)), Gh.Le.rfl_ _, Nat.le_refl _, Ms h0 hb⟩
theorem Th (h0 : ∀ v, Lib.atoiAll s ≠ .ok v) (h2 : Lib.atoiAll s ≠ .range) (hs : s.length ≤ 2000000) : APure Tryz.prog 115 [.str s] (.tup [aI 0, .ifc 207 .any]) := by
 refine Tn fun s1 w hs1 hl => ?_
 obtain ⟨ev, hv, hev⟩ := hl.syn
 refine (Any.strconv_Atoi_syntax PR s1 (by rw [Lib.size_eq, hs1]; omega) (by rw [hs1]; revert h0 h2; cases Lib.atoiAll s <;> simp) ev w hv hev).mono ?_
 rintro e w' ⟨k, rfl, _, _, hb⟩
 exact ⟨k, rfl, hb⟩
theorem Yu (h : Lib.atoiAll s = .range) (hs : s.length ≤ 2000000) : APure Tryz.prog 115 [.str s] (.tup [aI (Lib.atoiSat s), .ifc 207 .any]) := by
 refine Tn fun s1 w hs1 hl => ?_
 obtain ⟨ev, hv, hev⟩ := hl.rng
 have key := Any.strconv_Atoi_range PR s1 (by rw [Lib.size_eq, hs1]; omega) (by rw [hs1]; exact h) ev w hv hev
 rw [hs1] at key
 refine key.mono ?_
 rintro e w' ⟨k, rfl, _, _, hb⟩
 exact ⟨k, rfl, hb⟩
open Go.RowKit
theorem Id {p : AE} (hp : p ≠ []) : ∀ s : AE, (Ar p s = none ∧ Lib.index s p = -1) ∨ ∃ a b, Ar p s = some (a, b) ∧ Lib.index s p = (a.length : Int)
 | [] => .inl ⟨by unfold Ar; rw [if_neg hp], by unfold Lib.index; cases p with | nil => exact absurd rfl hp | cons _ _ => rfl⟩
 | x :: r => by
  rw [RA, Lib.index]
  by_cases h : p.isPrefixOf (x :: r) = true
  ·rw [if_pos h, if_pos h]; exact .inr ⟨_, _, rfl, rfl⟩
  ·rw [if_neg h, if_neg h]
   rcases Id hp r with ⟨h1, h2⟩ | ⟨a, b, h1, h2⟩
   ·left; rw [h1, h2]; exact ⟨rfl, rfl⟩
   ·right
    rw [h1, h2]
    refine ⟨x :: a, b, rfl, ?_⟩
    have hn : ¬ ((a.length : Int) == -1) = true := fun e => by have := beq_iff_eq.1 e; omega
    rw [if_neg hn]; simp
theorem UF {p : AE} (hp : p ≠ []) (s : AE) : Lib.cut s p = match Ar p s with | none => (s, [], false) | some (a, b) => (a, b, true) := by
 unfold Lib.cut
 rcases Id hp s with ⟨h1, h2⟩ | ⟨a, b, h1, h2⟩
 ·rw [h1, h2, if_neg (by omega)]
 ·rw [h1, h2, if_pos (by omega)]
  have := F8 h1
  subst this
  have e : a ++ (p ++ b) = (a ++ p) ++ b := (List.append_assoc _ _ _).symm
  have e2 : ((a.length : Int).toNat + p.length) = (a ++ p).length := by simp
  simp only [Int.toNat_natCast] at e2 ⊢
  rw [e2, List.take_left, e, List.drop_left]
theorem Tm : ∀ (n : Nat) (s : AE), s.length < n → Lib.replaceK opS Pm (Lib.countFrom opS n s) s = E1 s
 | 0, _, h => by omega
 | n + 1, s, h => by
  have hp : opS ≠ [] := by decide
  unfold Lib.countFrom
  rcases Id hp s with ⟨h1, h2⟩ | ⟨a, b, h1, h2⟩
  ·rw [h2]; simp only [BEq.rfl, if_true, Lib.replaceK]; exact (TC h1).symm
  ·have hn : ¬ (Lib.index s opS == -1) = true := fun e => by have := beq_iff_eq.1 e; omega
   rw [if_neg hn, h2, Nat.add_comm 1, Lib.replaceK_hit _ _ _ _ _ h2]
   have e := F8 h1
   have hd : s.drop ((a.length : Int).toNat + opS.length) = b := by
    subst e
    have e2 : ((a.length : Int).toNat + opS.length) = (a ++ opS).length := by simp
    rw [e2, ← List.append_assoc, List.drop_left]
   have ht : s.take a.length = a := by subst e; rw [List.take_left]
   have hd' : s.drop (a.length + opS.length) = b := by simpa using hd
   rw [hd, ht, hd', Tm n b (by have := Bk h1; simp [opS] at this; omega), Sx h1, List.append_assoc]
theorem Zw (s : AE) : Lib.replaceAll s opS Pm = E1 s := by
 unfold Lib.replaceAll Lib.replace
 rw [if_neg (by decide)]
 unfold Lib.replaceNum
 rw [if_pos (by omega)]
 exact Tm _ s (by omega)
theorem A1p (s : AE) (hs : s.length ≤ 2000000) : APure Tryz.prog 63 [.str s, .str opS, .str Pm] (.str (E1 s)) := by
 refine GD fun G vs hr => ⟨.string ⟨(E1 s).toArray⟩, fun _ => .str (by simp), fun w hl => ?_⟩
 cases hr with | cons h1 h2 =>
 cases h2 with | cons h3 h4 =>
 cases h4 with | cons h5 h6 =>
 cases h6; cases h1; cases h3; cases h5
 rename_i s1 hs1 s2 hs2 s3 hs3
 obtain ⟨m, hm⟩ := hl.len
 have z2 : s2.size = 2 := by rw [Lib.size_eq, hs2]; rfl
 have z3 : s3.size = 8 := by rw [Lib.size_eq, hs3]; rfl
 have z1 : s1.size = s.length := by rw [Lib.size_eq, hs1]
 have hc := Lib.countB_mul_le s2 (by omega) s1.size s1 (Nat.le_refl _)
 have key := Any.strings_ReplaceAll A0r Lx s1 s2 s3 m w (by omega) hm (by omega) (by rw [z3]; rw [z2] at hc; omega)
 rw [hs1, hs2, hs3, Zw] at key
 refine key.mono ?_
 rintro e w' ⟨rfl, hb⟩
 exact ⟨rfl, hb⟩
theorem A0n (s : AE) (hs : s.length ≤ 2000000) (ha : ∀ b ∈ s, b.toNat < 128) : APure Tryz.prog 171 [.str s] (aI s.length) := by
 refine GD fun G vs hr => ⟨.int .i64 s.length, fun _ => .int, fun w hl => ?_⟩
 cases hr with | cons h1 h2 =>
 cases h2; cases h1
 rename_i s1 hs1
 refine (Any.utf8_RuneCountInString_ascii Zo s1 w (by rw [Lib.size_eq, hs1]; omega) (fun j b hj => ha b (by rw [← hs1]; exact List.mem_of_getElem? hj))).mono ?_
 rintro e w' ⟨rfl, rfl⟩
 refine ⟨by rw [Lib.size_eq, hs1], ?_⟩
 have b := Below.refl w.heap.size w
 refine ⟨b.os, b.tape, b.output, ?_, fun j hj => ?_⟩
 ·simp [World.iter]
 ·simp only [World.iter]
  first | exact heap_alloc_old w _ hj | exact Go.heap_alloc_old w _ j hj
end Go.Proofs.YtnfjgphfaemjcaaGreatDoor
