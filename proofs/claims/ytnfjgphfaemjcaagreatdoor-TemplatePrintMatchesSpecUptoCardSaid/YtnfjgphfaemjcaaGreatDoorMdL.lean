/- That the library texts at this seat are those that the contracts of the shelf speak of; no condition. -/
import Derived.Shelf.Strings.Fields
import Derived.Shelf.Strconv.Itoa3
import Derived.Shelf.Strings.OnBuilder
import Derived.Test.YtnfjgphfaemjcaaGreatDoorProg
import Derived.Shelf.Strings.Split
import Derived.Shelf.Strings.Cut
import Derived.Shelf.Strings.Prefix
import Derived.Shelf.Strconv.AtoiAll
import Derived.Shelf.Strings.Repeat
import Derived.Shelf.Strings.Replace
import Derived.Shelf.Strings.RuneCount
import Derived.Shelf.Utf8.RuneCount
import Derived.Test.YtnfjgphfaemjcaaGreatDoorMgA
import Derived.Test.YtnfjgphfaemjcaaGreatDoorMgI
import Derived.Test.YtnfjgphfaemjcaaGreatDoorAdE
import Derived.Lib.AppendIntMem
import Derived.Lib.AtoiAllCases
import Derived.Lib.ItoaLen
import Derived.Lib.Split
import Derived.Lib.SplitLaws
import Derived.Lib.ValidLaws
set_option linter.all false
set_option linter.unusedSimpArgs false
set_option linter.unusedVariables false
namespace Go.Proofs.YtnfjgphfaemjcaaGreatDoor
open Go.Shelf
def OK : Go.Shelf.Ren := ⟨fun | 171 => 65 | 243 => 103 | 246 => 141 | 283 => 174 | 284 => 175 | 285 => 176 | 286 => 177 | 129 => 201 | 317 => 200 | 318 => 202 | 319 => 203 | 320 => 204 | 337 => 217 | 338 => 218 | n => n, fun | 3 => 3 | 9 => 9 | 2 => 2 | 4 => 4 | 171 => 197 | 0 => 0 | 53 => 198 | 37 => 84 | 5 => 5 | 173 => 201 | 212 => 228 | 51 => 185 | 20 => 20 | 213 => 229 | 46 => 157 | 232 => 254 | 233 => 255 | n => n, fun | 17 => 3 | 18 => 8 | 19 => 9 | n => n⟩
theorem Tt : Go.Proofs.LaysM.n171 Tryz.prog OK := {
 mixed := by kernel_rfl
 f129 := Tryz.func201.trans (congrArg some (by kernel_rfl))
 f171 := Tryz.func65.trans (congrArg some (by kernel_rfl))
 f243 := Tryz.func103.trans (congrArg some (by kernel_rfl))
 f246 := Tryz.func141.trans (congrArg some (by kernel_rfl))
 f283 := Tryz.func174.trans (congrArg some (by kernel_rfl))
 f284 := Tryz.func175.trans (congrArg some (by kernel_rfl))
 f285 := Tryz.func176.trans (congrArg some (by kernel_rfl))
 f286 := Tryz.func177.trans (congrArg some (by kernel_rfl))
 f317 := Tryz.func200.trans (congrArg some (by kernel_rfl))
 f318 := Tryz.func202.trans (congrArg some (by kernel_rfl))
 f319 := Tryz.func203.trans (congrArg some (by kernel_rfl))
 f320 := Tryz.func204.trans (congrArg some (by kernel_rfl))
 f337 := Tryz.func217.trans (congrArg some (by kernel_rfl))
 f338 := Tryz.func218.trans (congrArg some (by kernel_rfl))
 t0 := Tryz.underlying0
 a0 := Tryz.isAgg0
 z0 := Tryz.sizeOf0
 v0 := Tryz.zeroValue0
 t2 := Tryz.underlying2
 a2 := Tryz.isAgg2
 z2 := Tryz.sizeOf2
 v2 := Tryz.zeroValue2
 t3 := Tryz.underlying3
 a3 := Tryz.isAgg3
 z3 := Tryz.sizeOf3
 v3 := Tryz.zeroValue3
 t4 := Tryz.underlying4
 a4 := Tryz.isAgg4
 z4 := Tryz.sizeOf4
 v4 := Tryz.zeroValue4
 t5 := Tryz.underlying5
 a5 := Tryz.isAgg5
 z5 := Tryz.sizeOf5
 v5 := Tryz.zeroValue5
 t9 := Tryz.underlying9
 a9 := Tryz.isAgg9
 z9 := Tryz.sizeOf9
 v9 := Tryz.zeroValue9
 t20 := Tryz.underlying20
 a20 := Tryz.isAgg20
 z20 := Tryz.sizeOf20
 v20 := Tryz.zeroValue20
 t37 := Tryz.underlying84
 a37 := Tryz.isAgg84
 z37 := Tryz.sizeOf84
 v37 := Tryz.zeroValue84
 t46 := Tryz.underlying157
 a46 := Tryz.isAgg157
 z46 := Tryz.sizeOf157
 v46 := Tryz.zeroValue157
 t51 := Tryz.underlying185
 a51 := Tryz.isAgg185
 z51 := Tryz.sizeOf185
 v51 := Tryz.zeroValue185
 t53 := Tryz.underlying198
 a53 := Tryz.isAgg198
 z53 := Tryz.sizeOf198
 v53 := Tryz.zeroValue198
 t171 := Tryz.underlying197
 a171 := Tryz.isAgg197
 z171 := Tryz.sizeOf197
 v171 := Tryz.zeroValue197
 t173 := Tryz.underlying201
 a173 := Tryz.isAgg201
 z173 := Tryz.sizeOf201
 v173 := Tryz.zeroValue201
 t212 := Tryz.underlying228
 a212 := Tryz.isAgg228
 z212 := Tryz.sizeOf228
 v212 := Tryz.zeroValue228
 t213 := Tryz.underlying229
 a213 := Tryz.isAgg229
 z213 := Tryz.sizeOf229
 t232 := Tryz.underlying254
 a232 := Tryz.isAgg254
 z232 := Tryz.sizeOf254
 v232 := Tryz.zeroValue254
 t233 := Tryz.underlying255
 a233 := Tryz.isAgg255
 z233 := Tryz.sizeOf255
 v233 := Tryz.zeroValue255
 g17 := by kernel_rfl
 g18 := by kernel_rfl
 g19 := by kernel_rfl
 i0 := by kernel_rfl
 i2 := by kernel_rfl
 i3 := by kernel_rfl
 i4 := by kernel_rfl
 i5 := by kernel_rfl
 i9 := by kernel_rfl
 i20 := by kernel_rfl
 i37 := by kernel_rfl
 i46 := by kernel_rfl
 i51 := by kernel_rfl
 i53 := by kernel_rfl
 i171 := by kernel_rfl
 i173 := by kernel_rfl
 i212 := by kernel_rfl
 i232 := by kernel_rfl
 i233 := by kernel_rfl
 m17 := by kernel_rfl
 m18 := by kernel_rfl
 m19 := by kernel_rfl }
def Ir : Go.Shelf.Ren := ⟨fun | 156 => 52 | 165 => 90 | 166 => 62 | 169 => 47 | 240 => 101 | 241 => 129 | 276 => 138 | 277 => 164 | n => n, fun | 31 => 35 | 9 => 9 | 3 => 3 | 4 => 4 | 0 => 0 | 20 => 20 | 72 => 86 | 76 => 114 | 70 => 83 | 37 => 84 | 75 => 113 | 127 => 139 | 164 => 178 | 5 => 5 | 80 => 90 | n => n, fun | n => n⟩
theorem Rz : Go.Proofs.Lays.n156 Tryz.prog Ir := {
 mixed := by kernel_rfl
 f156 := Tryz.func52.trans (congrArg some (by kernel_rfl))
 f165 := Tryz.func90.trans (congrArg some (by kernel_rfl))
 f166 := Tryz.func62.trans (congrArg some (by kernel_rfl))
 f169 := Tryz.func47.trans (congrArg some (by kernel_rfl))
 f240 := Tryz.func101.trans (congrArg some (by kernel_rfl))
 f241 := Tryz.func129.trans (congrArg some (by kernel_rfl))
 f276 := Tryz.func138.trans (congrArg some (by kernel_rfl))
 f277 := Tryz.func164.trans (congrArg some (by kernel_rfl))
 t0 := Tryz.underlying0
 a0 := Tryz.isAgg0
 z0 := Tryz.sizeOf0
 v0 := Tryz.zeroValue0
 t3 := Tryz.underlying3
 a3 := Tryz.isAgg3
 z3 := Tryz.sizeOf3
 v3 := Tryz.zeroValue3
 t4 := Tryz.underlying4
 a4 := Tryz.isAgg4
 z4 := Tryz.sizeOf4
 v4 := Tryz.zeroValue4
 t9 := Tryz.underlying9
 a9 := Tryz.isAgg9
 z9 := Tryz.sizeOf9
 v9 := Tryz.zeroValue9
 t20 := Tryz.underlying20
 a20 := Tryz.isAgg20
 z20 := Tryz.sizeOf20
 v20 := Tryz.zeroValue20
 t31 := Tryz.underlying35
 a31 := Tryz.isAgg35
 z31 := Tryz.sizeOf35
 v31 := Tryz.zeroValue35
 t37 := Tryz.underlying84
 a37 := Tryz.isAgg84
 z37 := Tryz.sizeOf84
 v37 := Tryz.zeroValue84
 t70 := Tryz.underlying83
 a70 := Tryz.isAgg83
 z70 := Tryz.sizeOf83
 v70 := Tryz.zeroValue83
 t72 := Tryz.underlying86
 a72 := Tryz.isAgg86
 z72 := Tryz.sizeOf86
 v72 := Tryz.zeroValue86
 t75 := Tryz.underlying113
 a75 := Tryz.isAgg113
 z75 := Tryz.sizeOf113
 v75 := Tryz.zeroValue113
 t76 := Tryz.underlying114
 a76 := Tryz.isAgg114
 z76 := Tryz.sizeOf114
 v76 := Tryz.zeroValue114
 t127 := Tryz.underlying139
 a127 := Tryz.isAgg139
 z127 := Tryz.sizeOf139
 v127 := Tryz.zeroValue139
 t164 := Tryz.underlying178
 a164 := Tryz.isAgg178
 z164 := Tryz.sizeOf178
 v164 := Tryz.zeroValue178 }
theorem EX : Builder.Extra Tryz.prog Ir := {
 sizeBuilder := by kernel_rfl
 liesBuilder := by kernel_rfl
 t5 := Tryz.underlying5
 a5 := Tryz.isAgg5
 z5 := Tryz.sizeOf5
 v5 := Tryz.zeroValue5
 infoByte := by kernel_rfl
 cellsByte := by kernel_rfl
 sizeByte := by kernel_rfl
 neB5 := by decide }
def PF : Go.Shelf.Ren := ⟨fun | 157 => 178 | 229 => 205 | 199 => 206 | 261 => 219 | 311 => 224 | 312 => 225 | n => n, fun | 9 => 9 | 31 => 35 | 3 => 3 | 5 => 5 | 4 => 4 | 119 => 211 | 0 => 0 | 40 => 233 | 152 => 244 | 21 => 21 | 154 => 246 | 51 => 185 | 141 => 248 | 196 => 259 | 193 => 256 | 198 => 262 | 49 => 260 | 194 => 257 | 201 => 265 | 226 => 267 | 46 => 157 | 227 => 268 | n => n, fun | 0 => 4 | 6 => 7 | n => n⟩
theorem VN : Go.Proofs.Lays.n157 Tryz.prog PF := {
 mixed := by kernel_rfl
 f157 := Tryz.func178.trans (congrArg some (by kernel_rfl))
 f199 := Tryz.func206.trans (congrArg some (by kernel_rfl))
 f229 := Tryz.func205.trans (congrArg some (by kernel_rfl))
 f261 := Tryz.func219.trans (congrArg some (by kernel_rfl))
 f311 := Tryz.func224.trans (congrArg some (by kernel_rfl))
 f312 := Tryz.func225.trans (congrArg some (by kernel_rfl))
 t0 := Tryz.underlying0
 a0 := Tryz.isAgg0
 z0 := Tryz.sizeOf0
 v0 := Tryz.zeroValue0
 t3 := Tryz.underlying3
 a3 := Tryz.isAgg3
 z3 := Tryz.sizeOf3
 v3 := Tryz.zeroValue3
 t4 := Tryz.underlying4
 a4 := Tryz.isAgg4
 z4 := Tryz.sizeOf4
 v4 := Tryz.zeroValue4
 t5 := Tryz.underlying5
 a5 := Tryz.isAgg5
 z5 := Tryz.sizeOf5
 v5 := Tryz.zeroValue5
 t9 := Tryz.underlying9
 a9 := Tryz.isAgg9
 z9 := Tryz.sizeOf9
 v9 := Tryz.zeroValue9
 t21 := Tryz.underlying21
 a21 := Tryz.isAgg21
 z21 := Tryz.sizeOf21
 v21 := Tryz.zeroValue21
 t31 := Tryz.underlying35
 a31 := Tryz.isAgg35
 z31 := Tryz.sizeOf35
 v31 := Tryz.zeroValue35
 t40 := Tryz.underlying233
 a40 := Tryz.isAgg233
 z40 := Tryz.sizeOf233
 v40 := Tryz.zeroValue233
 t46 := Tryz.underlying157
 a46 := Tryz.isAgg157
 z46 := Tryz.sizeOf157
 v46 := Tryz.zeroValue157
 t49 := Tryz.underlying260
 a49 := Tryz.isAgg260
 z49 := Tryz.sizeOf260
 v49 := Tryz.zeroValue260
 t51 := Tryz.underlying185
 a51 := Tryz.isAgg185
 z51 := Tryz.sizeOf185
 v51 := Tryz.zeroValue185
 t119 := Tryz.underlying211
 a119 := Tryz.isAgg211
 z119 := Tryz.sizeOf211
 t141 := Tryz.underlying248
 a141 := Tryz.isAgg248
 z141 := Tryz.sizeOf248
 v141 := Tryz.zeroValue248
 t152 := Tryz.underlying244
 a152 := Tryz.isAgg244
 z152 := Tryz.sizeOf244
 v152 := Tryz.zeroValue244
 t154 := Tryz.underlying246
 a154 := Tryz.isAgg246
 z154 := Tryz.sizeOf246
 v154 := Tryz.zeroValue246
 t193 := Tryz.underlying256
 a193 := Tryz.isAgg256
 z193 := Tryz.sizeOf256
 v193 := Tryz.zeroValue256
 t194 := Tryz.underlying257
 a194 := Tryz.isAgg257
 z194 := Tryz.sizeOf257
 v194 := Tryz.zeroValue257
 t196 := Tryz.underlying259
 a196 := Tryz.isAgg259
 z196 := Tryz.sizeOf259
 v196 := Tryz.zeroValue259
 t198 := Tryz.underlying262
 a198 := Tryz.isAgg262
 z198 := Tryz.sizeOf262
 v198 := Tryz.zeroValue262
 t201 := Tryz.underlying265
 a201 := Tryz.isAgg265
 z201 := Tryz.sizeOf265
 v201 := Tryz.zeroValue265
 t226 := Tryz.underlying267
 a226 := Tryz.isAgg267
 z226 := Tryz.sizeOf267
 v226 := Tryz.zeroValue267
 t227 := Tryz.underlying268
 a227 := Tryz.isAgg268
 z227 := Tryz.sizeOf268
 v227 := Tryz.zeroValue268
 g0 := by kernel_rfl
 g6 := by kernel_rfl }
open Go.Shelf
def P2 : Go.Shelf.Ren := ⟨fun | 145 => 41 | 220 => 71 | 219 => 69 | 217 => 109 | 225 => 110 | 224 => 111 | 267 => 112 | 266 => 149 | 314 => 150 | n => n, fun | 9 => 9 | 4 => 4 | 59 => 77 | 3 => 3 | 5 => 5 | 46 => 157 | 146 => 186 | 51 => 185 | n => n, fun | 1 => 0 | n => n⟩
theorem Uk : Go.Proofs.Lays.n145 Tryz.prog P2 := {
 mixed := by kernel_rfl
 f145 := Tryz.func41.trans (congrArg some (by kernel_rfl))
 f217 := Tryz.func109.trans (congrArg some (by kernel_rfl))
 f219 := Tryz.func69.trans (congrArg some (by kernel_rfl))
 f220 := Tryz.func71.trans (congrArg some (by kernel_rfl))
 f224 := Tryz.func111.trans (congrArg some (by kernel_rfl))
 f225 := Tryz.func110.trans (congrArg some (by kernel_rfl))
 f266 := Tryz.func149.trans (congrArg some (by kernel_rfl))
 f267 := Tryz.func112.trans (congrArg some (by kernel_rfl))
 f314 := Tryz.func150.trans (congrArg some (by kernel_rfl))
 t3 := Tryz.underlying3
 a3 := Tryz.isAgg3
 z3 := Tryz.sizeOf3
 v3 := Tryz.zeroValue3
 t4 := Tryz.underlying4
 a4 := Tryz.isAgg4
 z4 := Tryz.sizeOf4
 v4 := Tryz.zeroValue4
 t5 := Tryz.underlying5
 a5 := Tryz.isAgg5
 z5 := Tryz.sizeOf5
 v5 := Tryz.zeroValue5
 t9 := Tryz.underlying9
 a9 := Tryz.isAgg9
 z9 := Tryz.sizeOf9
 v9 := Tryz.zeroValue9
 t46 := Tryz.underlying157
 a46 := Tryz.isAgg157
 z46 := Tryz.sizeOf157
 v46 := Tryz.zeroValue157
 t51 := Tryz.underlying185
 a51 := Tryz.isAgg185
 z51 := Tryz.sizeOf185
 v51 := Tryz.zeroValue185
 t59 := Tryz.underlying77
 a59 := Tryz.isAgg77
 z59 := Tryz.sizeOf77
 v59 := Tryz.zeroValue77
 t146 := Tryz.underlying186
 a146 := Tryz.isAgg186
 z146 := Tryz.sizeOf186
 v146 := Tryz.zeroValue186
 g1 := by kernel_rfl }
def P8 : Go.Shelf.Ren := ⟨fun | 146 => 73 | 221 => 113 | 268 => 151 | 138 => 139 | 143 => 39 | 195 => 171 | 197 => 140 | 218 => 172 | 219 => 69 | 260 => 173 | 217 => 109 | 225 => 110 | 224 => 111 | 267 => 112 | 266 => 149 | 314 => 150 | n => n, fun | 9 => 9 | 31 => 35 | 3 => 3 | 4 => 4 | 0 => 0 | 105 => 180 | 21 => 21 | 5 => 5 | 46 => 157 | 119 => 211 | 139 => 214 | 138 => 213 | 146 => 186 | 51 => 185 | n => n, fun | 1 => 0 | 3 => 1 | 4 => 2 | n => n⟩
theorem Un : Go.Proofs.Lays.n146 Tryz.prog P8 := {
 mixed := by kernel_rfl
 f138 := Tryz.func139.trans (congrArg some (by kernel_rfl))
 f143 := Tryz.func39.trans (congrArg some (by kernel_rfl))
 f146 := Tryz.func73.trans (congrArg some (by kernel_rfl))
 f195 := Tryz.func171.trans (congrArg some (by kernel_rfl))
 f197 := Tryz.func140.trans (congrArg some (by kernel_rfl))
 f217 := Tryz.func109.trans (congrArg some (by kernel_rfl))
 f218 := Tryz.func172.trans (congrArg some (by kernel_rfl))
 f219 := Tryz.func69.trans (congrArg some (by kernel_rfl))
 f221 := Tryz.func113.trans (congrArg some (by kernel_rfl))
 f224 := Tryz.func111.trans (congrArg some (by kernel_rfl))
 f225 := Tryz.func110.trans (congrArg some (by kernel_rfl))
 f260 := Tryz.func173.trans (congrArg some (by kernel_rfl))
 f266 := Tryz.func149.trans (congrArg some (by kernel_rfl))
 f267 := Tryz.func112.trans (congrArg some (by kernel_rfl))
 f268 := Tryz.func151.trans (congrArg some (by kernel_rfl))
 f314 := Tryz.func150.trans (congrArg some (by kernel_rfl))
 t0 := Tryz.underlying0
 a0 := Tryz.isAgg0
 z0 := Tryz.sizeOf0
 v0 := Tryz.zeroValue0
 t3 := Tryz.underlying3
 a3 := Tryz.isAgg3
 z3 := Tryz.sizeOf3
 v3 := Tryz.zeroValue3
 t4 := Tryz.underlying4
 a4 := Tryz.isAgg4
 z4 := Tryz.sizeOf4
 v4 := Tryz.zeroValue4
 t5 := Tryz.underlying5
 a5 := Tryz.isAgg5
 z5 := Tryz.sizeOf5
 v5 := Tryz.zeroValue5
 t9 := Tryz.underlying9
 a9 := Tryz.isAgg9
 z9 := Tryz.sizeOf9
 v9 := Tryz.zeroValue9
 t21 := Tryz.underlying21
 a21 := Tryz.isAgg21
 z21 := Tryz.sizeOf21
 v21 := Tryz.zeroValue21
 t31 := Tryz.underlying35
 a31 := Tryz.isAgg35
 z31 := Tryz.sizeOf35
 v31 := Tryz.zeroValue35
 t46 := Tryz.underlying157
 a46 := Tryz.isAgg157
 z46 := Tryz.sizeOf157
 v46 := Tryz.zeroValue157
 t51 := Tryz.underlying185
 a51 := Tryz.isAgg185
 z51 := Tryz.sizeOf185
 v51 := Tryz.zeroValue185
 t105 := Tryz.underlying180
 a105 := Tryz.isAgg180
 z105 := Tryz.sizeOf180
 v105 := Tryz.zeroValue180
 t119 := Tryz.underlying211
 a119 := Tryz.isAgg211
 z119 := Tryz.sizeOf211
 t138 := Tryz.underlying213
 a138 := Tryz.isAgg213
 z138 := Tryz.sizeOf213
 v138 := Tryz.zeroValue213
 t139 := Tryz.underlying214
 a139 := Tryz.isAgg214
 z139 := Tryz.sizeOf214
 v139 := Tryz.zeroValue214
 t146 := Tryz.underlying186
 a146 := Tryz.isAgg186
 z146 := Tryz.sizeOf186
 v146 := Tryz.zeroValue186
 g1 := by kernel_rfl
 g3 := by kernel_rfl
 g4 := by kernel_rfl }
def Pj : Go.Shelf.Ren := ⟨fun | 143 => 39 | 219 => 69 | 217 => 109 | 225 => 110 | 224 => 111 | 267 => 112 | 266 => 149 | 314 => 150 | n => n, fun | 9 => 9 | 3 => 3 | 4 => 4 | 5 => 5 | 46 => 157 | 146 => 186 | 51 => 185 | n => n, fun | 1 => 0 | n => n⟩
theorem VY : Go.Proofs.Lays.n143 Tryz.prog Pj := {
 mixed := by kernel_rfl
 f143 := Tryz.func39.trans (congrArg some (by kernel_rfl))
 f217 := Tryz.func109.trans (congrArg some (by kernel_rfl))
 f219 := Tryz.func69.trans (congrArg some (by kernel_rfl))
 f224 := Tryz.func111.trans (congrArg some (by kernel_rfl))
 f225 := Tryz.func110.trans (congrArg some (by kernel_rfl))
 f266 := Tryz.func149.trans (congrArg some (by kernel_rfl))
 f267 := Tryz.func112.trans (congrArg some (by kernel_rfl))
 f314 := Tryz.func150.trans (congrArg some (by kernel_rfl))
 t3 := Tryz.underlying3
 a3 := Tryz.isAgg3
 z3 := Tryz.sizeOf3
 v3 := Tryz.zeroValue3
 t4 := Tryz.underlying4
 a4 := Tryz.isAgg4
 z4 := Tryz.sizeOf4
 v4 := Tryz.zeroValue4
 t5 := Tryz.underlying5
 a5 := Tryz.isAgg5
 z5 := Tryz.sizeOf5
 v5 := Tryz.zeroValue5
 t9 := Tryz.underlying9
 a9 := Tryz.isAgg9
 z9 := Tryz.sizeOf9
 v9 := Tryz.zeroValue9
 t46 := Tryz.underlying157
 a46 := Tryz.isAgg157
 z46 := Tryz.sizeOf157
 v46 := Tryz.zeroValue157
 t51 := Tryz.underlying185
 a51 := Tryz.isAgg185
 z51 := Tryz.sizeOf185
 v51 := Tryz.zeroValue185
 t146 := Tryz.underlying186
 a146 := Tryz.isAgg186
 z146 := Tryz.sizeOf186
 v146 := Tryz.zeroValue186
 g1 := by kernel_rfl }
def Mf : Go.Shelf.Ren := ⟨fun | 172 => 115 | 244 => 152 | 245 => 153 | 247 => 180 | 279 => 181 | 280 => 182 | 281 => 183 | 282 => 184 | 287 => 207 | 316 => 208 | 171 => 65 | 205 => 209 | 321 => 220 | 322 => 221 | 243 => 103 | 246 => 141 | 283 => 174 | 284 => 175 | 285 => 176 | 286 => 177 | 129 => 201 | 317 => 200 | 318 => 202 | 319 => 203 | 320 => 204 | 337 => 217 | 338 => 218 | n => n, fun | 9 => 9 | 3 => 3 | 75 => 113 | 76 => 114 | 4 => 4 | 5 => 5 | 167 => 204 | 37 => 84 | 0 => 0 | 85 => 205 | 2 => 2 | 168 => 207 | 53 => 198 | 175 => 234 | 46 => 157 | 210 => 237 | 127 => 139 | 145 => 252 | 143 => 250 | 21 => 21 | 171 => 197 | 173 => 201 | 212 => 228 | 51 => 185 | 20 => 20 | 213 => 229 | 232 => 254 | 233 => 255 | 80 => 90 | n => n, fun | 15 => 5 | 16 => 6 | 17 => 3 | 18 => 8 | 19 => 9 | n => n⟩
theorem Lb : Go.Proofs.LaysC.n172 Tryz.prog Mf := {
 mixed := by kernel_rfl
 f129 := Tryz.func201.trans (congrArg some (by kernel_rfl))
 f171 := Tryz.func65.trans (congrArg some (by kernel_rfl))
 f172 := Tryz.func115.trans (congrArg some (by kernel_rfl))
 f205 := Tryz.func209.trans (congrArg some (by kernel_rfl))
 f243 := Tryz.func103.trans (congrArg some (by kernel_rfl))
 f244 := Tryz.func152.trans (congrArg some (by kernel_rfl))
 f245 := Tryz.func153.trans (congrArg some (by kernel_rfl))
 f246 := Tryz.func141.trans (congrArg some (by kernel_rfl))
 f247 := Tryz.func180.trans (congrArg some (by kernel_rfl))
 f279 := Tryz.func181.trans (congrArg some (by kernel_rfl))
 f280 := Tryz.func182.trans (congrArg some (by kernel_rfl))
 f281 := Tryz.func183.trans (congrArg some (by kernel_rfl))
 f282 := Tryz.func184.trans (congrArg some (by kernel_rfl))
 f283 := Tryz.func174.trans (congrArg some (by kernel_rfl))
 f284 := Tryz.func175.trans (congrArg some (by kernel_rfl))
 f285 := Tryz.func176.trans (congrArg some (by kernel_rfl))
 f286 := Tryz.func177.trans (congrArg some (by kernel_rfl))
 f287 := Tryz.func207.trans (congrArg some (by kernel_rfl))
 f316 := Tryz.func208.trans (congrArg some (by kernel_rfl))
 f317 := Tryz.func200.trans (congrArg some (by kernel_rfl))
 f318 := Tryz.func202.trans (congrArg some (by kernel_rfl))
 f319 := Tryz.func203.trans (congrArg some (by kernel_rfl))
 f320 := Tryz.func204.trans (congrArg some (by kernel_rfl))
 f321 := Tryz.func220.trans (congrArg some (by kernel_rfl))
 f322 := Tryz.func221.trans (congrArg some (by kernel_rfl))
 f337 := Tryz.func217.trans (congrArg some (by kernel_rfl))
 f338 := Tryz.func218.trans (congrArg some (by kernel_rfl))
 t0 := Tryz.underlying0
 a0 := Tryz.isAgg0
 z0 := Tryz.sizeOf0
 v0 := Tryz.zeroValue0
 t2 := Tryz.underlying2
 a2 := Tryz.isAgg2
 z2 := Tryz.sizeOf2
 v2 := Tryz.zeroValue2
 t3 := Tryz.underlying3
 a3 := Tryz.isAgg3
 z3 := Tryz.sizeOf3
 v3 := Tryz.zeroValue3
 t4 := Tryz.underlying4
 a4 := Tryz.isAgg4
 z4 := Tryz.sizeOf4
 v4 := Tryz.zeroValue4
 t5 := Tryz.underlying5
 a5 := Tryz.isAgg5
 z5 := Tryz.sizeOf5
 v5 := Tryz.zeroValue5
 t9 := Tryz.underlying9
 a9 := Tryz.isAgg9
 z9 := Tryz.sizeOf9
 v9 := Tryz.zeroValue9
 t20 := Tryz.underlying20
 a20 := Tryz.isAgg20
 z20 := Tryz.sizeOf20
 v20 := Tryz.zeroValue20
 t21 := Tryz.underlying21
 a21 := Tryz.isAgg21
 z21 := Tryz.sizeOf21
 v21 := Tryz.zeroValue21
 t37 := Tryz.underlying84
 a37 := Tryz.isAgg84
 z37 := Tryz.sizeOf84
 v37 := Tryz.zeroValue84
 t46 := Tryz.underlying157
 a46 := Tryz.isAgg157
 z46 := Tryz.sizeOf157
 v46 := Tryz.zeroValue157
 t51 := Tryz.underlying185
 a51 := Tryz.isAgg185
 z51 := Tryz.sizeOf185
 v51 := Tryz.zeroValue185
 t53 := Tryz.underlying198
 a53 := Tryz.isAgg198
 z53 := Tryz.sizeOf198
 v53 := Tryz.zeroValue198
 t75 := Tryz.underlying113
 a75 := Tryz.isAgg113
 z75 := Tryz.sizeOf113
 v75 := Tryz.zeroValue113
 t76 := Tryz.underlying114
 a76 := Tryz.isAgg114
 z76 := Tryz.sizeOf114
 v76 := Tryz.zeroValue114
 t85 := Tryz.underlying205
 a85 := Tryz.isAgg205
 z85 := Tryz.sizeOf205
 v85 := Tryz.zeroValue205
 t127 := Tryz.underlying139
 a127 := Tryz.isAgg139
 z127 := Tryz.sizeOf139
 v127 := Tryz.zeroValue139
 t143 := Tryz.underlying250
 a143 := Tryz.isAgg250
 z143 := Tryz.sizeOf250
 v143 := Tryz.zeroValue250
 t145 := Tryz.underlying252
 a145 := Tryz.isAgg252
 z145 := Tryz.sizeOf252
 v145 := Tryz.zeroValue252
 t167 := Tryz.underlying204
 a167 := Tryz.isAgg204
 z167 := Tryz.sizeOf204
 v167 := Tryz.zeroValue204
 t168 := Tryz.underlying207
 a168 := Tryz.isAgg207
 z168 := Tryz.sizeOf207
 v168 := Tryz.zeroValue207
 t171 := Tryz.underlying197
 a171 := Tryz.isAgg197
 z171 := Tryz.sizeOf197
 v171 := Tryz.zeroValue197
 t173 := Tryz.underlying201
 a173 := Tryz.isAgg201
 z173 := Tryz.sizeOf201
 v173 := Tryz.zeroValue201
 t175 := Tryz.underlying234
 a175 := Tryz.isAgg234
 z175 := Tryz.sizeOf234
 v175 := Tryz.zeroValue234
 t210 := Tryz.underlying237
 a210 := Tryz.isAgg237
 z210 := Tryz.sizeOf237
 v210 := Tryz.zeroValue237
 t212 := Tryz.underlying228
 a212 := Tryz.isAgg228
 z212 := Tryz.sizeOf228
 v212 := Tryz.zeroValue228
 t213 := Tryz.underlying229
 a213 := Tryz.isAgg229
 z213 := Tryz.sizeOf229
 t232 := Tryz.underlying254
 a232 := Tryz.isAgg254
 z232 := Tryz.sizeOf254
 v232 := Tryz.zeroValue254
 t233 := Tryz.underlying255
 a233 := Tryz.isAgg255
 z233 := Tryz.sizeOf255
 v233 := Tryz.zeroValue255
 g15 := by kernel_rfl
 g16 := by kernel_rfl
 g17 := by kernel_rfl
 g18 := by kernel_rfl
 g19 := by kernel_rfl
 t80 := Tryz.underlying90
 a80 := Tryz.isAgg90
 z80 := Tryz.sizeOf90
 v80 := Tryz.zeroValue90
 i0 := by kernel_rfl
 i2 := by kernel_rfl
 i3 := by kernel_rfl
 i4 := by kernel_rfl
 i5 := by kernel_rfl
 i9 := by kernel_rfl
 i20 := by kernel_rfl
 i21 := by kernel_rfl
 i37 := by kernel_rfl
 i46 := by kernel_rfl
 i51 := by kernel_rfl
 i53 := by kernel_rfl
 i75 := by kernel_rfl
 i76 := by kernel_rfl
 i80 := by kernel_rfl
 i85 := by kernel_rfl
 i127 := by kernel_rfl
 i143 := by kernel_rfl
 i145 := by kernel_rfl
 i167 := by kernel_rfl
 i168 := by kernel_rfl
 i171 := by kernel_rfl
 i173 := by kernel_rfl
 i175 := by kernel_rfl
 i210 := by kernel_rfl
 i212 := by kernel_rfl
 i232 := by kernel_rfl
 i233 := by kernel_rfl
 m15 := by kernel_rfl
 m16 := by kernel_rfl
 m17 := by kernel_rfl
 m18 := by kernel_rfl
 m19 := by kernel_rfl
 c0 := by kernel_rfl
 c2 := by kernel_rfl
 c3 := by kernel_rfl
 c4 := by kernel_rfl
 c5 := by kernel_rfl
 c9 := by kernel_rfl
 c20 := by kernel_rfl
 c21 := by kernel_rfl
 c37 := by kernel_rfl
 c46 := by kernel_rfl
 c51 := by kernel_rfl
 c53 := by kernel_rfl
 c75 := by kernel_rfl
 c76 := by kernel_rfl
 c80 := by kernel_rfl
 c85 := by kernel_rfl
 c127 := by kernel_rfl
 c143 := by kernel_rfl
 c145 := by kernel_rfl
 c167 := by kernel_rfl
 c168 := by kernel_rfl
 c171 := by kernel_rfl
 c173 := by kernel_rfl
 c175 := by kernel_rfl
 c210 := by kernel_rfl
 c212 := by kernel_rfl
 c213 := by kernel_rfl
 c232 := by kernel_rfl
 c233 := by kernel_rfl }
open Go.Shelf
def It : Go.Shelf.Ren := ⟨fun | 155 => 63 | 154 => 102 | 138 => 139 | 165 => 90 | 143 => 39 | 166 => 62 | 197 => 140 | 169 => 47 | 195 => 171 | 218 => 172 | 240 => 101 | 241 => 129 | 219 => 69 | 260 => 173 | 276 => 138 | 277 => 164 | 217 => 109 | 225 => 110 | 224 => 111 | 267 => 112 | 266 => 149 | 314 => 150 | n => n, fun | 9 => 9 | 3 => 3 | 4 => 4 | 72 => 86 | 0 => 0 | 76 => 114 | 105 => 180 | 21 => 21 | 5 => 5 | 70 => 83 | 20 => 20 | 37 => 84 | 75 => 113 | 127 => 139 | 164 => 178 | 46 => 157 | 119 => 211 | 139 => 214 | 138 => 213 | 146 => 186 | 51 => 185 | 80 => 90 | n => n, fun | 1 => 0 | 3 => 1 | 4 => 2 | n => n⟩
theorem Vb : Go.Proofs.Lays.n155 Tryz.prog It := {
 mixed := by kernel_rfl
 f138 := Tryz.func139.trans (congrArg some (by kernel_rfl))
 f143 := Tryz.func39.trans (congrArg some (by kernel_rfl))
 f154 := Tryz.func102.trans (congrArg some (by kernel_rfl))
 f155 := Tryz.func63.trans (congrArg some (by kernel_rfl))
 f165 := Tryz.func90.trans (congrArg some (by kernel_rfl))
 f166 := Tryz.func62.trans (congrArg some (by kernel_rfl))
 f169 := Tryz.func47.trans (congrArg some (by kernel_rfl))
 f195 := Tryz.func171.trans (congrArg some (by kernel_rfl))
 f197 := Tryz.func140.trans (congrArg some (by kernel_rfl))
 f217 := Tryz.func109.trans (congrArg some (by kernel_rfl))
 f218 := Tryz.func172.trans (congrArg some (by kernel_rfl))
 f219 := Tryz.func69.trans (congrArg some (by kernel_rfl))
 f224 := Tryz.func111.trans (congrArg some (by kernel_rfl))
 f225 := Tryz.func110.trans (congrArg some (by kernel_rfl))
 f240 := Tryz.func101.trans (congrArg some (by kernel_rfl))
 f241 := Tryz.func129.trans (congrArg some (by kernel_rfl))
 f260 := Tryz.func173.trans (congrArg some (by kernel_rfl))
 f266 := Tryz.func149.trans (congrArg some (by kernel_rfl))
 f267 := Tryz.func112.trans (congrArg some (by kernel_rfl))
 f276 := Tryz.func138.trans (congrArg some (by kernel_rfl))
 f277 := Tryz.func164.trans (congrArg some (by kernel_rfl))
 f314 := Tryz.func150.trans (congrArg some (by kernel_rfl))
 t0 := Tryz.underlying0
 a0 := Tryz.isAgg0
 z0 := Tryz.sizeOf0
 v0 := Tryz.zeroValue0
 t3 := Tryz.underlying3
 a3 := Tryz.isAgg3
 z3 := Tryz.sizeOf3
 v3 := Tryz.zeroValue3
 t4 := Tryz.underlying4
 a4 := Tryz.isAgg4
 z4 := Tryz.sizeOf4
 v4 := Tryz.zeroValue4
 t5 := Tryz.underlying5
 a5 := Tryz.isAgg5
 z5 := Tryz.sizeOf5
 v5 := Tryz.zeroValue5
 t9 := Tryz.underlying9
 a9 := Tryz.isAgg9
 z9 := Tryz.sizeOf9
 v9 := Tryz.zeroValue9
 t20 := Tryz.underlying20
 a20 := Tryz.isAgg20
 z20 := Tryz.sizeOf20
 v20 := Tryz.zeroValue20
 t21 := Tryz.underlying21
 a21 := Tryz.isAgg21
 z21 := Tryz.sizeOf21
 v21 := Tryz.zeroValue21
 t37 := Tryz.underlying84
 a37 := Tryz.isAgg84
 z37 := Tryz.sizeOf84
 v37 := Tryz.zeroValue84
 t46 := Tryz.underlying157
 a46 := Tryz.isAgg157
 z46 := Tryz.sizeOf157
 v46 := Tryz.zeroValue157
 t51 := Tryz.underlying185
 a51 := Tryz.isAgg185
 z51 := Tryz.sizeOf185
 v51 := Tryz.zeroValue185
 t70 := Tryz.underlying83
 a70 := Tryz.isAgg83
 z70 := Tryz.sizeOf83
 v70 := Tryz.zeroValue83
 t72 := Tryz.underlying86
 a72 := Tryz.isAgg86
 z72 := Tryz.sizeOf86
 v72 := Tryz.zeroValue86
 t75 := Tryz.underlying113
 a75 := Tryz.isAgg113
 z75 := Tryz.sizeOf113
 v75 := Tryz.zeroValue113
 t76 := Tryz.underlying114
 a76 := Tryz.isAgg114
 z76 := Tryz.sizeOf114
 v76 := Tryz.zeroValue114
 t105 := Tryz.underlying180
 a105 := Tryz.isAgg180
 z105 := Tryz.sizeOf180
 v105 := Tryz.zeroValue180
 t119 := Tryz.underlying211
 a119 := Tryz.isAgg211
 z119 := Tryz.sizeOf211
 t127 := Tryz.underlying139
 a127 := Tryz.isAgg139
 z127 := Tryz.sizeOf139
 v127 := Tryz.zeroValue139
 t138 := Tryz.underlying213
 a138 := Tryz.isAgg213
 z138 := Tryz.sizeOf213
 v138 := Tryz.zeroValue213
 t139 := Tryz.underlying214
 a139 := Tryz.isAgg214
 z139 := Tryz.sizeOf214
 v139 := Tryz.zeroValue214
 t146 := Tryz.underlying186
 a146 := Tryz.isAgg186
 z146 := Tryz.sizeOf186
 v146 := Tryz.zeroValue186
 t164 := Tryz.underlying178
 a164 := Tryz.isAgg178
 z164 := Tryz.sizeOf178
 v164 := Tryz.zeroValue178
 g1 := by kernel_rfl
 g3 := by kernel_rfl
 g4 := by kernel_rfl }
theorem He : Builder.Extra Tryz.prog It := {
 sizeBuilder := by kernel_rfl
 liesBuilder := by kernel_rfl
 t5 := Tryz.underlying5
 a5 := Tryz.isAgg5
 z5 := Tryz.sizeOf5
 v5 := Tryz.zeroValue5
 infoByte := by kernel_rfl
 cellsByte := by kernel_rfl
 sizeByte := by kernel_rfl
 neB5 := by decide }
def Q8 : Go.Shelf.Ren := ⟨fun | 195 => 171 | n => n, fun | 9 => 9 | 3 => 3 | 0 => 0 | 4 => 4 | n => n, fun | n => n⟩
theorem Uu : Go.Proofs.Lays.n195 Tryz.prog Q8 := {
 mixed := by kernel_rfl
 f195 := Tryz.func171.trans (congrArg some (by kernel_rfl))
 t0 := Tryz.underlying0
 a0 := Tryz.isAgg0
 z0 := Tryz.sizeOf0
 v0 := Tryz.zeroValue0
 t3 := Tryz.underlying3
 a3 := Tryz.isAgg3
 z3 := Tryz.sizeOf3
 v3 := Tryz.zeroValue3
 t4 := Tryz.underlying4
 a4 := Tryz.isAgg4
 z4 := Tryz.sizeOf4
 v4 := Tryz.zeroValue4
 t9 := Tryz.underlying9
 a9 := Tryz.isAgg9
 z9 := Tryz.sizeOf9
 v9 := Tryz.zeroValue9 }
open Go.Shelf
def Ia : Go.Shelf.Ren := ⟨fun | 260 => 173 | n => n, fun | 9 => 9 | 21 => 21 | 3 => 3 | 4 => 4 | 5 => 5 | 119 => 211 | 0 => 0 | 46 => 157 | 139 => 214 | 138 => 213 | n => n, fun | 3 => 1 | 4 => 2 | n => n⟩
theorem VI : Go.Proofs.Lays.n260 Tryz.prog Ia := {
 mixed := by kernel_rfl
 f260 := Tryz.func173.trans (congrArg some (by kernel_rfl))
 t0 := Tryz.underlying0
 a0 := Tryz.isAgg0
 z0 := Tryz.sizeOf0
 v0 := Tryz.zeroValue0
 t3 := Tryz.underlying3
 a3 := Tryz.isAgg3
 z3 := Tryz.sizeOf3
 v3 := Tryz.zeroValue3
 t4 := Tryz.underlying4
 a4 := Tryz.isAgg4
 z4 := Tryz.sizeOf4
 v4 := Tryz.zeroValue4
 t5 := Tryz.underlying5
 a5 := Tryz.isAgg5
 z5 := Tryz.sizeOf5
 v5 := Tryz.zeroValue5
 t9 := Tryz.underlying9
 a9 := Tryz.isAgg9
 z9 := Tryz.sizeOf9
 v9 := Tryz.zeroValue9
 t21 := Tryz.underlying21
 a21 := Tryz.isAgg21
 z21 := Tryz.sizeOf21
 v21 := Tryz.zeroValue21
 t46 := Tryz.underlying157
 a46 := Tryz.isAgg157
 z46 := Tryz.sizeOf157
 v46 := Tryz.zeroValue157
 t119 := Tryz.underlying211
 a119 := Tryz.isAgg211
 z119 := Tryz.sizeOf211
 t138 := Tryz.underlying213
 a138 := Tryz.isAgg213
 z138 := Tryz.sizeOf213
 v138 := Tryz.zeroValue213
 t139 := Tryz.underlying214
 a139 := Tryz.isAgg214
 z139 := Tryz.sizeOf214
 v139 := Tryz.zeroValue214
 g3 := by kernel_rfl
 g4 := by kernel_rfl }
abbrev AM := List UInt8
abbrev aI (n : Int) : AV := .int .i64 n
abbrev aF (f : Int × Int) : AV := .agg [.int .i64 f.1, .int .i64 f.2]
open Go.RowKit
theorem IH {P : Program} {w0 w w' : World} {G : Gh} {n : Nat} {H : A3} (h0 : Rel0 P w0 G n H w) (hb : Below w.heap.size w w') : Rel0 P w0 G n H w' := by
 have hbl : ∀ g, g < w.heap.size → w'.heap[g]? = w.heap[g]? := fun g hg => hb.block g hg
 refine ⟨h0.ext.tr hb, h0.lo, Nat.le_trans h0.hi hb.size, fun b o v hv => ?_, fun g e c hg => ?_, h0.capLo, fun g ob hob => ?_⟩
 ·have hc := h0.seal_ b o v hv
  have hlt : b < w.heap.size := World.block_lt_of_cell? _ _ hc
  rw [hb.cell (p := ⟨b, o, none⟩) hlt]; exact hc
 ·obtain ⟨cur, fz, h1, h2⟩ := h0.caps g e c hg
  refine ⟨cur, fz, ?_, h2⟩
  rw [hbl g (Array.getElem?_eq_some_iff.1 h1).1]; exact h1
 ·obtain ⟨h1, h2, h3⟩ := h0.objs g ob hob
  have hlt : g < w.heap.size := Nat.lt_of_lt_of_le h2 h0.hi
  exact ⟨h1, h2, h3.keep (hbl g hlt) (fun _ => rfl) rfl (Gh.Le.rfl_ G) (MapsKeep.lt hbl)⟩
theorem ED {P : Program} {f : Nat} {args : List AV} {v : AV} (h : ∀ (G : Gh) (vs : List Value), RepL G vs args → ∃ u : Value, (∀ G', Rep G' u v) ∧ ∀ w : World, Laid w → Calls P f vs.toArray w fun e w' => e = .returned u ∧ Below w.heap.size w w') : APure P f args v := by
 intro n H hs w0 G w vs hl h0 hrep
 obtain ⟨u, hu, hc⟩ := h G vs hrep
 refine (hc w (hl.ext h0.ext)).mono ?_
 rintro e w' ⟨rfl, hb⟩
 exact ⟨u, v, G, n, H, rfl, ⟨rfl, rfl, rfl⟩, hu G, Gh.Le.rfl_ _, Nat.le_refl _, IH h0 hb⟩
theorem U7 (s : ByteArray) (l : List UInt8) (h : s.data.toList = l) : s = ⟨l.toArray⟩ := by cases s; subst h; simp
theorem QX (n : Int) (h : -9223372036854775808 ≤ n ∧ n ≤ 9223372036854775807) : APure Tryz.prog 65 [.int .i64 n] (.str (Lib.itoa n)) := by
 refine ED fun G vs hr => ⟨.string ⟨(Lib.itoa n).toArray⟩, fun _ => .str (by simp), fun w hl => ?_⟩
 cases hr with | cons h1 h2 =>
 cases h2; cases h1
 refine (Any.strconv_Itoa Tt n h.1 h.2 w (UM (by kernel_rfl) hl.pow)).mono ?_
 rintro e w' ⟨rfl, k, os, rfl⟩
 exact ⟨rfl, Lib.below_grow _ _ (Nat.le_refl _) _ _⟩
theorem FC (l : List AM) : AL (l.map AV.str) = l.map AV.str := by
 induction l with
 | nil => rfl
 | cons x l ih => simp only [List.map_cons, AL, List.flatMap_cons, AV.cells, List.singleton_append] at ih ⊢; rw [ih]
theorem MP {G : Gh} (l : List AM) : RepL G (l.map fun x => Value.string ⟨x.toArray⟩) (l.map AV.str) := by
 induction l with
 | nil => exact .nil
 | cons x l ih => exact .cons (.str (by simp)) ih
theorem Ph (s : AM) (hs : s.length < 4294967281) (ha : ∀ b ∈ s, b.toNat < 128) (hk : (Lib.fields s).length ≤ 1000000) : APure Tryz.prog 178 [.str s] (.sl 1 ((Lib.fields s).map AV.str) .ro) := by
 intro n H hH w0 G w vs hl h0 hrep
 cases hrep with | cons h1 h2 =>
 cases h2; cases h1
 rename_i sb hsb
 subst hsb
 refine (Any.strings_Fields VN (by kernel_rfl) (by kernel_rfl) sb w (by rw [Lib.size_eq]; exact hs) (fun j b hj => ha b (List.mem_of_getElem? hj)) (UM (by kernel_rfl) (hl.ext h0.ext).spc)).mono ?_
 rintro e w' ⟨rfl, rfl⟩
 have hrel := h0.newRow (w' := w.alloc (.cells ((Lib.fields sb.data.toList).map fun l => Value.string ⟨l.toArray⟩).toArray 9)) (cur := ((Lib.fields sb.data.toList).map fun l => Value.string ⟨l.toArray⟩).toArray) (e := 9) (fz := (0, 0)) (vs := (Lib.fields sb.data.toList).map fun l => Value.string ⟨l.toArray⟩) (c := none) (ob := none) rfl rfl rfl rfl
  (fun j u hu => by simpa using hu) (fun e' c' hc => by cases hc) (.inl rfl)
 have hle := h0.addLe ((Lib.fields sb.data.toList).map fun l => Value.string ⟨l.toArray⟩) none
 have hhi := h0.hi
 refine ⟨_, _, _, n, H, rfl, ⟨rfl, rfl, rfl⟩, .slro (vs := (Lib.fields sb.data.toList).map fun l => Value.string ⟨l.toArray⟩) ?_ (Gh.add_sealed _ _ _) ?_ (by simp), hle, Nat.le_refl _, hrel.less h0.lo (by omega) hH ?_⟩
 ·rw [FC]; exact MP _
 ·refine ⟨by simp, by simp only [maxLen]; omega, by decide, fun x hx => ?_, fun x hx => ?_⟩
  ·obtain ⟨y, _, rfl⟩ := List.mem_map.1 hx; rfl
  ·rw [FC] at hx; obtain ⟨y, _, rfl⟩ := List.mem_map.1 hx; rfl
 ·intro k hk'
  rw [upd_ne (by omega)]
abbrev Gp (l : List AM) : AV := .sl 1 (l.map AV.str) .ro
theorem Qd (l : List AM) (sep : AM) (hl : l.length ≤ 140737488355328) (hlen : (Lib.join l sep).length ≤ 140737488355328) : APure Tryz.prog 52 [Gp l, .str sep] (.str (Lib.join l sep)) := by
 intro n H hH w0 G w vs hl0 h0 hrep
 cases hrep with | cons h1 h2 =>
 cases h2 with | cons h3 h4 =>
 cases h4; cases h3
 rename_i sb hsb
 subst hsb
 obtain ⟨A, c, rfl, hc, hm, hA⟩ := h1.slOut
 have key : ∀ {W : World} {e : Ending}, e = .returned (.string ⟨(Lib.join l sb.data.toList).toArray⟩) → Below w.heap.size w W → ∃ (v : Value) (r : AV) (G' : Gh) (n' : Nat) (H' : A3), e = .returned v ∧ (r = .str (Lib.join l sb.data.toList) ∧ n' = n ∧ H' = H) ∧ Rep G' v r ∧ G.Le G' ∧ n ≤ n' ∧ Rel0 Tryz.prog w0 G' n' H' W := fun he hb =>
  ⟨_, _, G, n, H, he, ⟨rfl, rfl, rfl⟩, .str (by simp), Gh.Le.rfl_ _, Nat.le_refl _, IH h0 hb⟩
 by_cases hl0 : l = []
 ·subst hl0
  refine (Any.strings_Join_none Rz EX A c sb w).mono ?_
  rintro e w' ⟨he, rfl⟩
  exact key (by rw [he]; rfl) (Below.refl _ _)
 ·obtain ⟨g, off, us, rfl, hr, hs, ho⟩ := hA (by simpa using hl0)
  rw [FC] at hr
  have hcell : ∀ (j : Nat) (x : ByteArray), (l.map fun x => (⟨x.toArray⟩ : ByteArray))[j]? = some x → w.cell? ⟨g, off + j, none⟩ = some (.string x) := by
   intro j x hj
   obtain ⟨y, hy, rfl⟩ : ∃ y, l[j]? = some y ∧ (⟨y.toArray⟩ : ByteArray) = x := by simpa [List.getElem?_map] using hj
   obtain ⟨u, hu, hru⟩ := hr.at (i := j) (x := .str y) (by simp [List.getElem?_map, hy])
   have h5 := h0.seal_ _ _ _ (hs j u hu)
   cases hru
   rename_i s hsy
   rw [h5, U7 _ _ hsy]
  have hlt : g < w.heap.size := by
   obtain ⟨y, hy⟩ : ∃ y, l[0]? = some y := ⟨_, List.getElem?_eq_getElem (List.length_pos_iff.2 hl0)⟩
   have := World.block_lt_of_cell? w _ (hcell 0 ⟨y.toArray⟩ (by simp [List.getElem?_map, hy]))
   simpa using this
  have hmap : (l.map fun x => (⟨x.toArray⟩ : ByteArray)).map (·.data.toList) = l := by
   rw [List.map_map]; conv => rhs; rw [← List.map_id l]
   apply List.map_congr_left; intro x _; simp
  have hj := Any.strings_Join Rz EX g off c (l.map fun x => (⟨x.toArray⟩ : ByteArray)) sb w hcell hlt (by simpa using hl) (by simpa using hc) (by rw [hmap]; exact hlen)
  rw [hmap, List.length_map] at hj
  simp only [List.length_map] at *
  refine hj.mono ?_
  rintro e w' ⟨he, hb⟩
  exact key he hb
def BE (c : UInt8) : Bool := decide (48 ≤ c.toNat ∧ c.toNat ≤ 57)
def DU (acc : Nat) : AM → Nat
 | [] => acc
 | c :: r => DU (10 * acc + (c.toNat - 48)) r
theorem MM (c : UInt8) (l : AM) : ∀ acc : Nat, DU acc (l ++ [c]) = 10 * DU acc l + (c.toNat - 48) := by
 induction l with
 | nil => intro acc; rfl
 | cons x l ih => intro acc; exact ih _
theorem V0 (l : AM) : ∀ acc : Nat, acc ≤ DU acc l := by
 induction l with
 | nil => intro acc; exact Nat.le_refl _
 | cons x l ih =>
  intro acc
  have h2 : acc ≤ 10 * acc + (x.toNat - 48) := by omega
  exact Nat.le_trans h2 (ih _)
theorem VM : ∀ d : Fin 10, (UInt8.ofNat (48 + d.val)).toNat = 48 + d.val := by decide
theorem ON {d : Nat} (h : d < 10) : (UInt8.ofNat (48 + d)).toNat = 48 + d := by
 have e := VM ⟨d, h⟩
 simp only at e
 exact e
theorem TX {d : Nat} (h : d < 10) : BE (UInt8.ofNat (48 + d)) = true := by
 have e := ON h
 unfold BE
 rw [e]
 exact decide_eq_true (by omega)
theorem EL (u : Nat) : ∀ c ∈ Lib.decDigits u, BE c = true := by
 induction u using Nat.strongRecOn with
 | _ u ih =>
  intro c hc
  rw [Lib.decDigits] at hc
  split at hc
  ·rw [List.mem_singleton.1 hc]
   exact TX (by omega)
  ·rcases List.mem_append.1 hc with h | h
   ·exact ih _ (by omega) c h
   ·rw [List.mem_singleton.1 h]
    exact TX (by omega)
theorem RY {c : UInt8} {d : Nat} (h : c.toNat = 48 + d) (acc : Nat) : DU acc [c] = 10 * acc + d ∧ ∀ l : AM, DU acc (l ++ [c]) = 10 * DU acc l + d := by
 constructor
 ·show 10 * acc + (c.toNat - 48) = _
  rw [h]; omega
 ·intro l; rw [MM, h]; omega
theorem L0 (u : Nat) : DU 0 (Lib.decDigits u) = u := by
 induction u using Nat.strongRecOn with
 | _ u ih =>
  rw [Lib.decDigits]
  split
  ·rename_i h0
   have e := (RY (ON (d := u) h0) 0).1
   generalize UInt8.ofNat (48 + u) = c at e ⊢
   rw [e]; omega
  ·rename_i h0
   have e := (RY (ON (d := u % 10) (by omega)) 0).2 (Lib.decDigits (u / 10))
   have e2 := ih (u / 10) (by omega)
   generalize UInt8.ofNat (48 + u % 10) = c at e ⊢
   rw [e, e2]; omega
theorem Kz (u : Nat) : Lib.decDigits u ≠ [] := by
 intro h
 have := Lib.decDigits_length u
 rw [h] at this
 have := Lib.nDigits_pos u
 simp at *; omega
theorem EK : ∀ (k u : Nat), u < 10 ^ (k + 1) → Lib.nDigits u ≤ k + 1
 | 0, u, h => by rw [Lib.nDigits_small (by omega)]; omega
 | k + 1, u, h => by
  by_cases c : u < 10
  ·rw [Lib.nDigits_small c]; omega
  ·rw [Lib.nDigits_big c]
   have := EK k (u / 10) (by rw [Nat.pow_succ] at h; omega)
   omega
theorem HL (u : Nat) : (Lib.decDigits u).length ≤ 9 ↔ u ≤ 999999999 := by
 rw [Lib.decDigits_length]
 constructor
 ·intro h
  have h1 := Lib.lt_pow_nDigits u
  have h2 : 10 ^ Lib.nDigits u ≤ 10 ^ 9 := Nat.pow_le_pow_right (by omega) h
  omega
 ·intro h
  exact EK 8 u (by omega)
theorem S5 (l : AM) (hl : ∀ c ∈ l, BE c = true) : ∀ acc : Nat, DU acc l < 1844674407370955162 → Lib.parseUint10 acc l = .ok (DU acc l) := by
 induction l with
 | nil => intro acc _; rfl
 | cons c r ih =>
  intro acc hb
  have hc := hl c List.mem_cons_self
  unfold BE at hc
  simp only [decide_eq_true_eq] at hc
  have e : DU acc (c :: r) = DU (10 * acc + (c.toNat - 48)) r := rfl
  rw [e] at hb ⊢
  have hg := V0 r (10 * acc + (c.toNat - 48))
  have hi := ih (fun x hx => hl x (List.mem_cons_of_mem _ hx)) (10 * acc + (c.toNat - 48)) hb
  rw [Lib.parseUint10, if_pos hc, if_neg (by omega), if_neg (by omega), Nat.mul_comm acc 10]
  exact hi
theorem RW {u : Nat} (h : u ≤ 999999999) : Lib.parseMag (Lib.decDigits u) = .ok u := by
 unfold Lib.parseMag
 rw [if_neg (Kz u), S5 _ (EL u) 0 (by rw [L0]; omega), L0]
theorem Sb {n : Int} (h : -999999999 ≤ n ∧ n ≤ 999999999) : Lib.atoiAll (Lib.itoa n) = .ok n := by
 by_cases c : n < 0
 ·obtain ⟨u, rfl⟩ : ∃ u : Nat, n = -(u : Int) := ⟨n.natAbs, by omega⟩
  rw [Lib.itoa_neg u (by omega), Lib.atoiAll_minus, RW (by omega)]
  simp [Lib.signed]; omega
 ·obtain ⟨u, rfl⟩ : ∃ u : Nat, n = (u : Int) := ⟨n.toNat, by omega⟩
  rw [Lib.itoa_nonneg]
  obtain ⟨d, l, e⟩ := List.exists_cons_of_ne_nil (Kz u)
  have hd := EL u d (by rw [e]; exact List.mem_cons_self)
  unfold BE at hd
  simp only [decide_eq_true_eq] at hd
  have hm := RW (u := u) (by omega)
  rw [e] at hm ⊢
  rw [Lib.atoiAll_plain d l (by omega) (by omega), hm]
  simp [Lib.signless]; omega
def DW (s : AM) : Int × Bool := match Lib.atoiAll s with
 | .ok v => (v, decide (Lib.itoa v = s) && decide ((Lib.trimPrefix s [45]).length ≤ 9))
 | .range => (Lib.atoiSat s, false)
 | _ => (0, false)
theorem IB (n : Int) : Lib.trimPrefix (Lib.itoa n) [45] = Lib.decDigits n.natAbs := by
 by_cases c : n < 0
 ·obtain ⟨u, rfl⟩ : ∃ u : Nat, n = -(u : Int) := ⟨n.natAbs, by omega⟩
  rw [Lib.itoa_neg u (by omega)]
  simp [Lib.trimPrefix, Lib.hasPrefix]
 ·obtain ⟨u, rfl⟩ : ∃ u : Nat, n = (u : Int) := ⟨n.toNat, by omega⟩
  rw [Lib.itoa_nonneg]
  obtain ⟨d, l, e⟩ := List.exists_cons_of_ne_nil (Kz u)
  have hd := EL u d (by rw [e]; exact List.mem_cons_self)
  unfold BE at hd
  simp only [decide_eq_true_eq] at hd
  have hne : ¬ (45 : UInt8) = d := by rintro rfl; revert hd; decide
  simp [Lib.trimPrefix, Lib.hasPrefix, e, hne]
theorem U5 {n : Int} (h : -999999999 ≤ n ∧ n ≤ 999999999) : DW (Lib.itoa n) = (n, true) := by
 unfold DW
 rw [Sb h]
 simp only [IB, decide_true, Bool.true_and]
 rw [decide_eq_true ((HL _).2 (by omega))]
theorem UB {s : AM} (h : (DW s).2 = true) : Lib.itoa (DW s).1 = s ∧ -999999999 ≤ (DW s).1 ∧ (DW s).1 ≤ 999999999 := by
 unfold DW at h ⊢
 split at h
 ·rename_i v hv
  simp only [Bool.and_eq_true, decide_eq_true_eq] at h
  simp only [hv]
  obtain ⟨h1, h2⟩ := h
  rw [← h1, IB, HL] at h2
  exact ⟨h1, by omega, by omega⟩
 ·cases h
 ·cases h
def G5 (s : AM) : Int × Bool :=
 let f := if s.head? = some 45 then 1 else 0
 if (s.drop f).all BE = true ∧ (s.drop f).length ≤ 9 then
  let n : Int := if f = 1 then -(DU 0 (s.drop f) : Int) else DU 0 (s.drop f)
  (n, decide (f < s.length) && decide (Lib.itoa n = s))
 else (0, false)
theorem ST (n : Int) : (Lib.itoa n).drop (if (Lib.itoa n).head? = some 45 then 1 else 0) = Lib.decDigits n.natAbs ∧ ((Lib.itoa n).head? = some 45 ↔ n < 0) := by
 by_cases c : n < 0
 ·obtain ⟨u, rfl⟩ : ∃ u : Nat, n = -(u : Int) := ⟨n.natAbs, by omega⟩
  rw [Lib.itoa_neg u (by omega)]
  simp; omega
 ·obtain ⟨u, rfl⟩ : ∃ u : Nat, n = (u : Int) := ⟨n.toNat, by omega⟩
  rw [Lib.itoa_nonneg]
  obtain ⟨d, l, e⟩ := List.exists_cons_of_ne_nil (Kz u)
  have hd := EL u d (by rw [e]; exact List.mem_cons_self)
  unfold BE at hd
  simp only [decide_eq_true_eq] at hd
  have hne : ¬ d = (45 : UInt8) := by rintro rfl; revert hd; decide
  have e2 : (u : Int).natAbs = u := by omega
  rw [e2, e]
  simp [hne]
theorem H5 (l : AM) (hl : ∀ c ∈ l, BE c = true) : ∀ acc : Nat, DU acc l < (acc + 1) * 10 ^ l.length := by
 induction l with
 | nil => intro acc; show acc < _; simp
 | cons c r ih =>
  intro acc
  have hc := hl c List.mem_cons_self
  unfold BE at hc
  simp only [decide_eq_true_eq] at hc
  have h1 := ih (fun x hx => hl x (List.mem_cons_of_mem _ hx)) (10 * acc + (c.toNat - 48))
  have e : DU acc (c :: r) = DU (10 * acc + (c.toNat - 48)) r := rfl
  rw [e]
  refine Nat.lt_of_lt_of_le h1 ?_
  rw [List.length_cons, Nat.pow_succ, ← Nat.mul_assoc, Nat.mul_right_comm]
  exact Nat.mul_le_mul_right _ (by omega)
theorem Uj (s : AM) : (G5 s).2 = (DW s).2 ∧ ((DW s).2 = true → (G5 s).1 = (DW s).1) := by
 have key : (DW s).2 = true → G5 s = ((DW s).1, true) := by
  intro h
  obtain ⟨h1, h2, h3⟩ := UB h
  generalize (DW s).1 = n at h1 h2 h3
  subst h1
  obtain ⟨f1, f2⟩ := ST n
  unfold G5
  simp only [f1]
  have hall : (Lib.decDigits n.natAbs).all BE = true := List.all_eq_true.2 (EL _)
  rw [if_pos ⟨hall, (HL _).2 (by omega)⟩, L0]
  have hv : (if (if (Lib.itoa n).head? = some 45 then 1 else 0) = 1 then -((n.natAbs : Nat) : Int) else (n.natAbs : Int)) = n := by
   by_cases c : (Lib.itoa n).head? = some 45
   ·have := f2.1 c; simp [c]; omega
   ·have : ¬ n < 0 := fun h => c (f2.2 h)
    simp [c]; omega
  have hl : (if (Lib.itoa n).head? = some 45 then 1 else 0) < (Lib.itoa n).length := by
   have h4 := congrArg List.length f1
   rw [List.length_drop] at h4
   have := List.length_pos_iff.2 (Kz n.natAbs)
   omega
  rw [hv]
  simp [hl]
 have back : (G5 s).2 = true → (DW s).2 = true := by
  intro h
  unfold G5 at h
  dsimp only at h
  generalize hf : (if s.head? = some 45 then 1 else 0) = f at h
  split at h
  ·rename_i hc
   have hd := List.all_eq_true.1 hc.1
   have hsm := H5 (s.drop f) hd 0
   have hp : 10 ^ (s.drop f).length ≤ 10 ^ 9 := Nat.pow_le_pow_right (by omega) hc.2
   simp only [Bool.and_eq_true, decide_eq_true_eq] at h
   obtain ⟨_, h2⟩ := h
   rw [← h2, U5 (by split <;> omega)]
  ·cases h
 cases h : (DW s).2 with
 | true => rw [key h]; exact ⟨rfl, fun _ => rfl⟩
 | false =>
  refine ⟨?_, fun h => by cases h⟩
  cases h2 : (G5 s).2 with
  | true => rw [back h2] at h; cases h
  | false => rfl
def Lj (c : UInt8) : AM → List AM
 | [] => [[]]
 | x :: r => if x = c then [] :: Lj c r else match Lj c r with
  | [] => [[x]]
  | h :: t => (x :: h) :: t
theorem Wg (c : UInt8) (s : AM) : Lj c s ≠ [] := by
 cases s with
 | nil => simp [Lj]
 | cons x r =>
  unfold Lj
  split
  ·simp
  ·split <;> simp
theorem RT (c : UInt8) : ∀ s : AM, (Lj c s).length ≤ s.length + 1
 | [] => by simp [Lj]
 | x :: r => by
  have ih := RT c r
  unfold Lj
  split
  ·simp; omega
  ·split
   ·simp
   ·rename_i h t e; rw [e] at ih; simp at ih ⊢; omega
def HA (c : UInt8) : AM → AM × AM × Bool
 | [] => ([], [], false)
 | x :: r => if x = c then ([], r, true) else (x :: (HA c r).1, (HA c r).2.1, (HA c r).2.2)
inductive Js where | mk (k : Int) (t : AM) (ns : List AM) (it : List Js)
def Js.k : Js → Int | .mk k _ _ _ => k
def Js.t : Js → AM | .mk _ t _ _ => t
def Js.ns : Js → List AM | .mk _ _ n _ => n
def Js.it : Js → List Js | .mk _ _ _ i => i
theorem Js.ind {Q : Js → Prop} (h : ∀ k t ns it, (∀ x ∈ it, Q x) → Q (.mk k t ns it)) (v : Js) : Q v := by
 refine Js.rec (motive_1 := Q) (motive_2 := fun l => ∀ x ∈ l, Q x) (fun k t ns it hi => h k t ns it hi) (by simp) (fun x l hx hl => ?_) v
 intro y hy
 rcases List.mem_cons.1 hy with rfl | hy
 ·exact hx
 ·exact hl y hy
inductive Pt where | mk (k : Int) (t n : AM) (pa : List AM) (fs : List (AM × Int)) (b e : List Pt)
def Pt.k : Pt → Int | .mk k _ _ _ _ _ _ => k
def Pt.t : Pt → AM | .mk _ t _ _ _ _ _ => t
def Pt.n : Pt → AM | .mk _ _ n _ _ _ _ => n
def Pt.pa : Pt → List AM | .mk _ _ _ p _ _ _ => p
def Pt.fs : Pt → List (AM × Int) | .mk _ _ _ _ f _ _ => f
def Pt.b : Pt → List Pt | .mk _ _ _ _ _ b _ => b
def Pt.e : Pt → List Pt | .mk _ _ _ _ _ _ e => e
theorem Pt.ind {Q : Pt → Prop} (h : ∀ k t n pa fs b e, (∀ x ∈ b, Q x) → (∀ x ∈ e, Q x) → Q (.mk k t n pa fs b e)) (p : Pt) : Q p := by
 refine Pt.rec (motive_1 := Q) (motive_2 := fun l => ∀ x ∈ l, Q x) (fun k t n pa fs b e hb he => h k t n pa fs b e hb he) (by simp) (fun x l hx hl => ?_) p
 intro y hy
 rcases List.mem_cons.1 hy with rfl | hy
 ·exact hx
 ·exact hl y hy
abbrev YR (f : AM × Int) : AV := .agg [.str f.1, aI f.2]
abbrev Ea (l : List (AM × Int)) : AV := .sl 2 (l.map YR) .ro
mutual
def Dw : Pt → AV
 | .mk k t n pa fs b e => .agg [aI k, .str t, .str n, Gp pa, Ea fs, .sl 7 (AN b) .ro, .sl 7 (AN e) .ro]
def AN : List Pt → List AV
 | [] => []
 | x :: r => Dw x :: AN r
end
abbrev Dx (l : List Pt) : AV := .sl 7 (AN l) .ro
theorem F9 : ∀ l : List Pt, AN l = l.map Dw
 | [] => rfl
 | x :: r => by simp [AN, F9 r]
theorem BY (l : List Pt) : (AN l).length = l.length := by simp [F9]
theorem Sm (a b : List Pt) : AN (a ++ b) = AN a ++ AN b := by simp [F9]
theorem F7 {l : List Pt} {i : Nat} {x : Pt} (h : l[i]? = some x) : (AN l)[i]? = some (Dw x) := by simp [F9, h]
/-! ### names -/
def Hd (c : UInt8) : Bool := (decide (97 ≤ c.toNat) && decide (c.toNat ≤ 122)) || (decide (65 ≤ c.toNat) && decide (c.toNat ≤ 90)) || decide (c.toNat = 95)
def YT : AM := [105, 102]
def Ry : AM := [101, 97, 99, 104]
def YV : AM := [105, 110]
def Ro : AM := [101, 108, 115, 101]
def Vj : AM := [101, 110, 100]
def Rp : AM := [111, 112, 101, 110]
def UW : List AM := [YT, Ry, YV, Ro, Vj, Rp]
def Gn (s : AM) : Bool := decide (s ≠ []) && decide (s.length ≤ 24) && !BE (s.headD 48) && s.all fun c => Hd c || BE c
def HS (s : AM) : Bool := Gn s && !decide (s ∈ UW)
def R5 (s : AM) : Bool := (DW s).2 && decide (0 ≤ (DW s).1) && decide ((DW s).1 ≤ 999)
def DN : List AM → Bool
 | [] => false
 | h :: t => decide (t.length ≤ 7) && HS h && t.all fun s => HS s || R5 s
def L5 : AM := [117, 112, 112, 101, 114]
def L7 : AM := [108, 111, 119, 101, 114]
def P9 : AM := [116, 114, 105, 109]
def Hq : AM := [106, 115, 111, 110]
def Tl : AM := [112, 97, 100]
def LA : AM := [114, 105, 103, 104, 116]
def UQ : AM := [99, 117, 116]
def Y2 : List AM := [L5, L7, P9, Hq]
def Xg : List AM := [Tl, LA, UQ]
def HV (s : AM) : Nat := if s ∈ Y2 then 1 else if s ∈ Xg then 2 else 0
/-! ### right templates -/
def H6 : Nat → List (AM × Int) → Int
 | _, [] => 0
 | i, f :: r => if HV f.1 = 0 then 5 else if (f.2 < 0 ∨ 200 < f.2) ∨ (HV f.1 = 1 ∧ f.2 ≠ 0) then 4 else if 0 < i ∧ f.1 = Hq then 11 else H6 (i + 1) r
def M7 (pv k : Int) (t n : AM) (pa : List AM) (fs : List (AM × Int)) (b e : List Pt) : Bool :=
 (decide (k = 1) == decide (t = [])) || (decide (k ≠ 4) && decide (n ≠ [])) || (decide (k = 1) && decide (pa ≠ [])) || (decide (k ≠ 2) && decide (fs ≠ [])) || (decide (k < 3) && (decide (b ≠ []) || decide (e ≠ []))) || (decide (k = 1) && decide (pv = 1))
def Np (k : Int) (n : AM) (pa : List AM) (fs : List (AM × Int)) : Int :=
 if (k = 4 ∧ HS n = false) ∨ (k ≠ 1 ∧ DN pa = false) then 7 else if 8 < fs.length then 2 else H6 0 fs
def Ee (pv : Int) (i d : Nat) (k : Int) (t n : AM) (pa : List AM) (fs : List (AM × Int)) (b e : List Pt) : Int :=
 if 200 ≤ i then 2 else if 16 < d then 25 else if k < 1 ∨ 4 < k then 5 else if M7 pv k t n pa fs b e = true then 6 else Np k n pa fs
mutual
def ET (pv : Int) (i d : Nat) : Pt → Nat × Int
 | .mk k t n pa fs b e => if Ee pv i d k t n pa fs b e ≠ 0 then (i, Ee pv i d k t n pa fs b e)
  else if (BC 0 (i + 1) (d + 1) b).2 ≠ 0 then BC 0 (i + 1) (d + 1) b else BC 0 (BC 0 (i + 1) (d + 1) b).1 (d + 1) e
def BC (pv : Int) (i d : Nat) : List Pt → Nat × Int
 | [] => (i, 0)
 | x :: r => if (ET pv i d x).2 ≠ 0 then ET pv i d x else BC x.k (ET pv i d x).1 d r
end
/-! ### texts -/
def opS : AM := [60, 37]
def Li : AM := [37, 62]
def LW : AM := [60, 37, 111, 112, 101, 110, 37, 62]
def D5 : AM → AM
 | [] => []
 | [c] => [c]
 | a :: b :: r => if a = 60 ∧ b = 37 then LW ++ D5 r else a :: D5 (b :: r)
def Ky (f : AM × Int) : AM := 124 :: f.1 ++ if HV f.1 = 2 then 32 :: Lib.itoa f.2 else []
def Vy : AM := [60, 37, 105, 102, 32]
def Ib : AM := [60, 37, 101, 97, 99, 104, 32]
def Vg : AM := [32, 105, 110, 32]
def Is : AM := [60, 37, 101, 108, 115, 101, 37, 62]
def JW : AM := [60, 37, 101, 110, 100, 37, 62]
def PH (pa : List AM) : AM := Lib.join pa [46]
mutual
def UV : Pt → AM
 | .mk k t n pa fs b e => if k = 1 then D5 t else if k = 2 then opS ++ PH pa ++ fs.flatMap Ky ++ Li
  else (if k = 3 then Vy ++ PH pa ++ Li else Ib ++ n ++ Vg ++ PH pa ++ Li) ++ CL b ++ (if e = [] then [] else Is ++ CL e) ++ JW
def CL : List Pt → AM
 | [] => []
 | x :: r => UV x ++ CL r
end
def ER (l : List Pt) : Int × Int := if (BC 0 0 0 l).2 ≠ 0 then ((BC 0 0 0 l).2, ((BC 0 0 0 l).1 : Int)) else if 4000 < (CL l).length then (14, -1) else (0, 0)
theorem O6 : ∀ a b : List Pt, CL (a ++ b) = CL a ++ CL b
 | [], _ => rfl
 | x :: a, b => by simp [CL, O6 a b]
theorem V3 {pv : Int} {i d : Nat} {p : Pt} (h : (ET pv i d p).2 = 0) : i < 200 ∧ d ≤ 16 := by
 obtain ⟨k, t, n, pa, fs, b, e⟩ := p
 rw [ET] at h
 split at h
 ·rename_i h1; exact absurd h h1
 ·rename_i h1
  have h1 := Classical.not_not.1 h1
  unfold Ee at h1
  split at h1
  ·cases h1
  ·split at h1
   ·cases h1
   ·omega
def Ev (p : AM) : AM → Option (AM × AM)
 | [] => if p = [] then some ([], []) else none
 | x :: r => if p.isPrefixOf (x :: r) then some ([], (x :: r).drop p.length) else (Ev p r).map fun c => (x :: c.1, c.2)
theorem O1 {p : AM} : ∀ {s a b : AM}, Ev p s = some (a, b) → s = a ++ (p ++ b)
 | [], a, b, h => by
  unfold Ev at h
  split at h
  ·rename_i e; subst e; simp at h; obtain ⟨rfl, rfl⟩ := h; rfl
  ·cases h
 | x :: r, a, b, h => by
  unfold Ev at h
  split at h
  ·rename_i hp
   simp only [Option.some.injEq, Prod.mk.injEq] at h
   obtain ⟨rfl, rfl⟩ := h
   have := List.prefix_iff_eq_append.1 (List.isPrefixOf_iff_prefix.1 hp)
   simpa using this.symm
  ·obtain ⟨c, h1, h2⟩ := Option.map_eq_some_iff.1 h
   injection h2 with e1 e2
   subst e1; subst e2
   rw [List.cons_append, ← O1 (s := r) (a := c.1) (b := c.2) h1]
theorem U4 {p s a b : AM} (h : Ev p s = some (a, b)) : s.length = a.length + p.length + b.length := by
 have := O1 h; subst this; simp; omega
inductive Dir where | bad | opn | els | fin | fld (p : Pt) | bgn (p : Pt)
def Yg (s : AM) : Option (AM × Int) :=
 if (HA 32 s).2.2 = true then (if HV (HA 32 s).1 = 2 ∧ (DW (HA 32 s).2.1).2 = true ∧ 0 ≤ (DW (HA 32 s).2.1).1 then some ((HA 32 s).1, (DW (HA 32 s).2.1).1) else none)
 else if HV s = 1 then some (s, 0) else none
def Xe : List AM → Option (List (AM × Int))
 | [] => some []
 | s :: r => match Yg s with
  | none => none
  | some f => (Xe r).map (f :: ·)
def Xl (s : AM) : Dir := if DN (Lj 46 s) = true then .bgn (.mk 3 [] [] (Lj 46 s) [] [] []) else .bad
def Ub (s : AM) : Dir := match Ev Vg s with
 | none => .bad
 | some (n, w) => if HS n = true ∧ DN (Lj 46 w) = true then .bgn (.mk 4 [] n (Lj 46 w) [] [] []) else .bad
def WY (s : AM) : Dir := match Lj 124 s with
 | [] => .bad
 | h :: t => if DN (Lj 46 h) = true then (match Xe t with | some fs => .fld (.mk 2 [] [] (Lj 46 h) fs [] []) | none => .bad) else .bad
def Yc (s : AM) : Dir :=
 if s = Rp then .opn else if s = Ro then .els else if s = Vj then .fin
 else if (HA 32 s).2.2 = true ∧ (HA 32 s).1 = YT then Xl (HA 32 s).2.1
 else if (HA 32 s).2.2 = true ∧ (HA 32 s).1 = Ry then Ub (HA 32 s).2.1
 else WY s
def Ye (p : Pt) (l : List Pt) : Pt := .mk p.k p.t p.n p.pa p.fs l p.e
def Ya (p : Pt) (l : List Pt) : Pt := .mk p.k p.t p.n p.pa p.fs p.b l
def tP (t : AM) : Pt := .mk 1 t [] [] [] [] []
def TC (x : Pt) (l : List Pt) : List Pt := match l.getLast? with
 | some y => if x.k = 1 ∧ y.k = 1 then l.dropLast ++ [tP (y.t ++ x.t)] else l ++ [x]
 | none => [x]
abbrev RB := List Pt × List (Pt × Bool)
def YX : RB → List Pt
 | (ps, []) => ps
 | (_, (o, b) :: _) => if b = true then o.e else o.b
def Hx (l : List Pt) : RB → RB
 | (_, []) => (l, [])
 | (ps, (o, b) :: k) => (ps, (if b = true then Ya o l else Ye o l, b) :: k)
def VZ (x : Pt) (st : RB) : RB := Hx (TC x (YX st)) st
def W0 (t : AM) (st : RB) : RB := if t = [] then st else VZ (tP t) st
def UI : Dir → RB → Option RB
 | .bad, _ => none
 | .opn, st => some (VZ (tP opS) st)
 | .els, (ps, (o, false) :: k) => some (ps, (o, true) :: k)
 | .els, _ => none
 | .fin, (ps, (o, _) :: k) => some (VZ o (ps, k))
 | .fin, _ => none
 | .fld p, st => some (VZ p st)
 | .bgn p, (ps, k) => some (ps, (p, false) :: k)
def YG : Nat → AM → Nat → RB → Except Nat RB
 | 0, _, i, _ => .error i
 | n + 1, s, i, st => match Ev opS s with
  | none => .ok (W0 s st)
  | some (p, r) => match Ev Li r with
   | none => .error (i + p.length)
   | some (d, q) => match UI (Yc d) (W0 p st) with
    | none => .error (i + p.length)
    | some st' => YG n q (i + p.length + d.length + 4) st'
def OH (s : AM) (i : Nat) (st : RB) : Except Nat RB := YG (s.length + 1) s i st
structure RefOk (s : AM) (i : Nat) (st : RB) (x : List Pt × Nat × Nat × AM) : Prop where
 cs : x.2.2.1 = 0 ∨ x.2.2.1 = 1 ∨ x.2.2.1 = 5 ∨ x.2.2.1 = 6 ∨ x.2.2.1 = 7
 bad : x.2.2.1 = 1 → OH s i st = .error x.2.1
 fin0 : x.2.2.1 = 0 → x.2.1 = i + s.length ∧ OH s i st = .ok (Hx x.1 st)
 opn : x.2.2.1 = 7 → x.2.1 = i + s.length ∧ ∃ st', OH s i st = .ok st' ∧ st.2.length < st'.2.length
 els : x.2.2.1 = 5 → i + s.length = x.2.1 + x.2.2.2.length ∧ i + 8 ≤ x.2.1 ∧ OH s i st = match UI .els (Hx x.1 st) with | none => .error (x.2.1 - 8) | some st' => OH x.2.2.2 x.2.1 st'
 fin : x.2.2.1 = 6 → i + s.length = x.2.1 + x.2.2.2.length ∧ i + 7 ≤ x.2.1 ∧ OH s i st = match UI .fin (Hx x.1 st) with | none => .error (x.2.1 - 7) | some st' => OH x.2.2.2 x.2.1 st'
theorem RefOk.move {s q : AM} {i j : Nat} {st st' : RB} {x : List Pt × Nat × Nat × AM} (h : RefOk q j st' x) (hr : OH s i st = OH q j st') (hl : i + s.length = j + q.length) (hij : i ≤ j) (hs : ∀ l, Hx l st' = Hx l st) (hn : st'.2.length = st.2.length) : RefOk s i st x :=
 ⟨h.cs, fun e => hr.trans (h.bad e), fun e => ⟨by have := (h.fin0 e).1; omega, by rw [hr, (h.fin0 e).2, hs]⟩, fun e => by
  obtain ⟨a, st2, b, c⟩ := h.opn e
  exact ⟨by omega, st2, hr.trans b, by omega⟩, fun e => by
  obtain ⟨a, b, c⟩ := h.els e
  exact ⟨by omega, by omega, by rw [hr, c, hs]⟩, fun e => by
  obtain ⟨a, b, c⟩ := h.fin e
  exact ⟨by omega, by omega, by rw [hr, c, hs]⟩⟩
/-! ### cutting -/
theorem Se (p : AM) (x : UInt8) (r : AM) : Ev p (x :: r) = if p.isPrefixOf (x :: r) then some ([], (x :: r).drop p.length) else (Ev p r).map fun c => (x :: c.1, c.2) := rfl
theorem Q6 : ∀ {t : AM}, Ev opS t = none → D5 t = t
 | [], _ => rfl
 | [x], _ => rfl
 | x :: y :: r, h => by
  unfold Ev at h
  split at h
  ·cases h
  ·rename_i hp
   have h1 : Ev opS (y :: r) = none := by simpa using h
   rw [D5, if_neg, Q6 h1]
   rintro ⟨rfl, rfl⟩
   exact hp rfl
theorem Px : ∀ {t a b : AM}, Ev opS t = some (a, b) → D5 t = a ++ (LW ++ D5 b)
 | [], a, b, h => by simp [Ev, opS] at h
 | [x], a, b, h => by simp [Ev, opS] at h
 | x :: y :: r, a, b, h => by
  unfold Ev at h
  split at h
  ·rename_i hp
   simp only [Option.some.injEq, Prod.mk.injEq] at h
   obtain ⟨rfl, rfl⟩ := h
   simp [opS] at hp
   obtain ⟨rfl, rfl⟩ := hp
   rw [D5, if_pos ⟨rfl, rfl⟩]; rfl
  ·rename_i hp
   obtain ⟨c, h1, h2⟩ := Option.map_eq_some_iff.1 h
   injection h2 with e1 e2
   subst e1; subst e2
   rw [D5, if_neg, Px (a := c.1) (b := c.2) h1]; rfl
   rintro ⟨rfl, rfl⟩
   exact hp rfl
/-! ### steps of reading -/
theorem add_add (a b : AM) (l : List Pt) : TC (tP b) (TC (tP a) l) = TC (tP (a ++ b)) l := by
 unfold TC
 cases h : l.getLast? with
 | none => simp [tP, Pt.k, Pt.t]
 | some y =>
  have hk : ∀ s, (tP s).k = 1 := fun _ => rfl
  have ht : ∀ s, (tP s).t = s := fun _ => rfl
  by_cases hy : y.k = 1
  ·simp [hk, ht, hy]
  ·simp [hk, ht, hy]
structure FltOk (f : AM × Int) : Prop where
 k : HV f.1 ≠ 0
 lo : 0 ≤ f.2
 hi : f.2 ≤ 200
 z : HV f.1 = 1 → f.2 = 0
theorem T3 : ∀ {fs : List (AM × Int)} {i : Nat}, H6 i fs = 0 → ∀ f ∈ fs, FltOk f
 | [], _, _, f, h => by simp at h
 | g :: r, i, h, f, hf => by
  unfold H6 at h
  split at h
  ·cases h
  ·rename_i h1
   split at h
   ·cases h
   ·rename_i h2
    split at h
    ·cases h
    ·rcases List.mem_cons.1 hf with rfl | hf
     ·simp only [not_or, not_and, Int.not_lt] at h2
      exact ⟨h1, h2.1.1, h2.1.2, fun h => Classical.not_not.1 (h2.2 h)⟩
     ·exact T3 h f hf
theorem TM {s : AM} (h : HV s ≠ 0) : s ∈ Y2 ++ Xg := by
 unfold HV at h
 split at h
 ·exact List.mem_append_left _ (by assumption)
 ·split at h
  ·exact List.mem_append_right _ (by assumption)
  ·exact absurd rfl h
structure ParOk (pv k : Int) (t n : AM) (pa : List AM) (fs : List (AM × Int)) (b e : List Pt) : Prop where
 k1 : 1 ≤ k
 k4 : k ≤ 4
 tx : k = 1 ↔ t ≠ []
 nm : k ≠ 4 → n = []
 pt : k = 1 → pa = []
 fl : k ≠ 2 → fs = []
 in_ : k < 3 → b = [] ∧ e = []
 pv : k = 1 → pv ≠ 1
 id_ : k = 4 → HS n = true
 path : k ≠ 1 → DN pa = true
 fo : ∀ f ∈ fs, FltOk f
theorem Wt {pv k : Int} {i d : Nat} {t n : AM} {pa : List AM} {fs : List (AM × Int)} {b e : List Pt} (h : Ee pv i d k t n pa fs b e = 0) : ParOk pv k t n pa fs b e := by
 unfold Ee at h
 split at h
 ·cases h
 ·split at h
  ·cases h
  ·split at h
   ·cases h
   ·rename_i hk
    split at h
    ·cases h
    ·rename_i hf
     have hf : M7 pv k t n pa fs b e = false := by simpa using hf
     unfold M7 at hf
     simp only [Bool.or_eq_false_iff, Bool.and_eq_false_iff, decide_eq_false_iff_not, Classical.not_not] at hf
     obtain ⟨⟨⟨⟨⟨f1, f2⟩, f3⟩, f4⟩, f5⟩, f6⟩ := hf
     unfold Np at h
     split at h
     ·cases h
     ·rename_i hn
      split at h
      ·cases h
      ·simp only [not_or, not_and, Bool.not_eq_false] at hn
       refine ⟨by omega, by omega, ?_, fun h => f2.resolve_left (fun e => h e), fun h => f3.resolve_left (fun e => e h), fun h => f4.resolve_left (fun e => h e), fun h => f5.resolve_left (by omega), fun h => f6.resolve_left (fun e => e h), hn.1, hn.2, T3 h⟩
       by_cases h1 : k = 1 <;> by_cases h2 : t = [] <;> simp [h1, h2] at f1 ⊢
mutual
def CH : Pt → Nat
 | .mk _ _ _ _ _ b e => AW b + AW e + 1
def AW : List Pt → Nat
 | [] => 0
 | x :: r => CH x + AW r
end
/-! ### parts, one behind the other -/
theorem F3 : ∀ a b : List Pt, AW (a ++ b) = AW a + AW b
 | [], b => by simp [AW]
 | x :: a, b => by simp only [List.cons_append, AW, F3 a b]; omega
mutual
def MJ : Pt → Prop
 | .mk k t n pa fs b e => t.length ≤ 1048576 ∧ (k = 1 → t ≠ []) ∧ n.length ≤ 24 ∧ pa.length ≤ 8 ∧ (∀ s ∈ pa, s.length ≤ 24) ∧ fs.length ≤ 8 ∧ (∀ f ∈ fs, f.1.length ≤ 24 ∧ 0 ≤ f.2 ∧ f.2 ≤ 200) ∧ Gt b ∧ Gt e
def Gt : List Pt → Prop
 | [] => True
 | x :: r => MJ x ∧ Gt r
end
theorem L3 : ∀ {l : List Pt} {x : Pt}, Gt l → x ∈ l → MJ x
 | y :: r, x, h, hx => by
  simp only [Gt] at h
  rcases List.mem_cons.1 hx with rfl | hx
  ·exact h.1
  ·exact L3 h.2 hx
theorem G8 : ∀ t : AM, (D5 t).length ≤ 4 * t.length
 | [] => by simp [D5]
 | [c] => by simp [D5]
 | a :: b :: r => by
  have h1 := G8 r
  have h2 := G8 (b :: r)
  unfold D5
  split
  ·simp [LW] at *; omega
  ·simp at *; omega
theorem V9 : ∀ t : AM, t ≠ [] → D5 t ≠ []
 | [], h => absurd rfl h
 | [c], _ => by simp [D5]
 | a :: b :: r, _ => by
  unfold D5
  split
  ·simp [LW]
  ·simp
theorem PA (sep : AM) (B : Nat) : ∀ l : List AM, (∀ x ∈ l, x.length ≤ B) → (Lib.join l sep).length ≤ l.length * (B + sep.length)
 | [], _ => by simp [Lib.join]
 | [x], h => by have := h x (by simp); simp [Lib.join]; omega
 | x :: y :: r, h => by
  have h1 := h x (by simp)
  have h2 := PA sep B (y :: r) fun z hz => h z (List.mem_cons_of_mem _ hz)
  have e : Lib.join (x :: y :: r) sep = x ++ sep ++ Lib.join (y :: r) sep := by simp [Lib.join]
  rw [e]
  simp only [List.length_append, List.length_cons] at h2 ⊢
  rw [Nat.succ_mul]
  omega
theorem Ks {n : Int} (h : 0 ≤ n ∧ n ≤ 200) : (Lib.itoa n).length ≤ 3 := by
 obtain ⟨u, rfl⟩ : ∃ u : Nat, n = (u : Int) := ⟨n.toNat, by omega⟩
 rw [Lib.itoa_nonneg, Lib.decDigits_length]
 exact EK 2 u (by omega)
theorem Er : ∀ fs : List (AM × Int), (∀ f ∈ fs, f.1.length ≤ 24 ∧ 0 ≤ f.2 ∧ f.2 ≤ 200) → (fs.flatMap Ky).length ≤ fs.length * 30
 | [], _ => by simp
 | f :: r, h => by
  have h1 := h f (by simp)
  have h2 := Er r fun x hx => h x (List.mem_cons_of_mem _ hx)
  have h3 := Ks h1.2
  have h4 : (Ky f).length ≤ 30 := by
   unfold Ky
   split <;> simp <;> omega
  simp only [List.flatMap_cons, List.length_append, List.length_cons, Nat.succ_mul]
  omega
theorem LH {pa : List AM} (h1 : pa.length ≤ 8) (h2 : ∀ s ∈ pa, s.length ≤ 24) : (PH pa).length ≤ 200 := by
 have := PA [46] 24 pa h2
 have h3 : pa.length * (24 + 1) ≤ 8 * 25 := Nat.mul_le_mul_right _ h1
 unfold PH
 simp at this
 omega
theorem Vd (p : Pt) : MJ p → (UV p).length ≤ 4196000 * CH p := by
 refine Pt.ind (Q := fun p => MJ p → (UV p).length ≤ 4196000 * CH p) ?_ p
 intro k t n pa fs b e hb he h
 simp only [MJ] at h
 obtain ⟨h1, _, h3, h4, h5, h6, h7, h8, h9⟩ := h
 have hl : ∀ l : List Pt, (∀ x ∈ l, MJ x → (UV x).length ≤ 4196000 * CH x) → Gt l → (CL l).length ≤ 4196000 * AW l := by
  intro l
  induction l with
  | nil => intro _ _; simp [CL]
  | cons x r ih =>
   intro h ho
   simp only [Gt] at ho
   have a := h x (by simp) ho.1
   have b := ih (fun y hy => h y (List.mem_cons_of_mem _ hy)) ho.2
   simp only [CL, AW, List.length_append, Nat.mul_add]
   omega
 have lb := hl b hb h8
 have le := hl e he h9
 have hw := LH h4 h5
 have hf := Er fs h7
 have hr := G8 t
 have hf2 : fs.length * 30 ≤ 8 * 30 := Nat.mul_le_mul_right _ h6
 unfold UV CH
 simp only [Nat.mul_add]
 split
 ·omega
 ·split
  ·simp only [List.length_append, opS, Li, List.length_cons, List.length_nil]; omega
  ·split <;> split <;> simp [Vy, Ib, Vg, Is, JW, Li] <;> omega
theorem EV : ∀ l : List Pt, Gt l → (CL l).length ≤ 4196000 * AW l
 | [], _ => by simp [CL]
 | x :: r, h => by
  simp only [Gt] at h
  have a := Vd x h.1
  have b := EV r h.2
  simp only [CL, AW, List.length_append, Nat.mul_add]
  omega
theorem VT (p : Pt) : ∀ pv i d, (ET pv i d p).2 = 0 → (ET pv i d p).1 = i + CH p ∧ CH p + i ≤ 200 := by
 refine Pt.ind (Q := fun p => ∀ pv i d, (ET pv i d p).2 = 0 → (ET pv i d p).1 = i + CH p ∧ CH p + i ≤ 200) ?_ p
 intro k t n pa fs b e hb he pv i d h
 have hl : ∀ l : List Pt, (∀ x ∈ l, ∀ pv i d, (ET pv i d x).2 = 0 → (ET pv i d x).1 = i + CH x ∧ CH x + i ≤ 200) → ∀ pv i d, i ≤ 200 → (BC pv i d l).2 = 0 → (BC pv i d l).1 = i + AW l ∧ AW l + i ≤ 200 := by
  intro l
  induction l with
  | nil => intro _ pv i d hi _; simp [BC, AW]; exact hi
  | cons x r ih =>
   intro h pv i d hi h2
   unfold BC at h2 ⊢
   by_cases hx : (ET pv i d x).2 = 0
   ·rw [if_neg (by simpa using hx)] at h2 ⊢
    obtain ⟨a1, a2⟩ := h x (by simp) pv i d hx
    obtain ⟨b1, b2⟩ := ih (fun y hy => h y (List.mem_cons_of_mem _ hy)) _ _ _ (by omega) h2
    simp only [AW]
    omega
   ·rw [if_pos hx] at h2; exact absurd h2 hx
 have hi := V3 h
 unfold ET at h ⊢
 split at h
 ·rename_i hc; exact absurd h hc
 ·rename_i hc
  rw [if_neg hc]
  split at h
  ·rename_i hb2; exact absurd h hb2
  ·rename_i hb2
   rw [if_neg hb2]
   obtain ⟨a1, a2⟩ := hl b hb 0 (i + 1) (d + 1) (by omega) (by simpa using hb2)
   obtain ⟨c1, c2⟩ := hl e he 0 _ (d + 1) (by omega) h
   unfold CH
   omega
theorem EC : ∀ (l : List Pt) (pv : Int) (i d : Nat), i ≤ 200 → (BC pv i d l).2 = 0 → (BC pv i d l).1 = i + AW l ∧ AW l + i ≤ 200
 | [], pv, i, d, hi, _ => by simp [BC, AW]; exact hi
 | x :: r, pv, i, d, hi, h2 => by
  unfold BC at h2 ⊢
  by_cases hx : (ET pv i d x).2 = 0
  ·rw [if_neg (by simpa using hx)] at h2 ⊢
   obtain ⟨a1, a2⟩ := VT x pv i d hx
   obtain ⟨b1, b2⟩ := EC r _ _ _ (by omega) h2
   simp only [AW]
   omega
  ·rw [if_pos hx] at h2; exact absurd h2 hx
mutual
def Me : Pt → Prop
 | .mk _ t n pa fs b e => t.length ≤ 1048576 ∧ n.length ≤ 2000000 ∧ pa.length ≤ 2000000 ∧ (∀ s ∈ pa, s.length ≤ 2000000) ∧ fs.length ≤ 2000000 ∧ b.length ≤ 2000000 ∧ e.length ≤ 2000000 ∧ Ec b ∧ Ec e
def Ec : List Pt → Prop
 | [] => True
 | x :: r => Me x ∧ Ec r
end
theorem DO : ∀ {l : List Pt} {x : Pt}, Ec l → x ∈ l → Me x
 | y :: r, x, h, hx => by
  simp only [Ec] at h
  rcases List.mem_cons.1 hx with rfl | hx
  ·exact h.1
  ·exact DO h.2 hx
theorem Qe {s : AM} (h : HS s = true) : s.length ≤ 24 := by
 unfold HS Gn at h
 simp only [Bool.and_eq_true, decide_eq_true_eq] at h
 exact h.1.1.1.2
theorem WR {s : AM} (h : R5 s = true) : s.length ≤ 24 := by
 unfold R5 at h
 simp only [Bool.and_eq_true, decide_eq_true_eq] at h
 obtain ⟨⟨h1, h2⟩, h3⟩ := h
 have e := (UB h1).1
 have hk : (DW s).1 ≤ 999 := h3
 rw [← e]
 obtain ⟨u, hu⟩ : ∃ u : Nat, (DW s).1 = (u : Int) := ⟨(DW s).1.toNat, by omega⟩
 rw [hu, Lib.itoa_nonneg, Lib.decDigits_length]
 have := EK 2 u (by omega)
 omega
theorem Ou {pa : List AM} (h : DN pa = true) : pa.length ≤ 8 ∧ ∀ s ∈ pa, s.length ≤ 24 := by
 cases pa with
 | nil => cases h
 | cons x r =>
  simp only [DN, Bool.and_eq_true, decide_eq_true_eq, List.all_eq_true, Bool.or_eq_true] at h
  obtain ⟨⟨h1, h2⟩, h3⟩ := h
  refine ⟨by simp; omega, fun s hs => ?_⟩
  rcases List.mem_cons.1 hs with rfl | hs
  ·exact Qe h2
  ·rcases h3 s hs with h | h
   ·exact Qe h
   ·exact WR h
theorem Wh {s : AM} (h : HV s ≠ 0) : s.length ≤ 24 := by
 have := TM h
 simp only [Y2, Xg, L5, L7, P9, Hq, Tl, LA, UQ, List.cons_append, List.nil_append, List.mem_cons, List.not_mem_nil, or_false] at this
 rcases this with rfl | rfl | rfl | rfl | rfl | rfl | rfl <;> decide
end Go.Proofs.YtnfjgphfaemjcaaGreatDoor
