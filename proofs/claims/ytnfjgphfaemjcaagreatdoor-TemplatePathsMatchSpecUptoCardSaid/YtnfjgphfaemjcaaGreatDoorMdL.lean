/- That the library texts at this seat are those that the contracts of the shelf speak of; no condition. -/
import Derived.Shelf.Strings.Fields
import Derived.Shelf.Strconv.Itoa3
import Derived.Shelf.Strings.OnBuilder
import Derived.Test.YtnfjgphfaemjcaaGreatDoorProg
import Derived.Shelf.Strings.Split
import Derived.Shelf.Strings.Cut
import Derived.Shelf.Strings.Prefix
import Derived.Shelf.Strings.Search3
import Derived.Shelf.Strconv.AtoiAll
import Derived.Shelf.Strings.Replace
import Derived.Shelf.Strings.RuneCount
import Derived.Lib.LaidU8
import Derived.Test.YtnfjgphfaemjcaaGreatDoorMgA
import Derived.Test.YtnfjgphfaemjcaaGreatDoorMgI
import Derived.Test.YtnfjgphfaemjcaaGreatDoorAdE
import Derived.Lib.AppendIntMem
import Derived.Lib.AtoiAllCases
import Derived.Lib.ItoaLen
import Derived.Lib.Split
import Derived.Lib.SplitLaws
import Derived.Lib.ValidLaws
set_option linter.all false
set_option linter.unusedSimpArgs false
set_option linter.unusedVariables false
namespace Go.Proofs.YtnfjgphfaemjcaaGreatDoor
open Go.Shelf
def P1 : Go.Shelf.Ren := ⟨fun | 171 => 65 | 243 => 103 | 246 => 141 | 283 => 174 | 284 => 175 | 285 => 176 | 286 => 177 | 129 => 201 | 317 => 200 | 318 => 202 | 319 => 203 | 320 => 204 | 337 => 217 | 338 => 218 | n => n, fun | 3 => 3 | 9 => 9 | 2 => 2 | 4 => 4 | 171 => 197 | 0 => 0 | 53 => 198 | 37 => 84 | 5 => 5 | 173 => 201 | 212 => 228 | 51 => 185 | 20 => 20 | 213 => 229 | 46 => 157 | 232 => 254 | 233 => 255 | n => n, fun | 17 => 3 | 18 => 8 | 19 => 9 | n => n⟩
theorem UV : Go.Proofs.LaysM.n171 Tryz.prog P1 := {
 mixed := by kernel_rfl
 f129 := Tryz.func201.trans (congrArg some (by kernel_rfl))
 f171 := Tryz.func65.trans (congrArg some (by kernel_rfl))
 f243 := Tryz.func103.trans (congrArg some (by kernel_rfl))
 f246 := Tryz.func141.trans (congrArg some (by kernel_rfl))
 f283 := Tryz.func174.trans (congrArg some (by kernel_rfl))
 f284 := Tryz.func175.trans (congrArg some (by kernel_rfl))
 f285 := Tryz.func176.trans (congrArg some (by kernel_rfl))
 f286 := Tryz.func177.trans (congrArg some (by kernel_rfl))
 f317 := Tryz.func200.trans (congrArg some (by kernel_rfl))
 f318 := Tryz.func202.trans (congrArg some (by kernel_rfl))
 f319 := Tryz.func203.trans (congrArg some (by kernel_rfl))
 f320 := Tryz.func204.trans (congrArg some (by kernel_rfl))
 f337 := Tryz.func217.trans (congrArg some (by kernel_rfl))
 f338 := Tryz.func218.trans (congrArg some (by kernel_rfl))
 t0 := Tryz.underlying0
 a0 := Tryz.isAgg0
 z0 := Tryz.sizeOf0
 v0 := Tryz.zeroValue0
 t2 := Tryz.underlying2
 a2 := Tryz.isAgg2
 z2 := Tryz.sizeOf2
 v2 := Tryz.zeroValue2
 t3 := Tryz.underlying3
 a3 := Tryz.isAgg3
 z3 := Tryz.sizeOf3
 v3 := Tryz.zeroValue3
 t4 := Tryz.underlying4
 a4 := Tryz.isAgg4
 z4 := Tryz.sizeOf4
 v4 := Tryz.zeroValue4
 t5 := Tryz.underlying5
 a5 := Tryz.isAgg5
 z5 := Tryz.sizeOf5
 v5 := Tryz.zeroValue5
 t9 := Tryz.underlying9
 a9 := Tryz.isAgg9
 z9 := Tryz.sizeOf9
 v9 := Tryz.zeroValue9
 t20 := Tryz.underlying20
 a20 := Tryz.isAgg20
 z20 := Tryz.sizeOf20
 v20 := Tryz.zeroValue20
 t37 := Tryz.underlying84
 a37 := Tryz.isAgg84
 z37 := Tryz.sizeOf84
 v37 := Tryz.zeroValue84
 t46 := Tryz.underlying157
 a46 := Tryz.isAgg157
 z46 := Tryz.sizeOf157
 v46 := Tryz.zeroValue157
 t51 := Tryz.underlying185
 a51 := Tryz.isAgg185
 z51 := Tryz.sizeOf185
 v51 := Tryz.zeroValue185
 t53 := Tryz.underlying198
 a53 := Tryz.isAgg198
 z53 := Tryz.sizeOf198
 v53 := Tryz.zeroValue198
 t171 := Tryz.underlying197
 a171 := Tryz.isAgg197
 z171 := Tryz.sizeOf197
 v171 := Tryz.zeroValue197
 t173 := Tryz.underlying201
 a173 := Tryz.isAgg201
 z173 := Tryz.sizeOf201
 v173 := Tryz.zeroValue201
 t212 := Tryz.underlying228
 a212 := Tryz.isAgg228
 z212 := Tryz.sizeOf228
 v212 := Tryz.zeroValue228
 t213 := Tryz.underlying229
 a213 := Tryz.isAgg229
 z213 := Tryz.sizeOf229
 t232 := Tryz.underlying254
 a232 := Tryz.isAgg254
 z232 := Tryz.sizeOf254
 v232 := Tryz.zeroValue254
 t233 := Tryz.underlying255
 a233 := Tryz.isAgg255
 z233 := Tryz.sizeOf255
 v233 := Tryz.zeroValue255
 g17 := by kernel_rfl
 g18 := by kernel_rfl
 g19 := by kernel_rfl
 i0 := by kernel_rfl
 i2 := by kernel_rfl
 i3 := by kernel_rfl
 i4 := by kernel_rfl
 i5 := by kernel_rfl
 i9 := by kernel_rfl
 i20 := by kernel_rfl
 i37 := by kernel_rfl
 i46 := by kernel_rfl
 i51 := by kernel_rfl
 i53 := by kernel_rfl
 i171 := by kernel_rfl
 i173 := by kernel_rfl
 i212 := by kernel_rfl
 i232 := by kernel_rfl
 i233 := by kernel_rfl
 m17 := by kernel_rfl
 m18 := by kernel_rfl
 m19 := by kernel_rfl }
def L6 : Go.Shelf.Ren := ⟨fun | 156 => 52 | 165 => 90 | 166 => 62 | 169 => 47 | 240 => 101 | 241 => 129 | 276 => 138 | 277 => 164 | n => n, fun | 31 => 35 | 9 => 9 | 3 => 3 | 4 => 4 | 0 => 0 | 20 => 20 | 72 => 86 | 76 => 114 | 70 => 83 | 37 => 84 | 75 => 113 | 127 => 139 | 164 => 178 | 5 => 5 | 80 => 90 | n => n, fun | n => n⟩
theorem SC : Go.Proofs.Lays.n156 Tryz.prog L6 := {
 mixed := by kernel_rfl
 f156 := Tryz.func52.trans (congrArg some (by kernel_rfl))
 f165 := Tryz.func90.trans (congrArg some (by kernel_rfl))
 f166 := Tryz.func62.trans (congrArg some (by kernel_rfl))
 f169 := Tryz.func47.trans (congrArg some (by kernel_rfl))
 f240 := Tryz.func101.trans (congrArg some (by kernel_rfl))
 f241 := Tryz.func129.trans (congrArg some (by kernel_rfl))
 f276 := Tryz.func138.trans (congrArg some (by kernel_rfl))
 f277 := Tryz.func164.trans (congrArg some (by kernel_rfl))
 t0 := Tryz.underlying0
 a0 := Tryz.isAgg0
 z0 := Tryz.sizeOf0
 v0 := Tryz.zeroValue0
 t3 := Tryz.underlying3
 a3 := Tryz.isAgg3
 z3 := Tryz.sizeOf3
 v3 := Tryz.zeroValue3
 t4 := Tryz.underlying4
 a4 := Tryz.isAgg4
 z4 := Tryz.sizeOf4
 v4 := Tryz.zeroValue4
 t9 := Tryz.underlying9
 a9 := Tryz.isAgg9
 z9 := Tryz.sizeOf9
 v9 := Tryz.zeroValue9
 t20 := Tryz.underlying20
 a20 := Tryz.isAgg20
 z20 := Tryz.sizeOf20
 v20 := Tryz.zeroValue20
 t31 := Tryz.underlying35
 a31 := Tryz.isAgg35
 z31 := Tryz.sizeOf35
 v31 := Tryz.zeroValue35
 t37 := Tryz.underlying84
 a37 := Tryz.isAgg84
 z37 := Tryz.sizeOf84
 v37 := Tryz.zeroValue84
 t70 := Tryz.underlying83
 a70 := Tryz.isAgg83
 z70 := Tryz.sizeOf83
 v70 := Tryz.zeroValue83
 t72 := Tryz.underlying86
 a72 := Tryz.isAgg86
 z72 := Tryz.sizeOf86
 v72 := Tryz.zeroValue86
 t75 := Tryz.underlying113
 a75 := Tryz.isAgg113
 z75 := Tryz.sizeOf113
 v75 := Tryz.zeroValue113
 t76 := Tryz.underlying114
 a76 := Tryz.isAgg114
 z76 := Tryz.sizeOf114
 v76 := Tryz.zeroValue114
 t127 := Tryz.underlying139
 a127 := Tryz.isAgg139
 z127 := Tryz.sizeOf139
 v127 := Tryz.zeroValue139
 t164 := Tryz.underlying178
 a164 := Tryz.isAgg178
 z164 := Tryz.sizeOf178
 v164 := Tryz.zeroValue178 }
theorem Eq : Builder.Extra Tryz.prog L6 := {
 sizeBuilder := by kernel_rfl
 liesBuilder := by kernel_rfl
 t5 := Tryz.underlying5
 a5 := Tryz.isAgg5
 z5 := Tryz.sizeOf5
 v5 := Tryz.zeroValue5
 infoByte := by kernel_rfl
 cellsByte := by kernel_rfl
 sizeByte := by kernel_rfl
 neB5 := by decide }
def QF : Go.Shelf.Ren := ⟨fun | 157 => 178 | 229 => 205 | 199 => 206 | 261 => 219 | 311 => 224 | 312 => 225 | n => n, fun | 9 => 9 | 31 => 35 | 3 => 3 | 5 => 5 | 4 => 4 | 119 => 211 | 0 => 0 | 40 => 233 | 152 => 244 | 21 => 21 | 154 => 246 | 51 => 185 | 141 => 248 | 196 => 259 | 193 => 256 | 198 => 262 | 49 => 260 | 194 => 257 | 201 => 265 | 226 => 267 | 46 => 157 | 227 => 268 | n => n, fun | 0 => 4 | 6 => 7 | n => n⟩
theorem Vi : Go.Proofs.Lays.n157 Tryz.prog QF := {
 mixed := by kernel_rfl
 f157 := Tryz.func178.trans (congrArg some (by kernel_rfl))
 f199 := Tryz.func206.trans (congrArg some (by kernel_rfl))
 f229 := Tryz.func205.trans (congrArg some (by kernel_rfl))
 f261 := Tryz.func219.trans (congrArg some (by kernel_rfl))
 f311 := Tryz.func224.trans (congrArg some (by kernel_rfl))
 f312 := Tryz.func225.trans (congrArg some (by kernel_rfl))
 t0 := Tryz.underlying0
 a0 := Tryz.isAgg0
 z0 := Tryz.sizeOf0
 v0 := Tryz.zeroValue0
 t3 := Tryz.underlying3
 a3 := Tryz.isAgg3
 z3 := Tryz.sizeOf3
 v3 := Tryz.zeroValue3
 t4 := Tryz.underlying4
 a4 := Tryz.isAgg4
 z4 := Tryz.sizeOf4
 v4 := Tryz.zeroValue4
 t5 := Tryz.underlying5
 a5 := Tryz.isAgg5
 z5 := Tryz.sizeOf5
 v5 := Tryz.zeroValue5
 t9 := Tryz.underlying9
 a9 := Tryz.isAgg9
 z9 := Tryz.sizeOf9
 v9 := Tryz.zeroValue9
 t21 := Tryz.underlying21
 a21 := Tryz.isAgg21
 z21 := Tryz.sizeOf21
 v21 := Tryz.zeroValue21
 t31 := Tryz.underlying35
 a31 := Tryz.isAgg35
 z31 := Tryz.sizeOf35
 v31 := Tryz.zeroValue35
 t40 := Tryz.underlying233
 a40 := Tryz.isAgg233
 z40 := Tryz.sizeOf233
 v40 := Tryz.zeroValue233
 t46 := Tryz.underlying157
 a46 := Tryz.isAgg157
 z46 := Tryz.sizeOf157
 v46 := Tryz.zeroValue157
 t49 := Tryz.underlying260
 a49 := Tryz.isAgg260
 z49 := Tryz.sizeOf260
 v49 := Tryz.zeroValue260
 t51 := Tryz.underlying185
 a51 := Tryz.isAgg185
 z51 := Tryz.sizeOf185
 v51 := Tryz.zeroValue185
 t119 := Tryz.underlying211
 a119 := Tryz.isAgg211
 z119 := Tryz.sizeOf211
 t141 := Tryz.underlying248
 a141 := Tryz.isAgg248
 z141 := Tryz.sizeOf248
 v141 := Tryz.zeroValue248
 t152 := Tryz.underlying244
 a152 := Tryz.isAgg244
 z152 := Tryz.sizeOf244
 v152 := Tryz.zeroValue244
 t154 := Tryz.underlying246
 a154 := Tryz.isAgg246
 z154 := Tryz.sizeOf246
 v154 := Tryz.zeroValue246
 t193 := Tryz.underlying256
 a193 := Tryz.isAgg256
 z193 := Tryz.sizeOf256
 v193 := Tryz.zeroValue256
 t194 := Tryz.underlying257
 a194 := Tryz.isAgg257
 z194 := Tryz.sizeOf257
 v194 := Tryz.zeroValue257
 t196 := Tryz.underlying259
 a196 := Tryz.isAgg259
 z196 := Tryz.sizeOf259
 v196 := Tryz.zeroValue259
 t198 := Tryz.underlying262
 a198 := Tryz.isAgg262
 z198 := Tryz.sizeOf262
 v198 := Tryz.zeroValue262
 t201 := Tryz.underlying265
 a201 := Tryz.isAgg265
 z201 := Tryz.sizeOf265
 v201 := Tryz.zeroValue265
 t226 := Tryz.underlying267
 a226 := Tryz.isAgg267
 z226 := Tryz.sizeOf267
 v226 := Tryz.zeroValue267
 t227 := Tryz.underlying268
 a227 := Tryz.isAgg268
 z227 := Tryz.sizeOf268
 v227 := Tryz.zeroValue268
 g0 := by kernel_rfl
 g6 := by kernel_rfl }
open Go.Shelf
def Qt : Go.Shelf.Ren := ⟨fun | 145 => 41 | 220 => 71 | 219 => 69 | 217 => 109 | 225 => 110 | 224 => 111 | 267 => 112 | 266 => 149 | 314 => 150 | n => n, fun | 9 => 9 | 4 => 4 | 59 => 77 | 3 => 3 | 5 => 5 | 46 => 157 | 146 => 186 | 51 => 185 | n => n, fun | 1 => 0 | n => n⟩
theorem WH : Go.Proofs.Lays.n145 Tryz.prog Qt := {
 mixed := by kernel_rfl
 f145 := Tryz.func41.trans (congrArg some (by kernel_rfl))
 f217 := Tryz.func109.trans (congrArg some (by kernel_rfl))
 f219 := Tryz.func69.trans (congrArg some (by kernel_rfl))
 f220 := Tryz.func71.trans (congrArg some (by kernel_rfl))
 f224 := Tryz.func111.trans (congrArg some (by kernel_rfl))
 f225 := Tryz.func110.trans (congrArg some (by kernel_rfl))
 f266 := Tryz.func149.trans (congrArg some (by kernel_rfl))
 f267 := Tryz.func112.trans (congrArg some (by kernel_rfl))
 f314 := Tryz.func150.trans (congrArg some (by kernel_rfl))
 t3 := Tryz.underlying3
 a3 := Tryz.isAgg3
 z3 := Tryz.sizeOf3
 v3 := Tryz.zeroValue3
 t4 := Tryz.underlying4
 a4 := Tryz.isAgg4
 z4 := Tryz.sizeOf4
 v4 := Tryz.zeroValue4
 t5 := Tryz.underlying5
 a5 := Tryz.isAgg5
 z5 := Tryz.sizeOf5
 v5 := Tryz.zeroValue5
 t9 := Tryz.underlying9
 a9 := Tryz.isAgg9
 z9 := Tryz.sizeOf9
 v9 := Tryz.zeroValue9
 t46 := Tryz.underlying157
 a46 := Tryz.isAgg157
 z46 := Tryz.sizeOf157
 v46 := Tryz.zeroValue157
 t51 := Tryz.underlying185
 a51 := Tryz.isAgg185
 z51 := Tryz.sizeOf185
 v51 := Tryz.zeroValue185
 t59 := Tryz.underlying77
 a59 := Tryz.isAgg77
 z59 := Tryz.sizeOf77
 v59 := Tryz.zeroValue77
 t146 := Tryz.underlying186
 a146 := Tryz.isAgg186
 z146 := Tryz.sizeOf186
 v146 := Tryz.zeroValue186
 g1 := by kernel_rfl }
def Pj : Go.Shelf.Ren := ⟨fun | 146 => 73 | 221 => 113 | 268 => 151 | 138 => 139 | 143 => 39 | 195 => 171 | 197 => 140 | 218 => 172 | 219 => 69 | 260 => 173 | 217 => 109 | 225 => 110 | 224 => 111 | 267 => 112 | 266 => 149 | 314 => 150 | n => n, fun | 9 => 9 | 31 => 35 | 3 => 3 | 4 => 4 | 0 => 0 | 105 => 180 | 21 => 21 | 5 => 5 | 46 => 157 | 119 => 211 | 139 => 214 | 138 => 213 | 146 => 186 | 51 => 185 | n => n, fun | 1 => 0 | 3 => 1 | 4 => 2 | n => n⟩
theorem Vu : Go.Proofs.Lays.n146 Tryz.prog Pj := {
 mixed := by kernel_rfl
 f138 := Tryz.func139.trans (congrArg some (by kernel_rfl))
 f143 := Tryz.func39.trans (congrArg some (by kernel_rfl))
 f146 := Tryz.func73.trans (congrArg some (by kernel_rfl))
 f195 := Tryz.func171.trans (congrArg some (by kernel_rfl))
 f197 := Tryz.func140.trans (congrArg some (by kernel_rfl))
 f217 := Tryz.func109.trans (congrArg some (by kernel_rfl))
 f218 := Tryz.func172.trans (congrArg some (by kernel_rfl))
 f219 := Tryz.func69.trans (congrArg some (by kernel_rfl))
 f221 := Tryz.func113.trans (congrArg some (by kernel_rfl))
 f224 := Tryz.func111.trans (congrArg some (by kernel_rfl))
 f225 := Tryz.func110.trans (congrArg some (by kernel_rfl))
 f260 := Tryz.func173.trans (congrArg some (by kernel_rfl))
 f266 := Tryz.func149.trans (congrArg some (by kernel_rfl))
 f267 := Tryz.func112.trans (congrArg some (by kernel_rfl))
 f268 := Tryz.func151.trans (congrArg some (by kernel_rfl))
 f314 := Tryz.func150.trans (congrArg some (by kernel_rfl))
 t0 := Tryz.underlying0
 a0 := Tryz.isAgg0
 z0 := Tryz.sizeOf0
 v0 := Tryz.zeroValue0
 t3 := Tryz.underlying3
 a3 := Tryz.isAgg3
 z3 := Tryz.sizeOf3
 v3 := Tryz.zeroValue3
 t4 := Tryz.underlying4
 a4 := Tryz.isAgg4
 z4 := Tryz.sizeOf4
 v4 := Tryz.zeroValue4
 t5 := Tryz.underlying5
 a5 := Tryz.isAgg5
 z5 := Tryz.sizeOf5
 v5 := Tryz.zeroValue5
 t9 := Tryz.underlying9
 a9 := Tryz.isAgg9
 z9 := Tryz.sizeOf9
 v9 := Tryz.zeroValue9
 t21 := Tryz.underlying21
 a21 := Tryz.isAgg21
 z21 := Tryz.sizeOf21
 v21 := Tryz.zeroValue21
 t31 := Tryz.underlying35
 a31 := Tryz.isAgg35
 z31 := Tryz.sizeOf35
 v31 := Tryz.zeroValue35
 t46 := Tryz.underlying157
 a46 := Tryz.isAgg157
 z46 := Tryz.sizeOf157
 v46 := Tryz.zeroValue157
 t51 := Tryz.underlying185
 a51 := Tryz.isAgg185
 z51 := Tryz.sizeOf185
 v51 := Tryz.zeroValue185
 t105 := Tryz.underlying180
 a105 := Tryz.isAgg180
 z105 := Tryz.sizeOf180
 v105 := Tryz.zeroValue180
 t119 := Tryz.underlying211
 a119 := Tryz.isAgg211
 z119 := Tryz.sizeOf211
 t138 := Tryz.underlying213
 a138 := Tryz.isAgg213
 z138 := Tryz.sizeOf213
 v138 := Tryz.zeroValue213
 t139 := Tryz.underlying214
 a139 := Tryz.isAgg214
 z139 := Tryz.sizeOf214
 v139 := Tryz.zeroValue214
 t146 := Tryz.underlying186
 a146 := Tryz.isAgg186
 z146 := Tryz.sizeOf186
 v146 := Tryz.zeroValue186
 g1 := by kernel_rfl
 g3 := by kernel_rfl
 g4 := by kernel_rfl }
def Pu : Go.Shelf.Ren := ⟨fun | 143 => 39 | 219 => 69 | 217 => 109 | 225 => 110 | 224 => 111 | 267 => 112 | 266 => 149 | 314 => 150 | n => n, fun | 9 => 9 | 3 => 3 | 4 => 4 | 5 => 5 | 46 => 157 | 146 => 186 | 51 => 185 | n => n, fun | 1 => 0 | n => n⟩
theorem WX : Go.Proofs.Lays.n143 Tryz.prog Pu := {
 mixed := by kernel_rfl
 f143 := Tryz.func39.trans (congrArg some (by kernel_rfl))
 f217 := Tryz.func109.trans (congrArg some (by kernel_rfl))
 f219 := Tryz.func69.trans (congrArg some (by kernel_rfl))
 f224 := Tryz.func111.trans (congrArg some (by kernel_rfl))
 f225 := Tryz.func110.trans (congrArg some (by kernel_rfl))
 f266 := Tryz.func149.trans (congrArg some (by kernel_rfl))
 f267 := Tryz.func112.trans (congrArg some (by kernel_rfl))
 f314 := Tryz.func150.trans (congrArg some (by kernel_rfl))
 t3 := Tryz.underlying3
 a3 := Tryz.isAgg3
 z3 := Tryz.sizeOf3
 v3 := Tryz.zeroValue3
 t4 := Tryz.underlying4
 a4 := Tryz.isAgg4
 z4 := Tryz.sizeOf4
 v4 := Tryz.zeroValue4
 t5 := Tryz.underlying5
 a5 := Tryz.isAgg5
 z5 := Tryz.sizeOf5
 v5 := Tryz.zeroValue5
 t9 := Tryz.underlying9
 a9 := Tryz.isAgg9
 z9 := Tryz.sizeOf9
 v9 := Tryz.zeroValue9
 t46 := Tryz.underlying157
 a46 := Tryz.isAgg157
 z46 := Tryz.sizeOf157
 v46 := Tryz.zeroValue157
 t51 := Tryz.underlying185
 a51 := Tryz.isAgg185
 z51 := Tryz.sizeOf185
 v51 := Tryz.zeroValue185
 t146 := Tryz.underlying186
 a146 := Tryz.isAgg186
 z146 := Tryz.sizeOf186
 v146 := Tryz.zeroValue186
 g1 := by kernel_rfl }
def Ov : Go.Shelf.Ren := ⟨fun | 172 => 115 | 244 => 152 | 245 => 153 | 247 => 180 | 279 => 181 | 280 => 182 | 281 => 183 | 282 => 184 | 287 => 207 | 316 => 208 | 171 => 65 | 205 => 209 | 321 => 220 | 322 => 221 | 243 => 103 | 246 => 141 | 283 => 174 | 284 => 175 | 285 => 176 | 286 => 177 | 129 => 201 | 317 => 200 | 318 => 202 | 319 => 203 | 320 => 204 | 337 => 217 | 338 => 218 | n => n, fun | 9 => 9 | 3 => 3 | 75 => 113 | 76 => 114 | 4 => 4 | 5 => 5 | 167 => 204 | 37 => 84 | 0 => 0 | 85 => 205 | 2 => 2 | 168 => 207 | 53 => 198 | 175 => 234 | 46 => 157 | 210 => 237 | 127 => 139 | 145 => 252 | 143 => 250 | 21 => 21 | 171 => 197 | 173 => 201 | 212 => 228 | 51 => 185 | 20 => 20 | 213 => 229 | 232 => 254 | 233 => 255 | 80 => 90 | n => n, fun | 15 => 5 | 16 => 6 | 17 => 3 | 18 => 8 | 19 => 9 | n => n⟩
theorem Lw : Go.Proofs.LaysC.n172 Tryz.prog Ov := {
 mixed := by kernel_rfl
 f129 := Tryz.func201.trans (congrArg some (by kernel_rfl))
 f171 := Tryz.func65.trans (congrArg some (by kernel_rfl))
 f172 := Tryz.func115.trans (congrArg some (by kernel_rfl))
 f205 := Tryz.func209.trans (congrArg some (by kernel_rfl))
 f243 := Tryz.func103.trans (congrArg some (by kernel_rfl))
 f244 := Tryz.func152.trans (congrArg some (by kernel_rfl))
 f245 := Tryz.func153.trans (congrArg some (by kernel_rfl))
 f246 := Tryz.func141.trans (congrArg some (by kernel_rfl))
 f247 := Tryz.func180.trans (congrArg some (by kernel_rfl))
 f279 := Tryz.func181.trans (congrArg some (by kernel_rfl))
 f280 := Tryz.func182.trans (congrArg some (by kernel_rfl))
 f281 := Tryz.func183.trans (congrArg some (by kernel_rfl))
 f282 := Tryz.func184.trans (congrArg some (by kernel_rfl))
 f283 := Tryz.func174.trans (congrArg some (by kernel_rfl))
 f284 := Tryz.func175.trans (congrArg some (by kernel_rfl))
 f285 := Tryz.func176.trans (congrArg some (by kernel_rfl))
 f286 := Tryz.func177.trans (congrArg some (by kernel_rfl))
 f287 := Tryz.func207.trans (congrArg some (by kernel_rfl))
 f316 := Tryz.func208.trans (congrArg some (by kernel_rfl))
 f317 := Tryz.func200.trans (congrArg some (by kernel_rfl))
 f318 := Tryz.func202.trans (congrArg some (by kernel_rfl))
 f319 := Tryz.func203.trans (congrArg some (by kernel_rfl))
 f320 := Tryz.func204.trans (congrArg some (by kernel_rfl))
 f321 := Tryz.func220.trans (congrArg some (by kernel_rfl))
 f322 := Tryz.func221.trans (congrArg some (by kernel_rfl))
 f337 := Tryz.func217.trans (congrArg some (by kernel_rfl))
 f338 := Tryz.func218.trans (congrArg some (by kernel_rfl))
 t0 := Tryz.underlying0
 a0 := Tryz.isAgg0
 z0 := Tryz.sizeOf0
 v0 := Tryz.zeroValue0
 t2 := Tryz.underlying2
 a2 := Tryz.isAgg2
 z2 := Tryz.sizeOf2
 v2 := Tryz.zeroValue2
 t3 := Tryz.underlying3
 a3 := Tryz.isAgg3
 z3 := Tryz.sizeOf3
 v3 := Tryz.zeroValue3
 t4 := Tryz.underlying4
 a4 := Tryz.isAgg4
 z4 := Tryz.sizeOf4
 v4 := Tryz.zeroValue4
 t5 := Tryz.underlying5
 a5 := Tryz.isAgg5
 z5 := Tryz.sizeOf5
 v5 := Tryz.zeroValue5
 t9 := Tryz.underlying9
 a9 := Tryz.isAgg9
 z9 := Tryz.sizeOf9
 v9 := Tryz.zeroValue9
 t20 := Tryz.underlying20
 a20 := Tryz.isAgg20
 z20 := Tryz.sizeOf20
 v20 := Tryz.zeroValue20
 t21 := Tryz.underlying21
 a21 := Tryz.isAgg21
 z21 := Tryz.sizeOf21
 v21 := Tryz.zeroValue21
 t37 := Tryz.underlying84
 a37 := Tryz.isAgg84
 z37 := Tryz.sizeOf84
 v37 := Tryz.zeroValue84
 t46 := Tryz.underlying157
 a46 := Tryz.isAgg157
 z46 := Tryz.sizeOf157
 v46 := Tryz.zeroValue157
 t51 := Tryz.underlying185
 a51 := Tryz.isAgg185
 z51 := Tryz.sizeOf185
 v51 := Tryz.zeroValue185
 t53 := Tryz.underlying198
 a53 := Tryz.isAgg198
 z53 := Tryz.sizeOf198
 v53 := Tryz.zeroValue198
 t75 := Tryz.underlying113
 a75 := Tryz.isAgg113
 z75 := Tryz.sizeOf113
 v75 := Tryz.zeroValue113
 t76 := Tryz.underlying114
 a76 := Tryz.isAgg114
 z76 := Tryz.sizeOf114
 v76 := Tryz.zeroValue114
 t85 := Tryz.underlying205
 a85 := Tryz.isAgg205
 z85 := Tryz.sizeOf205
 v85 := Tryz.zeroValue205
 t127 := Tryz.underlying139
 a127 := Tryz.isAgg139
 z127 := Tryz.sizeOf139
 v127 := Tryz.zeroValue139
 t143 := Tryz.underlying250
 a143 := Tryz.isAgg250
 z143 := Tryz.sizeOf250
 v143 := Tryz.zeroValue250
 t145 := Tryz.underlying252
 a145 := Tryz.isAgg252
 z145 := Tryz.sizeOf252
 v145 := Tryz.zeroValue252
 t167 := Tryz.underlying204
 a167 := Tryz.isAgg204
 z167 := Tryz.sizeOf204
 v167 := Tryz.zeroValue204
 t168 := Tryz.underlying207
 a168 := Tryz.isAgg207
 z168 := Tryz.sizeOf207
 v168 := Tryz.zeroValue207
 t171 := Tryz.underlying197
 a171 := Tryz.isAgg197
 z171 := Tryz.sizeOf197
 v171 := Tryz.zeroValue197
 t173 := Tryz.underlying201
 a173 := Tryz.isAgg201
 z173 := Tryz.sizeOf201
 v173 := Tryz.zeroValue201
 t175 := Tryz.underlying234
 a175 := Tryz.isAgg234
 z175 := Tryz.sizeOf234
 v175 := Tryz.zeroValue234
 t210 := Tryz.underlying237
 a210 := Tryz.isAgg237
 z210 := Tryz.sizeOf237
 v210 := Tryz.zeroValue237
 t212 := Tryz.underlying228
 a212 := Tryz.isAgg228
 z212 := Tryz.sizeOf228
 v212 := Tryz.zeroValue228
 t213 := Tryz.underlying229
 a213 := Tryz.isAgg229
 z213 := Tryz.sizeOf229
 t232 := Tryz.underlying254
 a232 := Tryz.isAgg254
 z232 := Tryz.sizeOf254
 v232 := Tryz.zeroValue254
 t233 := Tryz.underlying255
 a233 := Tryz.isAgg255
 z233 := Tryz.sizeOf255
 v233 := Tryz.zeroValue255
 g15 := by kernel_rfl
 g16 := by kernel_rfl
 g17 := by kernel_rfl
 g18 := by kernel_rfl
 g19 := by kernel_rfl
 t80 := Tryz.underlying90
 a80 := Tryz.isAgg90
 z80 := Tryz.sizeOf90
 v80 := Tryz.zeroValue90
 i0 := by kernel_rfl
 i2 := by kernel_rfl
 i3 := by kernel_rfl
 i4 := by kernel_rfl
 i5 := by kernel_rfl
 i9 := by kernel_rfl
 i20 := by kernel_rfl
 i21 := by kernel_rfl
 i37 := by kernel_rfl
 i46 := by kernel_rfl
 i51 := by kernel_rfl
 i53 := by kernel_rfl
 i75 := by kernel_rfl
 i76 := by kernel_rfl
 i80 := by kernel_rfl
 i85 := by kernel_rfl
 i127 := by kernel_rfl
 i143 := by kernel_rfl
 i145 := by kernel_rfl
 i167 := by kernel_rfl
 i168 := by kernel_rfl
 i171 := by kernel_rfl
 i173 := by kernel_rfl
 i175 := by kernel_rfl
 i210 := by kernel_rfl
 i212 := by kernel_rfl
 i232 := by kernel_rfl
 i233 := by kernel_rfl
 m15 := by kernel_rfl
 m16 := by kernel_rfl
 m17 := by kernel_rfl
 m18 := by kernel_rfl
 m19 := by kernel_rfl
 c0 := by kernel_rfl
 c2 := by kernel_rfl
 c3 := by kernel_rfl
 c4 := by kernel_rfl
 c5 := by kernel_rfl
 c9 := by kernel_rfl
 c20 := by kernel_rfl
 c21 := by kernel_rfl
 c37 := by kernel_rfl
 c46 := by kernel_rfl
 c51 := by kernel_rfl
 c53 := by kernel_rfl
 c75 := by kernel_rfl
 c76 := by kernel_rfl
 c80 := by kernel_rfl
 c85 := by kernel_rfl
 c127 := by kernel_rfl
 c143 := by kernel_rfl
 c145 := by kernel_rfl
 c167 := by kernel_rfl
 c168 := by kernel_rfl
 c171 := by kernel_rfl
 c173 := by kernel_rfl
 c175 := by kernel_rfl
 c210 := by kernel_rfl
 c212 := by kernel_rfl
 c213 := by kernel_rfl
 c232 := by kernel_rfl
 c233 := by kernel_rfl }
open Go.Shelf
def L3 : Go.Shelf.Ren := ⟨fun | 155 => 63 | 154 => 102 | 138 => 139 | 165 => 90 | 143 => 39 | 166 => 62 | 197 => 140 | 169 => 47 | 195 => 171 | 218 => 172 | 240 => 101 | 241 => 129 | 219 => 69 | 260 => 173 | 276 => 138 | 277 => 164 | 217 => 109 | 225 => 110 | 224 => 111 | 267 => 112 | 266 => 149 | 314 => 150 | n => n, fun | 9 => 9 | 3 => 3 | 4 => 4 | 72 => 86 | 0 => 0 | 76 => 114 | 105 => 180 | 21 => 21 | 5 => 5 | 70 => 83 | 20 => 20 | 37 => 84 | 75 => 113 | 127 => 139 | 164 => 178 | 46 => 157 | 119 => 211 | 139 => 214 | 138 => 213 | 146 => 186 | 51 => 185 | 80 => 90 | n => n, fun | 1 => 0 | 3 => 1 | 4 => 2 | n => n⟩
theorem Va : Go.Proofs.Lays.n155 Tryz.prog L3 := {
 mixed := by kernel_rfl
 f138 := Tryz.func139.trans (congrArg some (by kernel_rfl))
 f143 := Tryz.func39.trans (congrArg some (by kernel_rfl))
 f154 := Tryz.func102.trans (congrArg some (by kernel_rfl))
 f155 := Tryz.func63.trans (congrArg some (by kernel_rfl))
 f165 := Tryz.func90.trans (congrArg some (by kernel_rfl))
 f166 := Tryz.func62.trans (congrArg some (by kernel_rfl))
 f169 := Tryz.func47.trans (congrArg some (by kernel_rfl))
 f195 := Tryz.func171.trans (congrArg some (by kernel_rfl))
 f197 := Tryz.func140.trans (congrArg some (by kernel_rfl))
 f217 := Tryz.func109.trans (congrArg some (by kernel_rfl))
 f218 := Tryz.func172.trans (congrArg some (by kernel_rfl))
 f219 := Tryz.func69.trans (congrArg some (by kernel_rfl))
 f224 := Tryz.func111.trans (congrArg some (by kernel_rfl))
 f225 := Tryz.func110.trans (congrArg some (by kernel_rfl))
 f240 := Tryz.func101.trans (congrArg some (by kernel_rfl))
 f241 := Tryz.func129.trans (congrArg some (by kernel_rfl))
 f260 := Tryz.func173.trans (congrArg some (by kernel_rfl))
 f266 := Tryz.func149.trans (congrArg some (by kernel_rfl))
 f267 := Tryz.func112.trans (congrArg some (by kernel_rfl))
 f276 := Tryz.func138.trans (congrArg some (by kernel_rfl))
 f277 := Tryz.func164.trans (congrArg some (by kernel_rfl))
 f314 := Tryz.func150.trans (congrArg some (by kernel_rfl))
 t0 := Tryz.underlying0
 a0 := Tryz.isAgg0
 z0 := Tryz.sizeOf0
 v0 := Tryz.zeroValue0
 t3 := Tryz.underlying3
 a3 := Tryz.isAgg3
 z3 := Tryz.sizeOf3
 v3 := Tryz.zeroValue3
 t4 := Tryz.underlying4
 a4 := Tryz.isAgg4
 z4 := Tryz.sizeOf4
 v4 := Tryz.zeroValue4
 t5 := Tryz.underlying5
 a5 := Tryz.isAgg5
 z5 := Tryz.sizeOf5
 v5 := Tryz.zeroValue5
 t9 := Tryz.underlying9
 a9 := Tryz.isAgg9
 z9 := Tryz.sizeOf9
 v9 := Tryz.zeroValue9
 t20 := Tryz.underlying20
 a20 := Tryz.isAgg20
 z20 := Tryz.sizeOf20
 v20 := Tryz.zeroValue20
 t21 := Tryz.underlying21
 a21 := Tryz.isAgg21
 z21 := Tryz.sizeOf21
 v21 := Tryz.zeroValue21
 t37 := Tryz.underlying84
 a37 := Tryz.isAgg84
 z37 := Tryz.sizeOf84
 v37 := Tryz.zeroValue84
 t46 := Tryz.underlying157
 a46 := Tryz.isAgg157
 z46 := Tryz.sizeOf157
 v46 := Tryz.zeroValue157
 t51 := Tryz.underlying185
 a51 := Tryz.isAgg185
 z51 := Tryz.sizeOf185
 v51 := Tryz.zeroValue185
 t70 := Tryz.underlying83
 a70 := Tryz.isAgg83
 z70 := Tryz.sizeOf83
 v70 := Tryz.zeroValue83
 t72 := Tryz.underlying86
 a72 := Tryz.isAgg86
 z72 := Tryz.sizeOf86
 v72 := Tryz.zeroValue86
 t75 := Tryz.underlying113
 a75 := Tryz.isAgg113
 z75 := Tryz.sizeOf113
 v75 := Tryz.zeroValue113
 t76 := Tryz.underlying114
 a76 := Tryz.isAgg114
 z76 := Tryz.sizeOf114
 v76 := Tryz.zeroValue114
 t105 := Tryz.underlying180
 a105 := Tryz.isAgg180
 z105 := Tryz.sizeOf180
 v105 := Tryz.zeroValue180
 t119 := Tryz.underlying211
 a119 := Tryz.isAgg211
 z119 := Tryz.sizeOf211
 t127 := Tryz.underlying139
 a127 := Tryz.isAgg139
 z127 := Tryz.sizeOf139
 v127 := Tryz.zeroValue139
 t138 := Tryz.underlying213
 a138 := Tryz.isAgg213
 z138 := Tryz.sizeOf213
 v138 := Tryz.zeroValue213
 t139 := Tryz.underlying214
 a139 := Tryz.isAgg214
 z139 := Tryz.sizeOf214
 v139 := Tryz.zeroValue214
 t146 := Tryz.underlying186
 a146 := Tryz.isAgg186
 z146 := Tryz.sizeOf186
 v146 := Tryz.zeroValue186
 t164 := Tryz.underlying178
 a164 := Tryz.isAgg178
 z164 := Tryz.sizeOf178
 v164 := Tryz.zeroValue178
 g1 := by kernel_rfl
 g3 := by kernel_rfl
 g4 := by kernel_rfl }
theorem Hv : Builder.Extra Tryz.prog L3 := {
 sizeBuilder := by kernel_rfl
 liesBuilder := by kernel_rfl
 t5 := Tryz.underlying5
 a5 := Tryz.isAgg5
 z5 := Tryz.sizeOf5
 v5 := Tryz.zeroValue5
 infoByte := by kernel_rfl
 cellsByte := by kernel_rfl
 sizeByte := by kernel_rfl
 neB5 := by decide }
def Q0 : Go.Shelf.Ren := ⟨fun | 195 => 171 | n => n, fun | 9 => 9 | 3 => 3 | 0 => 0 | 4 => 4 | n => n, fun | n => n⟩
theorem Vw : Go.Proofs.Lays.n195 Tryz.prog Q0 := {
 mixed := by kernel_rfl
 f195 := Tryz.func171.trans (congrArg some (by kernel_rfl))
 t0 := Tryz.underlying0
 a0 := Tryz.isAgg0
 z0 := Tryz.sizeOf0
 v0 := Tryz.zeroValue0
 t3 := Tryz.underlying3
 a3 := Tryz.isAgg3
 z3 := Tryz.sizeOf3
 v3 := Tryz.zeroValue3
 t4 := Tryz.underlying4
 a4 := Tryz.isAgg4
 z4 := Tryz.sizeOf4
 v4 := Tryz.zeroValue4
 t9 := Tryz.underlying9
 a9 := Tryz.isAgg9
 z9 := Tryz.sizeOf9
 v9 := Tryz.zeroValue9 }
open Go.Shelf
def LG : Go.Shelf.Ren := ⟨fun | 260 => 173 | n => n, fun | 9 => 9 | 21 => 21 | 3 => 3 | 4 => 4 | 5 => 5 | 119 => 211 | 0 => 0 | 46 => 157 | 139 => 214 | 138 => 213 | n => n, fun | 3 => 1 | 4 => 2 | n => n⟩
theorem Vn : Go.Proofs.Lays.n260 Tryz.prog LG := {
 mixed := by kernel_rfl
 f260 := Tryz.func173.trans (congrArg some (by kernel_rfl))
 t0 := Tryz.underlying0
 a0 := Tryz.isAgg0
 z0 := Tryz.sizeOf0
 v0 := Tryz.zeroValue0
 t3 := Tryz.underlying3
 a3 := Tryz.isAgg3
 z3 := Tryz.sizeOf3
 v3 := Tryz.zeroValue3
 t4 := Tryz.underlying4
 a4 := Tryz.isAgg4
 z4 := Tryz.sizeOf4
 v4 := Tryz.zeroValue4
 t5 := Tryz.underlying5
 a5 := Tryz.isAgg5
 z5 := Tryz.sizeOf5
 v5 := Tryz.zeroValue5
 t9 := Tryz.underlying9
 a9 := Tryz.isAgg9
 z9 := Tryz.sizeOf9
 v9 := Tryz.zeroValue9
 t21 := Tryz.underlying21
 a21 := Tryz.isAgg21
 z21 := Tryz.sizeOf21
 v21 := Tryz.zeroValue21
 t46 := Tryz.underlying157
 a46 := Tryz.isAgg157
 z46 := Tryz.sizeOf157
 v46 := Tryz.zeroValue157
 t119 := Tryz.underlying211
 a119 := Tryz.isAgg211
 z119 := Tryz.sizeOf211
 t138 := Tryz.underlying213
 a138 := Tryz.isAgg213
 z138 := Tryz.sizeOf213
 v138 := Tryz.zeroValue213
 t139 := Tryz.underlying214
 a139 := Tryz.isAgg214
 z139 := Tryz.sizeOf214
 v139 := Tryz.zeroValue214
 g3 := by kernel_rfl
 g4 := by kernel_rfl }
abbrev AP := List UInt8
abbrev aI (n : Int) : AV := .int .i64 n
abbrev aF (f : Int × Int) : AV := .agg [.int .i64 f.1, .int .i64 f.2]
open Go.RowKit
theorem J2 {P : Program} {w0 w w' : World} {G : Gh} {n : Nat} {H : A4} (h0 : Rel0 P w0 G n H w) (hb : Below w.heap.size w w') : Rel0 P w0 G n H w' := by
 have hbl : ∀ g, g < w.heap.size → w'.heap[g]? = w.heap[g]? := fun g hg => hb.block g hg
 refine ⟨h0.ext.tr hb, h0.lo, Nat.le_trans h0.hi hb.size, fun b o v hv => ?_, fun g e c hg => ?_, h0.capLo, fun g ob hob => ?_⟩
 ·have hc := h0.seal_ b o v hv
  have hlt : b < w.heap.size := World.block_lt_of_cell? _ _ hc
  rw [hb.cell (p := ⟨b, o, none⟩) hlt]; exact hc
 ·obtain ⟨cur, fz, h1, h2⟩ := h0.caps g e c hg
  refine ⟨cur, fz, ?_, h2⟩
  rw [hbl g (Array.getElem?_eq_some_iff.1 h1).1]; exact h1
 ·obtain ⟨h1, h2, h3⟩ := h0.objs g ob hob
  have hlt : g < w.heap.size := Nat.lt_of_lt_of_le h2 h0.hi
  exact ⟨h1, h2, h3.keep (hbl g hlt) (fun _ => rfl) rfl (Gh.Le.rfl_ G) (MapsKeep.lt hbl)⟩
theorem Ef {P : Program} {f : Nat} {args : List AV} {v : AV} (h : ∀ (G : Gh) (vs : List Value), RepL G vs args → ∃ u : Value, (∀ G', Rep G' u v) ∧ ∀ w : World, Laid w → Calls P f vs.toArray w fun e w' => e = .returned u ∧ Below w.heap.size w w') : APure P f args v := by
 intro n H hs w0 G w vs hl h0 hrep
 obtain ⟨u, hu, hc⟩ := h G vs hrep
 refine (hc w (hl.ext h0.ext)).mono ?_
 rintro e w' ⟨rfl, hb⟩
 exact ⟨u, v, G, n, H, rfl, ⟨rfl, rfl, rfl⟩, hu G, Gh.Le.rfl_ _, Nat.le_refl _, J2 h0 hb⟩
theorem Uy (s : ByteArray) (l : List UInt8) (h : s.data.toList = l) : s = ⟨l.toArray⟩ := by cases s; subst h; simp
theorem Rv (n : Int) (h : -9223372036854775808 ≤ n ∧ n ≤ 9223372036854775807) : APure Tryz.prog 65 [.int .i64 n] (.str (Lib.itoa n)) := by
 refine Ef fun G vs hr => ⟨.string ⟨(Lib.itoa n).toArray⟩, fun _ => .str (by simp), fun w hl => ?_⟩
 cases hr with | cons h1 h2 =>
 cases h2; cases h1
 refine (Any.strconv_Itoa UV n h.1 h.2 w (U4 (by kernel_rfl) hl.pow)).mono ?_
 rintro e w' ⟨rfl, k, os, rfl⟩
 exact ⟨rfl, Lib.below_grow _ _ (Nat.le_refl _) _ _⟩
theorem Fx (l : List AP) : AQ (l.map AV.str) = l.map AV.str := by
 induction l with
 | nil => rfl
 | cons x l ih => simp only [List.map_cons, AQ, List.flatMap_cons, AV.cells, List.singleton_append] at ih ⊢; rw [ih]
theorem O8 {G : Gh} (l : List AP) : RepL G (l.map fun x => Value.string ⟨x.toArray⟩) (l.map AV.str) := by
 induction l with
 | nil => exact .nil
 | cons x l ih => exact .cons (.str (by simp)) ih
theorem QI (s : AP) (hs : s.length < 4294967281) (ha : ∀ b ∈ s, b.toNat < 128) (hk : (Lib.fields s).length ≤ 1000000) : APure Tryz.prog 178 [.str s] (.sl 1 ((Lib.fields s).map AV.str) .ro) := by
 intro n H hH w0 G w vs hl h0 hrep
 cases hrep with | cons h1 h2 =>
 cases h2; cases h1
 rename_i sb hsb
 subst hsb
 refine (Any.strings_Fields Vi (by kernel_rfl) (by kernel_rfl) sb w (by rw [Lib.size_eq]; exact hs) (fun j b hj => ha b (List.mem_of_getElem? hj)) (U4 (by kernel_rfl) (hl.ext h0.ext).spc)).mono ?_
 rintro e w' ⟨rfl, rfl⟩
 have hrel := h0.newRow (w' := w.alloc (.cells ((Lib.fields sb.data.toList).map fun l => Value.string ⟨l.toArray⟩).toArray 9)) (cur := ((Lib.fields sb.data.toList).map fun l => Value.string ⟨l.toArray⟩).toArray) (e := 9) (fz := (0, 0)) (vs := (Lib.fields sb.data.toList).map fun l => Value.string ⟨l.toArray⟩) (c := none) (ob := none) rfl rfl rfl rfl
  (fun j u hu => by simpa using hu) (fun e' c' hc => by cases hc) (.inl rfl)
 have hle := h0.addLe ((Lib.fields sb.data.toList).map fun l => Value.string ⟨l.toArray⟩) none
 have hhi := h0.hi
 refine ⟨_, _, _, n, H, rfl, ⟨rfl, rfl, rfl⟩, .slro (vs := (Lib.fields sb.data.toList).map fun l => Value.string ⟨l.toArray⟩) ?_ (Gh.add_sealed _ _ _) ?_ (by simp), hle, Nat.le_refl _, hrel.less h0.lo (by omega) hH ?_⟩
 ·rw [Fx]; exact O8 _
 ·refine ⟨by simp, by simp only [maxLen]; omega, by decide, fun x hx => ?_, fun x hx => ?_⟩
  ·obtain ⟨y, _, rfl⟩ := List.mem_map.1 hx; rfl
  ·rw [Fx] at hx; obtain ⟨y, _, rfl⟩ := List.mem_map.1 hx; rfl
 ·intro k hk'
  rw [upd_ne (by omega)]
abbrev Ci (l : List AP) : AV := .sl 1 (l.map AV.str) .ro
theorem P2 (l : List AP) (sep : AP) (hl : l.length ≤ 140737488355328) (hlen : (Lib.join l sep).length ≤ 140737488355328) : APure Tryz.prog 52 [Ci l, .str sep] (.str (Lib.join l sep)) := by
 intro n H hH w0 G w vs hl0 h0 hrep
 cases hrep with | cons h1 h2 =>
 cases h2 with | cons h3 h4 =>
 cases h4; cases h3
 rename_i sb hsb
 subst hsb
 obtain ⟨A, c, rfl, hc, hm, hA⟩ := h1.slOut
 have key : ∀ {W : World} {e : Ending}, e = .returned (.string ⟨(Lib.join l sb.data.toList).toArray⟩) → Below w.heap.size w W → ∃ (v : Value) (r : AV) (G' : Gh) (n' : Nat) (H' : A4), e = .returned v ∧ (r = .str (Lib.join l sb.data.toList) ∧ n' = n ∧ H' = H) ∧ Rep G' v r ∧ G.Le G' ∧ n ≤ n' ∧ Rel0 Tryz.prog w0 G' n' H' W := fun he hb =>
  ⟨_, _, G, n, H, he, ⟨rfl, rfl, rfl⟩, .str (by simp), Gh.Le.rfl_ _, Nat.le_refl _, J2 h0 hb⟩
 by_cases hl0 : l = []
 ·subst hl0
  refine (Any.strings_Join_none SC Eq A c sb w).mono ?_
  rintro e w' ⟨he, rfl⟩
  exact key (by rw [he]; rfl) (Below.refl _ _)
 ·obtain ⟨g, off, us, rfl, hr, hs, ho⟩ := hA (by simpa using hl0)
  rw [Fx] at hr
  have hcell : ∀ (j : Nat) (x : ByteArray), (l.map fun x => (⟨x.toArray⟩ : ByteArray))[j]? = some x → w.cell? ⟨g, off + j, none⟩ = some (.string x) := by
   intro j x hj
   obtain ⟨y, hy, rfl⟩ : ∃ y, l[j]? = some y ∧ (⟨y.toArray⟩ : ByteArray) = x := by simpa [List.getElem?_map] using hj
   obtain ⟨u, hu, hru⟩ := hr.at (i := j) (x := .str y) (by simp [List.getElem?_map, hy])
   have h5 := h0.seal_ _ _ _ (hs j u hu)
   cases hru
   rename_i s hsy
   rw [h5, Uy _ _ hsy]
  have hlt : g < w.heap.size := by
   obtain ⟨y, hy⟩ : ∃ y, l[0]? = some y := ⟨_, List.getElem?_eq_getElem (List.length_pos_iff.2 hl0)⟩
   have := World.block_lt_of_cell? w _ (hcell 0 ⟨y.toArray⟩ (by simp [List.getElem?_map, hy]))
   simpa using this
  have hmap : (l.map fun x => (⟨x.toArray⟩ : ByteArray)).map (·.data.toList) = l := by
   rw [List.map_map]; conv => rhs; rw [← List.map_id l]
   apply List.map_congr_left; intro x _; simp
  have hj := Any.strings_Join SC Eq g off c (l.map fun x => (⟨x.toArray⟩ : ByteArray)) sb w hcell hlt (by simpa using hl) (by simpa using hc) (by rw [hmap]; exact hlen)
  rw [hmap, List.length_map] at hj
  simp only [List.length_map] at *
  refine hj.mono ?_
  rintro e w' ⟨he, hb⟩
  exact key he hb
def BH (c : UInt8) : Bool := decide (48 ≤ c.toNat ∧ c.toNat ≤ 57)
def Ds (acc : Nat) : AP → Nat
 | [] => acc
 | c :: r => Ds (10 * acc + (c.toNat - 48)) r
theorem OC (c : UInt8) (l : AP) : ∀ acc : Nat, Ds acc (l ++ [c]) = 10 * Ds acc l + (c.toNat - 48) := by
 induction l with
 | nil => intro acc; rfl
 | cons x l ih => intro acc; exact ih _
theorem Wn (l : AP) : ∀ acc : Nat, acc ≤ Ds acc l := by
 induction l with
 | nil => intro acc; exact Nat.le_refl _
 | cons x l ih =>
  intro acc
  have h2 : acc ≤ 10 * acc + (x.toNat - 48) := by omega
  exact Nat.le_trans h2 (ih _)
theorem W7 : ∀ d : Fin 10, (UInt8.ofNat (48 + d.val)).toNat = 48 + d.val := by decide
theorem PZ {d : Nat} (h : d < 10) : (UInt8.ofNat (48 + d)).toNat = 48 + d := by
 have e := W7 ⟨d, h⟩
 simp only at e
 exact e
theorem UJ {d : Nat} (h : d < 10) : BH (UInt8.ofNat (48 + d)) = true := by
 have e := PZ h
 unfold BH
 rw [e]
 exact decide_eq_true (by omega)
theorem Eh (u : Nat) : ∀ c ∈ Lib.decDigits u, BH c = true := by
 induction u using Nat.strongRecOn with
 | _ u ih =>
  intro c hc
  rw [Lib.decDigits] at hc
  split at hc
  ·rw [List.mem_singleton.1 hc]
   exact UJ (by omega)
  ·rcases List.mem_append.1 hc with h | h
   ·exact ih _ (by omega) c h
   ·rw [List.mem_singleton.1 h]
    exact UJ (by omega)
theorem SV {c : UInt8} {d : Nat} (h : c.toNat = 48 + d) (acc : Nat) : Ds acc [c] = 10 * acc + d ∧ ∀ l : AP, Ds acc (l ++ [c]) = 10 * Ds acc l + d := by
 constructor
 ·show 10 * acc + (c.toNat - 48) = _
  rw [h]; omega
 ·intro l; rw [OC, h]; omega
theorem M6 (u : Nat) : Ds 0 (Lib.decDigits u) = u := by
 induction u using Nat.strongRecOn with
 | _ u ih =>
  rw [Lib.decDigits]
  split
  ·rename_i h0
   have e := (SV (PZ (d := u) h0) 0).1
   generalize UInt8.ofNat (48 + u) = c at e ⊢
   rw [e]; omega
  ·rename_i h0
   have e := (SV (PZ (d := u % 10) (by omega)) 0).2 (Lib.decDigits (u / 10))
   have e2 := ih (u / 10) (by omega)
   generalize UInt8.ofNat (48 + u % 10) = c at e ⊢
   rw [e, e2]; omega
theorem La (u : Nat) : Lib.decDigits u ≠ [] := by
 intro h
 have := Lib.decDigits_length u
 rw [h] at this
 have := Lib.nDigits_pos u
 simp at *; omega
theorem Ej : ∀ (k u : Nat), u < 10 ^ (k + 1) → Lib.nDigits u ≤ k + 1
 | 0, u, h => by rw [Lib.nDigits_small (by omega)]; omega
 | k + 1, u, h => by
  by_cases c : u < 10
  ·rw [Lib.nDigits_small c]; omega
  ·rw [Lib.nDigits_big c]
   have := Ej k (u / 10) (by rw [Nat.pow_succ] at h; omega)
   omega
theorem IM (u : Nat) : (Lib.decDigits u).length ≤ 9 ↔ u ≤ 999999999 := by
 rw [Lib.decDigits_length]
 constructor
 ·intro h
  have h1 := Lib.lt_pow_nDigits u
  have h2 : 10 ^ Lib.nDigits u ≤ 10 ^ 9 := Nat.pow_le_pow_right (by omega) h
  omega
 ·intro h
  exact Ej 8 u (by omega)
theorem Tn (l : AP) (hl : ∀ c ∈ l, BH c = true) : ∀ acc : Nat, Ds acc l < 1844674407370955162 → Lib.parseUint10 acc l = .ok (Ds acc l) := by
 induction l with
 | nil => intro acc _; rfl
 | cons c r ih =>
  intro acc hb
  have hc := hl c List.mem_cons_self
  unfold BH at hc
  simp only [decide_eq_true_eq] at hc
  have e : Ds acc (c :: r) = Ds (10 * acc + (c.toNat - 48)) r := rfl
  rw [e] at hb ⊢
  have hg := Wn r (10 * acc + (c.toNat - 48))
  have hi := ih (fun x hx => hl x (List.mem_cons_of_mem _ hx)) (10 * acc + (c.toNat - 48)) hb
  rw [Lib.parseUint10, if_pos hc, if_neg (by omega), if_neg (by omega), Nat.mul_comm acc 10]
  exact hi
theorem SG {u : Nat} (h : u ≤ 999999999) : Lib.parseMag (Lib.decDigits u) = .ok u := by
 unfold Lib.parseMag
 rw [if_neg (La u), Tn _ (Eh u) 0 (by rw [M6]; omega), M6]
theorem Td {n : Int} (h : -999999999 ≤ n ∧ n ≤ 999999999) : Lib.atoiAll (Lib.itoa n) = .ok n := by
 by_cases c : n < 0
 ·obtain ⟨u, rfl⟩ : ∃ u : Nat, n = -(u : Int) := ⟨n.natAbs, by omega⟩
  rw [Lib.itoa_neg u (by omega), Lib.atoiAll_minus, SG (by omega)]
  simp [Lib.signed]; omega
 ·obtain ⟨u, rfl⟩ : ∃ u : Nat, n = (u : Int) := ⟨n.toNat, by omega⟩
  rw [Lib.itoa_nonneg]
  obtain ⟨d, l, e⟩ := List.exists_cons_of_ne_nil (La u)
  have hd := Eh u d (by rw [e]; exact List.mem_cons_self)
  unfold BH at hd
  simp only [decide_eq_true_eq] at hd
  have hm := SG (u := u) (by omega)
  rw [e] at hm ⊢
  rw [Lib.atoiAll_plain d l (by omega) (by omega), hm]
  simp [Lib.signless]; omega
def E0 (s : AP) : Int × Bool := match Lib.atoiAll s with
 | .ok v => (v, decide (Lib.itoa v = s) && decide ((Lib.trimPrefix s [45]).length ≤ 9))
 | .range => (Lib.atoiSat s, false)
 | _ => (0, false)
theorem Kf (n : Int) : Lib.trimPrefix (Lib.itoa n) [45] = Lib.decDigits n.natAbs := by
 by_cases c : n < 0
 ·obtain ⟨u, rfl⟩ : ∃ u : Nat, n = -(u : Int) := ⟨n.natAbs, by omega⟩
  rw [Lib.itoa_neg u (by omega)]
  simp [Lib.trimPrefix, Lib.hasPrefix]
 ·obtain ⟨u, rfl⟩ : ∃ u : Nat, n = (u : Int) := ⟨n.toNat, by omega⟩
  rw [Lib.itoa_nonneg]
  obtain ⟨d, l, e⟩ := List.exists_cons_of_ne_nil (La u)
  have hd := Eh u d (by rw [e]; exact List.mem_cons_self)
  unfold BH at hd
  simp only [decide_eq_true_eq] at hd
  have hne : ¬ (45 : UInt8) = d := by rintro rfl; revert hd; decide
  simp [Lib.trimPrefix, Lib.hasPrefix, e, hne]
theorem VD {n : Int} (h : -999999999 ≤ n ∧ n ≤ 999999999) : E0 (Lib.itoa n) = (n, true) := by
 unfold E0
 rw [Td h]
 simp only [Kf, decide_true, Bool.true_and]
 rw [decide_eq_true ((IM _).2 (by omega))]
theorem Tu {s : AP} (h : (E0 s).2 = true) : Lib.itoa (E0 s).1 = s ∧ -999999999 ≤ (E0 s).1 ∧ (E0 s).1 ≤ 999999999 := by
 unfold E0 at h ⊢
 split at h
 ·rename_i v hv
  simp only [Bool.and_eq_true, decide_eq_true_eq] at h
  simp only [hv]
  obtain ⟨h1, h2⟩ := h
  rw [← h1, Kf, IM] at h2
  exact ⟨h1, by omega, by omega⟩
 ·cases h
 ·cases h
def GS (s : AP) : Int × Bool :=
 let f := if s.head? = some 45 then 1 else 0
 if (s.drop f).all BH = true ∧ (s.drop f).length ≤ 9 then
  let n : Int := if f = 1 then -(Ds 0 (s.drop f) : Int) else Ds 0 (s.drop f)
  (n, decide (f < s.length) && decide (Lib.itoa n = s))
 else (0, false)
theorem To (n : Int) : (Lib.itoa n).drop (if (Lib.itoa n).head? = some 45 then 1 else 0) = Lib.decDigits n.natAbs ∧ ((Lib.itoa n).head? = some 45 ↔ n < 0) := by
 by_cases c : n < 0
 ·obtain ⟨u, rfl⟩ : ∃ u : Nat, n = -(u : Int) := ⟨n.natAbs, by omega⟩
  rw [Lib.itoa_neg u (by omega)]
  simp; omega
 ·obtain ⟨u, rfl⟩ : ∃ u : Nat, n = (u : Int) := ⟨n.toNat, by omega⟩
  rw [Lib.itoa_nonneg]
  obtain ⟨d, l, e⟩ := List.exists_cons_of_ne_nil (La u)
  have hd := Eh u d (by rw [e]; exact List.mem_cons_self)
  unfold BH at hd
  simp only [decide_eq_true_eq] at hd
  have hne : ¬ d = (45 : UInt8) := by rintro rfl; revert hd; decide
  have e2 : (u : Int).natAbs = u := by omega
  rw [e2, e]
  simp [hne]
theorem HP (l : AP) (hl : ∀ c ∈ l, BH c = true) : ∀ acc : Nat, Ds acc l < (acc + 1) * 10 ^ l.length := by
 induction l with
 | nil => intro acc; show acc < _; simp
 | cons c r ih =>
  intro acc
  have hc := hl c List.mem_cons_self
  unfold BH at hc
  simp only [decide_eq_true_eq] at hc
  have h1 := ih (fun x hx => hl x (List.mem_cons_of_mem _ hx)) (10 * acc + (c.toNat - 48))
  have e : Ds acc (c :: r) = Ds (10 * acc + (c.toNat - 48)) r := rfl
  rw [e]
  refine Nat.lt_of_lt_of_le h1 ?_
  rw [List.length_cons, Nat.pow_succ, ← Nat.mul_assoc, Nat.mul_right_comm]
  exact Nat.mul_le_mul_right _ (by omega)
theorem WW (s : AP) : (GS s).2 = (E0 s).2 ∧ ((E0 s).2 = true → (GS s).1 = (E0 s).1) := by
 have key : (E0 s).2 = true → GS s = ((E0 s).1, true) := by
  intro h
  obtain ⟨h1, h2, h3⟩ := Tu h
  generalize (E0 s).1 = n at h1 h2 h3
  subst h1
  obtain ⟨f1, f2⟩ := To n
  unfold GS
  simp only [f1]
  have hall : (Lib.decDigits n.natAbs).all BH = true := List.all_eq_true.2 (Eh _)
  rw [if_pos ⟨hall, (IM _).2 (by omega)⟩, M6]
  have hv : (if (if (Lib.itoa n).head? = some 45 then 1 else 0) = 1 then -((n.natAbs : Nat) : Int) else (n.natAbs : Int)) = n := by
   by_cases c : (Lib.itoa n).head? = some 45
   ·have := f2.1 c; simp [c]; omega
   ·have : ¬ n < 0 := fun h => c (f2.2 h)
    simp [c]; omega
  have hl : (if (Lib.itoa n).head? = some 45 then 1 else 0) < (Lib.itoa n).length := by
   have h4 := congrArg List.length f1
   rw [List.length_drop] at h4
   have := List.length_pos_iff.2 (La n.natAbs)
   omega
  rw [hv]
  simp [hl]
 have back : (GS s).2 = true → (E0 s).2 = true := by
  intro h
  unfold GS at h
  dsimp only at h
  generalize hf : (if s.head? = some 45 then 1 else 0) = f at h
  split at h
  ·rename_i hc
   have hd := List.all_eq_true.1 hc.1
   have hsm := HP (s.drop f) hd 0
   have hp : 10 ^ (s.drop f).length ≤ 10 ^ 9 := Nat.pow_le_pow_right (by omega) hc.2
   simp only [Bool.and_eq_true, decide_eq_true_eq] at h
   obtain ⟨_, h2⟩ := h
   rw [← h2, VD (by split <;> omega)]
  ·cases h
 cases h : (E0 s).2 with
 | true => rw [key h]; exact ⟨rfl, fun _ => rfl⟩
 | false =>
  refine ⟨?_, fun h => by cases h⟩
  cases h2 : (GS s).2 with
  | true => rw [back h2] at h; cases h
  | false => rfl
def MK (c : UInt8) : AP → List AP
 | [] => [[]]
 | x :: r => if x = c then [] :: MK c r else match MK c r with
  | [] => [[x]]
  | h :: t => (x :: h) :: t
theorem Xi (c : UInt8) (s : AP) : MK c s ≠ [] := by
 cases s with
 | nil => simp [MK]
 | cons x r =>
  unfold MK
  split
  ·simp
  ·split <;> simp
theorem SJ (c : UInt8) : ∀ s : AP, (MK c s).length ≤ s.length + 1
 | [] => by simp [MK]
 | x :: r => by
  have ih := SJ c r
  unfold MK
  split
  ·simp; omega
  ·split
   ·simp
   ·rename_i h t e; rw [e] at ih; simp at ih ⊢; omega
def HQ (c : UInt8) : AP → AP × AP × Bool
 | [] => ([], [], false)
 | x :: r => if x = c then ([], r, true) else (x :: (HQ c r).1, (HQ c r).2.1, (HQ c r).2.2)
inductive Js where | mk (k : Int) (t : AP) (ns : List AP) (it : List Js)
def Js.k : Js → Int | .mk k _ _ _ => k
def Js.t : Js → AP | .mk _ t _ _ => t
def Js.ns : Js → List AP | .mk _ _ n _ => n
def Js.it : Js → List Js | .mk _ _ _ i => i
theorem Js.ind {Q : Js → Prop} (h : ∀ k t ns it, (∀ x ∈ it, Q x) → Q (.mk k t ns it)) (v : Js) : Q v := by
 refine Js.rec (motive_1 := Q) (motive_2 := fun l => ∀ x ∈ l, Q x) (fun k t ns it hi => h k t ns it hi) (by simp) (fun x l hx hl => ?_) v
 intro y hy
 rcases List.mem_cons.1 hy with rfl | hy
 ·exact hx
 ·exact hl y hy
inductive Pt where | mk (k : Int) (t n : AP) (pa : List AP) (fs : List (AP × Int)) (b e : List Pt)
def Pt.k : Pt → Int | .mk k _ _ _ _ _ _ => k
def Pt.t : Pt → AP | .mk _ t _ _ _ _ _ => t
def Pt.n : Pt → AP | .mk _ _ n _ _ _ _ => n
def Pt.pa : Pt → List AP | .mk _ _ _ p _ _ _ => p
def Pt.fs : Pt → List (AP × Int) | .mk _ _ _ _ f _ _ => f
def Pt.b : Pt → List Pt | .mk _ _ _ _ _ b _ => b
def Pt.e : Pt → List Pt | .mk _ _ _ _ _ _ e => e
theorem Pt.ind {Q : Pt → Prop} (h : ∀ k t n pa fs b e, (∀ x ∈ b, Q x) → (∀ x ∈ e, Q x) → Q (.mk k t n pa fs b e)) (p : Pt) : Q p := by
 refine Pt.rec (motive_1 := Q) (motive_2 := fun l => ∀ x ∈ l, Q x) (fun k t n pa fs b e hb he => h k t n pa fs b e hb he) (by simp) (fun x l hx hl => ?_) p
 intro y hy
 rcases List.mem_cons.1 hy with rfl | hy
 ·exact hx
 ·exact hl y hy
abbrev Zq (f : AP × Int) : AV := .agg [.str f.1, aI f.2]
abbrev DE (l : List (AP × Int)) : AV := .sl 2 (l.map Zq) .ro
mutual
def ER : Pt → AV
 | .mk k t n pa fs b e => .agg [aI k, .str t, .str n, Ci pa, DE fs, .sl 7 (AO b) .ro, .sl 7 (AO e) .ro]
def AO : List Pt → List AV
 | [] => []
 | x :: r => ER x :: AO r
end
abbrev Cv (l : List Pt) : AV := .sl 7 (AO l) .ro
theorem Fb : ∀ l : List Pt, AO l = l.map ER
 | [] => rfl
 | x :: r => by simp [AO, Fb r]
theorem BJ (l : List Pt) : (AO l).length = l.length := by simp [Fb]
theorem T2 (a b : List Pt) : AO (a ++ b) = AO a ++ AO b := by simp [Fb]
theorem EL {l : List Pt} {i : Nat} {x : Pt} (h : l[i]? = some x) : (AO l)[i]? = some (ER x) := by simp [Fb, h]
/-! ### names -/
def IK (c : UInt8) : Bool := (decide (97 ≤ c.toNat) && decide (c.toNat ≤ 122)) || (decide (65 ≤ c.toNat) && decide (c.toNat ≤ 90)) || decide (c.toNat = 95)
def Zm : AP := [105, 102]
def Se : AP := [101, 97, 99, 104]
def Zt : AP := [105, 110]
def SY : AP := [101, 108, 115, 101]
def Vt : AP := [101, 110, 100]
def SU : AP := [111, 112, 101, 110]
def VV : List AP := [Zm, Se, Zt, SY, Vt, SU]
def HF (s : AP) : Bool := decide (s ≠ []) && decide (s.length ≤ 24) && !BH (s.headD 48) && s.all fun c => IK c || BH c
def Hm (s : AP) : Bool := HF s && !decide (s ∈ VV)
def Rf (s : AP) : Bool := (E0 s).2 && decide (0 ≤ (E0 s).1) && decide ((E0 s).1 ≤ 999)
def Dl : List AP → Bool
 | [] => false
 | h :: t => decide (t.length ≤ 7) && Hm h && t.all fun s => Hm s || Rf s
def MC : AP := [117, 112, 112, 101, 114]
def M7 : AP := [108, 111, 119, 101, 114]
def QE : AP := [116, 114, 105, 109]
def I9 : AP := [106, 115, 111, 110]
def UI : AP := [112, 97, 100]
def LY : AP := [114, 105, 103, 104, 116]
def U9 : AP := [99, 117, 116]
def Yy : List AP := [MC, M7, QE, I9]
def ZS : List AP := [UI, LY, U9]
def Hy (s : AP) : Nat := if s ∈ Yy then 1 else if s ∈ ZS then 2 else 0
/-! ### right templates -/
def HW : Nat → List (AP × Int) → Int
 | _, [] => 0
 | i, f :: r => if Hy f.1 = 0 then 5 else if (f.2 < 0 ∨ 200 < f.2) ∨ (Hy f.1 = 1 ∧ f.2 ≠ 0) then 4 else if 0 < i ∧ f.1 = I9 then 11 else HW (i + 1) r
def OU (pv k : Int) (t n : AP) (pa : List AP) (fs : List (AP × Int)) (b e : List Pt) : Bool :=
 (decide (k = 1) == decide (t = [])) || (decide (k ≠ 4) && decide (n ≠ [])) || (decide (k = 1) && decide (pa ≠ [])) || (decide (k ≠ 2) && decide (fs ≠ [])) || (decide (k < 3) && (decide (b ≠ []) || decide (e ≠ []))) || (decide (k = 1) && decide (pv = 1))
def Oj (k : Int) (n : AP) (pa : List AP) (fs : List (AP × Int)) : Int :=
 if (k = 4 ∧ Hm n = false) ∨ (k ≠ 1 ∧ Dl pa = false) then 7 else if 8 < fs.length then 2 else HW 0 fs
def FI (pv : Int) (i d : Nat) (k : Int) (t n : AP) (pa : List AP) (fs : List (AP × Int)) (b e : List Pt) : Int :=
 if 200 ≤ i then 2 else if 16 < d then 25 else if k < 1 ∨ 4 < k then 5 else if OU pv k t n pa fs b e = true then 6 else Oj k n pa fs
mutual
def E1 (pv : Int) (i d : Nat) : Pt → Nat × Int
 | .mk k t n pa fs b e => if FI pv i d k t n pa fs b e ≠ 0 then (i, FI pv i d k t n pa fs b e)
  else if (B6 0 (i + 1) (d + 1) b).2 ≠ 0 then B6 0 (i + 1) (d + 1) b else B6 0 (B6 0 (i + 1) (d + 1) b).1 (d + 1) e
def B6 (pv : Int) (i d : Nat) : List Pt → Nat × Int
 | [] => (i, 0)
 | x :: r => if (E1 pv i d x).2 ≠ 0 then E1 pv i d x else B6 x.k (E1 pv i d x).1 d r
end
/-! ### texts -/
def opS : AP := [60, 37]
def ML : AP := [37, 62]
def Lt : AP := [60, 37, 111, 112, 101, 110, 37, 62]
def DN : AP → AP
 | [] => []
 | [c] => [c]
 | a :: b :: r => if a = 60 ∧ b = 37 then Lt ++ DN r else a :: DN (b :: r)
def Lp (f : AP × Int) : AP := 124 :: f.1 ++ if Hy f.1 = 2 then 32 :: Lib.itoa f.2 else []
def Wx : AP := [60, 37, 105, 102, 32]
def LB : AP := [60, 37, 101, 97, 99, 104, 32]
def Vk : AP := [32, 105, 110, 32]
def LA : AP := [60, 37, 101, 108, 115, 101, 37, 62]
def LI : AP := [60, 37, 101, 110, 100, 37, 62]
def GT (pa : List AP) : AP := Lib.join pa [46]
mutual
def VX : Pt → AP
 | .mk k t n pa fs b e => if k = 1 then DN t else if k = 2 then opS ++ GT pa ++ fs.flatMap Lp ++ ML
  else (if k = 3 then Wx ++ GT pa ++ ML else LB ++ n ++ Vk ++ GT pa ++ ML) ++ Cj b ++ (if e = [] then [] else LA ++ Cj e) ++ LI
def Cj : List Pt → AP
 | [] => []
 | x :: r => VX x ++ Cj r
end
def GR (l : List Pt) : Int × Int := if (B6 0 0 0 l).2 ≠ 0 then ((B6 0 0 0 l).2, ((B6 0 0 0 l).1 : Int)) else if 4000 < (Cj l).length then (14, -1) else (0, 0)
theorem PD : ∀ a b : List Pt, Cj (a ++ b) = Cj a ++ Cj b
 | [], _ => rfl
 | x :: a, b => by simp [Cj, PD a b]
theorem Vh {pv : Int} {i d : Nat} {p : Pt} (h : (E1 pv i d p).2 = 0) : i < 200 ∧ d ≤ 16 := by
 obtain ⟨k, t, n, pa, fs, b, e⟩ := p
 rw [E1] at h
 split at h
 ·rename_i h1; exact absurd h h1
 ·rename_i h1
  have h1 := Classical.not_not.1 h1
  unfold FI at h1
  split at h1
  ·cases h1
  ·split at h1
   ·cases h1
   ·omega
mutual
def Ba : Pt → Nat
 | .mk _ _ _ _ _ b e => AU b + AU e + 1
def AU : List Pt → Nat
 | [] => 0
 | x :: r => Ba x + AU r
end
mutual
def TH (bnd : List AP) (out : List AP) : Pt → List AP
 | .mk k _ n pa _ b e => D1 bnd (D1 (if k = 4 then bnd ++ [n] else bnd) (if k ≠ 1 ∧ pa.headD [] ∉ bnd ∧ GT pa ∉ out then out ++ [GT pa] else out) b) e
def D1 (bnd : List AP) (out : List AP) : List Pt → List AP
 | [] => out
 | x :: r => D1 bnd (TH bnd out x) r
end
/-! ### parts, one behind the other -/
theorem Fq : ∀ a b : List Pt, AU (a ++ b) = AU a + AU b
 | [], b => by simp [AU]
 | x :: a, b => by simp only [List.cons_append, AU, Fq a b]; omega
open Go.RowKit
theorem M9 (x c : UInt8) (r : AP) : Lib.index (x :: r) [c] = if x = c then 0 else if Lib.index r [c] = -1 then -1 else Lib.index r [c] + 1 := by
 by_cases h : x = c
 ·subst h; rw [Lib.index]; simp [List.isPrefixOf]
 ·have hp : ([c] : List UInt8).isPrefixOf (x :: r) = false := by simp [List.isPrefixOf, Ne.symm h]
  rw [Lib.index, hp, if_neg h]; simp
theorem OY (c : UInt8) : ∀ s : AP, Lib.splitK [c] 0 (Lib.count s [c]) s = MK c s ∧ Lib.count s [c] + 1 = (MK c s).length
 | [] => by
  have e : Lib.count [] [c] = 0 := by rw [Lib.count_one]; rfl
  rw [e]; exact ⟨rfl, rfl⟩
 | x :: r => by
  obtain ⟨h1, h2⟩ := OY c r
  by_cases hx : x = c
  ·subst hx
   have e : Lib.count (x :: r) [x] = Lib.count r [x] + 1 := by rw [Lib.count_cons_eq, Nat.add_comm]
   rw [e, MK, if_pos rfl, Lib.splitK, M9, if_pos rfl]
   refine ⟨?_, by rw [List.length_cons, h2]⟩
   simpa using h1
  ·have e : Lib.count (x :: r) [c] = Lib.count r [c] := Lib.count_cons_ne _ _ _ hx
   rw [e, MK, if_neg hx]
   obtain ⟨h, t, e3⟩ := List.exists_cons_of_ne_nil (Xi c r)
   rw [e3] at h1 h2 ⊢
   refine ⟨?_, h2⟩
   have hge := Lib.index_ge r [c]
   cases hk : Lib.count r [c] with
   | zero =>
    rw [hk] at h1
    simp only [Lib.splitK] at h1 ⊢
    injection h1 with h1 h1'
    subst h1; subst h1'; rfl
   | succ k =>
    rw [hk] at h1
    simp only [Lib.splitK] at h1 ⊢
    rw [M9, if_neg hx]
    by_cases hi : Lib.index r [c] = -1
    ·rw [hi] at h1 ⊢
     simp only [BEq.rfl, if_true] at h1 ⊢
     injection h1 with h1 h1'
     subst h1; subst h1'; rfl
    ·have hn : ¬ (Lib.index r [c] == -1) = true := fun e => hi (beq_iff_eq.1 e)
     rw [if_neg hn] at h1
     rw [if_neg hi]
     have hn2 : ¬ (Lib.index r [c] + 1 == -1) = true := fun e => by have := beq_iff_eq.1 e; omega
     rw [if_neg hn2]
     have e1 : (Lib.index r [c] + 1).toNat = (Lib.index r [c]).toNat + 1 := by omega
     injection h1 with h1 h1'
     rw [e1, ← h1, ← h1']
     have e2 : (Lib.index r [c]).toNat + 1 + [c].length = (Lib.index r [c]).toNat + [c].length + 1 := by omega
     rw [e2]
     rfl
theorem TG (l : List ByteArray) : l.map Value.string = (l.map (·.data.toList)).map fun x => Value.string ⟨x.toArray⟩ := by
 rw [List.map_map]
 exact List.map_congr_left fun x _ => by simp
theorem PY (s : AP) (c : UInt8) (hs : s.length ≤ 2000000) : APure Tryz.prog 73 [.str s, .str [c]] (Ci (MK c s)) := by
 intro n H hH w0 G w vs hl h0 hrep
 cases hrep with | cons h1 h2 =>
 cases h2 with | cons h3 h4 =>
 cases h4; cases h1; cases h3
 rename_i sb hsb cb hcb
 subst hsb
 obtain ⟨m, hm⟩ := (hl.ext h0.ext).len
 have hsz : cb.size = 1 := by rw [Lib.size_eq, hcb]; rfl
 refine (Any.strings_Split Vu (by kernel_rfl) sb cb m w (by rw [Lib.size_eq]; omega) hm (by omega)).mono ?_
 have hcl := SJ c sb.data.toList
 obtain ⟨k1, k2⟩ := OY c sb.data.toList
 have hd := Lib.splitB_data cb 0 (Lib.countB sb cb) sb
 have hcnt : Lib.countB sb cb + 1 = (MK c sb.data.toList).length := by rw [← k2]; unfold Lib.countB; rw [hcb]
 rw [hcb] at hd
 have hcb2 : Lib.countB sb cb = Lib.count sb.data.toList [c] := by unfold Lib.countB; rw [hcb]
 rw [← hcb2] at k1
 rw [k1] at hd
 have hrow := TG (Lib.splitB cb 0 (Lib.countB sb cb) sb)
 rw [hd] at hrow
 rw [hcnt, hrow]
 generalize MK c sb.data.toList = L at *
 rintro e w' ⟨rfl, rfl⟩
 have hrel := h0.newRow (w' := w.alloc (.cells (L.map fun l => Value.string ⟨l.toArray⟩).toArray 9)) (cur := (L.map fun l => Value.string ⟨l.toArray⟩).toArray) (e := 9) (fz := (0, 0)) (vs := L.map fun l => Value.string ⟨l.toArray⟩) (c := none) (ob := none) rfl rfl rfl rfl
  (fun j u hu => by simpa using hu) (fun e' c' hc => by cases hc) (.inl rfl)
 have hle := h0.addLe (L.map fun l => Value.string ⟨l.toArray⟩) none
 have hhi := h0.hi
 refine ⟨_, _, _, n, H, rfl, ⟨rfl, rfl, rfl⟩, .slro (vs := L.map fun l => Value.string ⟨l.toArray⟩) ?_ (Gh.add_sealed _ _ _) ?_ (by simp), hle, Nat.le_refl _, hrel.less h0.lo (by omega) hH ?_⟩
 ·rw [Fx]; exact O8 _
 ·refine ⟨by simp, by simp only [maxLen]; omega, by decide, fun x hx => ?_, fun x hx => ?_⟩
  ·obtain ⟨y, _, rfl⟩ := List.mem_map.1 hx; rfl
  ·rw [Fx] at hx; obtain ⟨y, _, rfl⟩ := List.mem_map.1 hx; rfl
 ·intro k hk'
  rw [upd_ne (by omega)]
theorem IV (s p : AP) (hs : s.length ≤ 2000000) : APure Tryz.prog 41 [.str s, .str p] (.tup [.str (Lib.cut s p).1, .str (Lib.cut s p).2.1, .bool (Lib.cut s p).2.2]) := by
 refine Ef fun G vs hr => ⟨.tuple #[.string ⟨(Lib.cut s p).1.toArray⟩, .string ⟨(Lib.cut s p).2.1.toArray⟩, .bool (Lib.cut s p).2.2], fun _ => .tup (.cons (.str (by simp)) (.cons (.str (by simp)) (.cons .bool .nil))), fun w hl => ?_⟩
 cases hr with | cons h1 h2 =>
 cases h2 with | cons h3 h4 =>
 cases h4; cases h1; cases h3
 rename_i s1 hs1 s2 hs2
 obtain ⟨m, hm⟩ := hl.len
 have key := Any.strings_Cut WH s1 s2 m w (by rw [Lib.size_eq, hs1]; omega) hm
 rw [hs1, hs2] at key
 refine key.mono ?_
 rintro e w' ⟨rfl, k, rfl⟩
 have b := Below.refl w.heap.size w
 exact ⟨rfl, ⟨b.os, b.tape, b.output, b.size, b.block⟩⟩
theorem LL (s p : AP) (hs : s.length ≤ 2000000) : APure Tryz.prog 39 [.str s, .str p] (aI (Lib.index s p)) := by
 refine Ef fun G vs hr => ⟨.int .i64 (Lib.index s p), fun _ => .int, fun w hl => ?_⟩
 cases hr with | cons h1 h2 =>
 cases h2 with | cons h3 h4 =>
 cases h4; cases h1; cases h3
 rename_i s1 hs1 s2 hs2
 obtain ⟨m, hm⟩ := hl.len
 have key := Any.strings_Index WX s1 s2 m w (by rw [Lib.size_eq, hs1]; omega) hm
 rw [hs1, hs2] at key
 refine key.mono ?_
 rintro e w' ⟨rfl, rfl⟩
 exact ⟨rfl, Below.refl _ _⟩
theorem Sj {s : AP} {v : Int} (h : Lib.atoiAll s = .ok v) (hs : s.length ≤ 2000000) : APure Tryz.prog 115 [.str s] (.tup [aI v, .nif]) := by
 refine Ef fun G vs hr => ⟨.tuple #[.int .i64 v, .nilIface], fun _ => .tup (.cons .int (.cons .nif .nil)), fun w hl => ?_⟩
 cases hr with | cons h1 h2 =>
 cases h2; cases h1
 rename_i s1 hs1
 refine (Any.strconv_Atoi_ok Lw s1 (by rw [Lib.size_eq, hs1]; omega) v (by rw [hs1]; exact h) w).mono ?_
 rintro e w' ⟨rfl, h2⟩
 refine ⟨rfl, ?_⟩
 rcases h2 with rfl | ⟨t, rfl⟩
 ·exact Below.refl _ _
 ·exact Lib.bytesWorld_below _ _ _
theorem Pq {P : Program} {f : Nat} {s : AP} {n : Int} {t : Nat} (h : ∀ (s1 : ByteArray) (w : World), s1.data.toList = s → Laid w → Calls P f #[.string s1] w fun e w' => ∃ N, e = .returned (.tuple #[.int .i64 n, .iface t (.pointer (some ⟨N, 0, none⟩))]) ∧ Below w.heap.size w w') : APure P f [.str s] (.tup [aI n, .ifc t .any]) := by
 intro n0 H hs w0 G w vs hl h0 hrep
 cases hrep with | cons h1 h2 =>
 cases h2; cases h1
 rename_i s1 hs1
 refine (h s1 w hs1 (hl.ext h0.ext)).mono ?_
 rintro e w' ⟨N, rfl, hb⟩
 exact ⟨_, _, G, n0, H, rfl, ⟨rfl, rfl, rfl⟩, .tup (.cons .int (.cons (.ifc .any) .nil)), Gh.Le.rfl_ _, Nat.le_refl _, J2 h0 hb⟩
theorem UC {s : AP} (h0 : ∀ v, Lib.atoiAll s ≠ .ok v) (h2 : Lib.atoiAll s ≠ .range) (hs : s.length ≤ 2000000) : APure Tryz.prog 115 [.str s] (.tup [aI 0, .ifc 207 .any]) := by
 refine Pq fun s1 w hs1 hl => ?_
 obtain ⟨ev, hv, hev⟩ := hl.syn
 refine (Any.strconv_Atoi_syntax Lw s1 (by rw [Lib.size_eq, hs1]; omega) (by rw [hs1]; revert h0 h2; cases Lib.atoiAll s <;> simp) ev w hv hev).mono ?_
 rintro e w' ⟨k, rfl, _, _, hb⟩
 exact ⟨k, rfl, hb⟩
theorem UA {s : AP} (h : Lib.atoiAll s = .range) (hs : s.length ≤ 2000000) : APure Tryz.prog 115 [.str s] (.tup [aI (Lib.atoiSat s), .ifc 207 .any]) := by
 refine Pq fun s1 w hs1 hl => ?_
 obtain ⟨ev, hv, hev⟩ := hl.rng
 have key := Any.strconv_Atoi_range Lw s1 (by rw [Lib.size_eq, hs1]; omega) (by rw [hs1]; exact h) ev w hv hev
 rw [hs1] at key
 refine key.mono ?_
 rintro e w' ⟨k, rfl, _, _, hb⟩
 exact ⟨k, rfl, hb⟩
end Go.Proofs.YtnfjgphfaemjcaaGreatDoor
