/- That the library texts at this seat are those that the contracts of the shelf speak of; no condition. -/
import Derived.Shelf.Strings.Fields
import Derived.Shelf.Strconv.Itoa3
import Derived.Shelf.Strings.OnBuilder
import Derived.Test.YtnfjgphfaemjcaaGreatDoorProg
import Derived.Shelf.Strings.Split
import Derived.Shelf.Strings.Cut
import Derived.Shelf.Strings.Prefix
import Derived.Shelf.Strings.Search3
import Derived.Shelf.Strconv.AtoiAll
import Derived.Shelf.Strings.Replace
import Derived.Shelf.Strings.RuneCount
import Derived.Lib.LaidU8
import Derived.Test.YtnfjgphfaemjcaaGreatDoorMgA
import Derived.Test.YtnfjgphfaemjcaaGreatDoorMgJ
import Derived.Test.YtnfjgphfaemjcaaGreatDoorAdE
import Derived.Lib.AppendIntMem
import Derived.Lib.AtoiAllCases
import Derived.Lib.ItoaLen
import Derived.Lib.Split
import Derived.Lib.SplitLaws
import Derived.Lib.ValidLaws
set_option linter.all false
set_option linter.unusedSimpArgs false
set_option linter.unusedVariables false
namespace Go.Proofs.YtnfjgphfaemjcaaGreatDoor
open Go.Shelf
def OX : Go.Shelf.Ren := ⟨fun | 171 => 65 | 243 => 103 | 246 => 141 | 283 => 174 | 284 => 175 | 285 => 176 | 286 => 177 | 129 => 201 | 317 => 200 | 318 => 202 | 319 => 203 | 320 => 204 | 337 => 217 | 338 => 218 | n => n, fun | 3 => 3 | 9 => 9 | 2 => 2 | 4 => 4 | 171 => 197 | 0 => 0 | 53 => 198 | 37 => 84 | 5 => 5 | 173 => 201 | 212 => 228 | 51 => 185 | 20 => 20 | 213 => 229 | 46 => 157 | 232 => 254 | 233 => 255 | n => n, fun | 17 => 3 | 18 => 8 | 19 => 9 | n => n⟩
theorem Vb : Go.Proofs.LaysM.n171 Tryz.prog OX := {
 mixed := by kernel_rfl
 f129 := Tryz.func201.trans (congrArg some (by kernel_rfl))
 f171 := Tryz.func65.trans (congrArg some (by kernel_rfl))
 f243 := Tryz.func103.trans (congrArg some (by kernel_rfl))
 f246 := Tryz.func141.trans (congrArg some (by kernel_rfl))
 f283 := Tryz.func174.trans (congrArg some (by kernel_rfl))
 f284 := Tryz.func175.trans (congrArg some (by kernel_rfl))
 f285 := Tryz.func176.trans (congrArg some (by kernel_rfl))
 f286 := Tryz.func177.trans (congrArg some (by kernel_rfl))
 f317 := Tryz.func200.trans (congrArg some (by kernel_rfl))
 f318 := Tryz.func202.trans (congrArg some (by kernel_rfl))
 f319 := Tryz.func203.trans (congrArg some (by kernel_rfl))
 f320 := Tryz.func204.trans (congrArg some (by kernel_rfl))
 f337 := Tryz.func217.trans (congrArg some (by kernel_rfl))
 f338 := Tryz.func218.trans (congrArg some (by kernel_rfl))
 t0 := Tryz.underlying0
 a0 := Tryz.isAgg0
 z0 := Tryz.sizeOf0
 v0 := Tryz.zeroValue0
 t2 := Tryz.underlying2
 a2 := Tryz.isAgg2
 z2 := Tryz.sizeOf2
 v2 := Tryz.zeroValue2
 t3 := Tryz.underlying3
 a3 := Tryz.isAgg3
 z3 := Tryz.sizeOf3
 v3 := Tryz.zeroValue3
 t4 := Tryz.underlying4
 a4 := Tryz.isAgg4
 z4 := Tryz.sizeOf4
 v4 := Tryz.zeroValue4
 t5 := Tryz.underlying5
 a5 := Tryz.isAgg5
 z5 := Tryz.sizeOf5
 v5 := Tryz.zeroValue5
 t9 := Tryz.underlying9
 a9 := Tryz.isAgg9
 z9 := Tryz.sizeOf9
 v9 := Tryz.zeroValue9
 t20 := Tryz.underlying20
 a20 := Tryz.isAgg20
 z20 := Tryz.sizeOf20
 v20 := Tryz.zeroValue20
 t37 := Tryz.underlying84
 a37 := Tryz.isAgg84
 z37 := Tryz.sizeOf84
 v37 := Tryz.zeroValue84
 t46 := Tryz.underlying157
 a46 := Tryz.isAgg157
 z46 := Tryz.sizeOf157
 v46 := Tryz.zeroValue157
 t51 := Tryz.underlying185
 a51 := Tryz.isAgg185
 z51 := Tryz.sizeOf185
 v51 := Tryz.zeroValue185
 t53 := Tryz.underlying198
 a53 := Tryz.isAgg198
 z53 := Tryz.sizeOf198
 v53 := Tryz.zeroValue198
 t171 := Tryz.underlying197
 a171 := Tryz.isAgg197
 z171 := Tryz.sizeOf197
 v171 := Tryz.zeroValue197
 t173 := Tryz.underlying201
 a173 := Tryz.isAgg201
 z173 := Tryz.sizeOf201
 v173 := Tryz.zeroValue201
 t212 := Tryz.underlying228
 a212 := Tryz.isAgg228
 z212 := Tryz.sizeOf228
 v212 := Tryz.zeroValue228
 t213 := Tryz.underlying229
 a213 := Tryz.isAgg229
 z213 := Tryz.sizeOf229
 t232 := Tryz.underlying254
 a232 := Tryz.isAgg254
 z232 := Tryz.sizeOf254
 v232 := Tryz.zeroValue254
 t233 := Tryz.underlying255
 a233 := Tryz.isAgg255
 z233 := Tryz.sizeOf255
 v233 := Tryz.zeroValue255
 g17 := by kernel_rfl
 g18 := by kernel_rfl
 g19 := by kernel_rfl
 i0 := by kernel_rfl
 i2 := by kernel_rfl
 i3 := by kernel_rfl
 i4 := by kernel_rfl
 i5 := by kernel_rfl
 i9 := by kernel_rfl
 i20 := by kernel_rfl
 i37 := by kernel_rfl
 i46 := by kernel_rfl
 i51 := by kernel_rfl
 i53 := by kernel_rfl
 i171 := by kernel_rfl
 i173 := by kernel_rfl
 i212 := by kernel_rfl
 i232 := by kernel_rfl
 i233 := by kernel_rfl
 m17 := by kernel_rfl
 m18 := by kernel_rfl
 m19 := by kernel_rfl }
def KY : Go.Shelf.Ren := ⟨fun | 156 => 52 | 165 => 90 | 166 => 62 | 169 => 47 | 240 => 101 | 241 => 129 | 276 => 138 | 277 => 164 | n => n, fun | 31 => 35 | 9 => 9 | 3 => 3 | 4 => 4 | 0 => 0 | 20 => 20 | 72 => 86 | 76 => 114 | 70 => 83 | 37 => 84 | 75 => 113 | 127 => 139 | 164 => 178 | 5 => 5 | 80 => 90 | n => n, fun | n => n⟩
theorem SW : Go.Proofs.Lays.n156 Tryz.prog KY := {
 mixed := by kernel_rfl
 f156 := Tryz.func52.trans (congrArg some (by kernel_rfl))
 f165 := Tryz.func90.trans (congrArg some (by kernel_rfl))
 f166 := Tryz.func62.trans (congrArg some (by kernel_rfl))
 f169 := Tryz.func47.trans (congrArg some (by kernel_rfl))
 f240 := Tryz.func101.trans (congrArg some (by kernel_rfl))
 f241 := Tryz.func129.trans (congrArg some (by kernel_rfl))
 f276 := Tryz.func138.trans (congrArg some (by kernel_rfl))
 f277 := Tryz.func164.trans (congrArg some (by kernel_rfl))
 t0 := Tryz.underlying0
 a0 := Tryz.isAgg0
 z0 := Tryz.sizeOf0
 v0 := Tryz.zeroValue0
 t3 := Tryz.underlying3
 a3 := Tryz.isAgg3
 z3 := Tryz.sizeOf3
 v3 := Tryz.zeroValue3
 t4 := Tryz.underlying4
 a4 := Tryz.isAgg4
 z4 := Tryz.sizeOf4
 v4 := Tryz.zeroValue4
 t9 := Tryz.underlying9
 a9 := Tryz.isAgg9
 z9 := Tryz.sizeOf9
 v9 := Tryz.zeroValue9
 t20 := Tryz.underlying20
 a20 := Tryz.isAgg20
 z20 := Tryz.sizeOf20
 v20 := Tryz.zeroValue20
 t31 := Tryz.underlying35
 a31 := Tryz.isAgg35
 z31 := Tryz.sizeOf35
 v31 := Tryz.zeroValue35
 t37 := Tryz.underlying84
 a37 := Tryz.isAgg84
 z37 := Tryz.sizeOf84
 v37 := Tryz.zeroValue84
 t70 := Tryz.underlying83
 a70 := Tryz.isAgg83
 z70 := Tryz.sizeOf83
 v70 := Tryz.zeroValue83
 t72 := Tryz.underlying86
 a72 := Tryz.isAgg86
 z72 := Tryz.sizeOf86
 v72 := Tryz.zeroValue86
 t75 := Tryz.underlying113
 a75 := Tryz.isAgg113
 z75 := Tryz.sizeOf113
 v75 := Tryz.zeroValue113
 t76 := Tryz.underlying114
 a76 := Tryz.isAgg114
 z76 := Tryz.sizeOf114
 v76 := Tryz.zeroValue114
 t127 := Tryz.underlying139
 a127 := Tryz.isAgg139
 z127 := Tryz.sizeOf139
 v127 := Tryz.zeroValue139
 t164 := Tryz.underlying178
 a164 := Tryz.isAgg178
 z164 := Tryz.sizeOf178
 v164 := Tryz.zeroValue178 }
theorem EV : Builder.Extra Tryz.prog KY := {
 sizeBuilder := by kernel_rfl
 liesBuilder := by kernel_rfl
 t5 := Tryz.underlying5
 a5 := Tryz.isAgg5
 z5 := Tryz.sizeOf5
 v5 := Tryz.zeroValue5
 infoByte := by kernel_rfl
 cellsByte := by kernel_rfl
 sizeByte := by kernel_rfl
 neB5 := by decide }
def PZ : Go.Shelf.Ren := ⟨fun | 157 => 178 | 229 => 205 | 199 => 206 | 261 => 219 | 311 => 224 | 312 => 225 | n => n, fun | 9 => 9 | 31 => 35 | 3 => 3 | 5 => 5 | 4 => 4 | 119 => 211 | 0 => 0 | 40 => 233 | 152 => 244 | 21 => 21 | 154 => 246 | 51 => 185 | 141 => 248 | 196 => 259 | 193 => 256 | 198 => 262 | 49 => 260 | 194 => 257 | 201 => 265 | 226 => 267 | 46 => 157 | 227 => 268 | n => n, fun | 0 => 4 | 6 => 7 | n => n⟩
theorem WD : Go.Proofs.Lays.n157 Tryz.prog PZ := {
 mixed := by kernel_rfl
 f157 := Tryz.func178.trans (congrArg some (by kernel_rfl))
 f199 := Tryz.func206.trans (congrArg some (by kernel_rfl))
 f229 := Tryz.func205.trans (congrArg some (by kernel_rfl))
 f261 := Tryz.func219.trans (congrArg some (by kernel_rfl))
 f311 := Tryz.func224.trans (congrArg some (by kernel_rfl))
 f312 := Tryz.func225.trans (congrArg some (by kernel_rfl))
 t0 := Tryz.underlying0
 a0 := Tryz.isAgg0
 z0 := Tryz.sizeOf0
 v0 := Tryz.zeroValue0
 t3 := Tryz.underlying3
 a3 := Tryz.isAgg3
 z3 := Tryz.sizeOf3
 v3 := Tryz.zeroValue3
 t4 := Tryz.underlying4
 a4 := Tryz.isAgg4
 z4 := Tryz.sizeOf4
 v4 := Tryz.zeroValue4
 t5 := Tryz.underlying5
 a5 := Tryz.isAgg5
 z5 := Tryz.sizeOf5
 v5 := Tryz.zeroValue5
 t9 := Tryz.underlying9
 a9 := Tryz.isAgg9
 z9 := Tryz.sizeOf9
 v9 := Tryz.zeroValue9
 t21 := Tryz.underlying21
 a21 := Tryz.isAgg21
 z21 := Tryz.sizeOf21
 v21 := Tryz.zeroValue21
 t31 := Tryz.underlying35
 a31 := Tryz.isAgg35
 z31 := Tryz.sizeOf35
 v31 := Tryz.zeroValue35
 t40 := Tryz.underlying233
 a40 := Tryz.isAgg233
 z40 := Tryz.sizeOf233
 v40 := Tryz.zeroValue233
 t46 := Tryz.underlying157
 a46 := Tryz.isAgg157
 z46 := Tryz.sizeOf157
 v46 := Tryz.zeroValue157
 t49 := Tryz.underlying260
 a49 := Tryz.isAgg260
 z49 := Tryz.sizeOf260
 v49 := Tryz.zeroValue260
 t51 := Tryz.underlying185
 a51 := Tryz.isAgg185
 z51 := Tryz.sizeOf185
 v51 := Tryz.zeroValue185
 t119 := Tryz.underlying211
 a119 := Tryz.isAgg211
 z119 := Tryz.sizeOf211
 t141 := Tryz.underlying248
 a141 := Tryz.isAgg248
 z141 := Tryz.sizeOf248
 v141 := Tryz.zeroValue248
 t152 := Tryz.underlying244
 a152 := Tryz.isAgg244
 z152 := Tryz.sizeOf244
 v152 := Tryz.zeroValue244
 t154 := Tryz.underlying246
 a154 := Tryz.isAgg246
 z154 := Tryz.sizeOf246
 v154 := Tryz.zeroValue246
 t193 := Tryz.underlying256
 a193 := Tryz.isAgg256
 z193 := Tryz.sizeOf256
 v193 := Tryz.zeroValue256
 t194 := Tryz.underlying257
 a194 := Tryz.isAgg257
 z194 := Tryz.sizeOf257
 v194 := Tryz.zeroValue257
 t196 := Tryz.underlying259
 a196 := Tryz.isAgg259
 z196 := Tryz.sizeOf259
 v196 := Tryz.zeroValue259
 t198 := Tryz.underlying262
 a198 := Tryz.isAgg262
 z198 := Tryz.sizeOf262
 v198 := Tryz.zeroValue262
 t201 := Tryz.underlying265
 a201 := Tryz.isAgg265
 z201 := Tryz.sizeOf265
 v201 := Tryz.zeroValue265
 t226 := Tryz.underlying267
 a226 := Tryz.isAgg267
 z226 := Tryz.sizeOf267
 v226 := Tryz.zeroValue267
 t227 := Tryz.underlying268
 a227 := Tryz.isAgg268
 z227 := Tryz.sizeOf268
 v227 := Tryz.zeroValue268
 g0 := by kernel_rfl
 g6 := by kernel_rfl }
open Go.Shelf
def Py : Go.Shelf.Ren := ⟨fun | 145 => 41 | 220 => 71 | 219 => 69 | 217 => 109 | 225 => 110 | 224 => 111 | 267 => 112 | 266 => 149 | 314 => 150 | n => n, fun | 9 => 9 | 4 => 4 | 59 => 77 | 3 => 3 | 5 => 5 | 46 => 157 | 146 => 186 | 51 => 185 | n => n, fun | 1 => 0 | n => n⟩
theorem W4 : Go.Proofs.Lays.n145 Tryz.prog Py := {
 mixed := by kernel_rfl
 f145 := Tryz.func41.trans (congrArg some (by kernel_rfl))
 f217 := Tryz.func109.trans (congrArg some (by kernel_rfl))
 f219 := Tryz.func69.trans (congrArg some (by kernel_rfl))
 f220 := Tryz.func71.trans (congrArg some (by kernel_rfl))
 f224 := Tryz.func111.trans (congrArg some (by kernel_rfl))
 f225 := Tryz.func110.trans (congrArg some (by kernel_rfl))
 f266 := Tryz.func149.trans (congrArg some (by kernel_rfl))
 f267 := Tryz.func112.trans (congrArg some (by kernel_rfl))
 f314 := Tryz.func150.trans (congrArg some (by kernel_rfl))
 t3 := Tryz.underlying3
 a3 := Tryz.isAgg3
 z3 := Tryz.sizeOf3
 v3 := Tryz.zeroValue3
 t4 := Tryz.underlying4
 a4 := Tryz.isAgg4
 z4 := Tryz.sizeOf4
 v4 := Tryz.zeroValue4
 t5 := Tryz.underlying5
 a5 := Tryz.isAgg5
 z5 := Tryz.sizeOf5
 v5 := Tryz.zeroValue5
 t9 := Tryz.underlying9
 a9 := Tryz.isAgg9
 z9 := Tryz.sizeOf9
 v9 := Tryz.zeroValue9
 t46 := Tryz.underlying157
 a46 := Tryz.isAgg157
 z46 := Tryz.sizeOf157
 v46 := Tryz.zeroValue157
 t51 := Tryz.underlying185
 a51 := Tryz.isAgg185
 z51 := Tryz.sizeOf185
 v51 := Tryz.zeroValue185
 t59 := Tryz.underlying77
 a59 := Tryz.isAgg77
 z59 := Tryz.sizeOf77
 v59 := Tryz.zeroValue77
 t146 := Tryz.underlying186
 a146 := Tryz.isAgg186
 z146 := Tryz.sizeOf186
 v146 := Tryz.zeroValue186
 g1 := by kernel_rfl }
def Q2 : Go.Shelf.Ren := ⟨fun | 146 => 73 | 221 => 113 | 268 => 151 | 138 => 139 | 143 => 39 | 195 => 171 | 197 => 140 | 218 => 172 | 219 => 69 | 260 => 173 | 217 => 109 | 225 => 110 | 224 => 111 | 267 => 112 | 266 => 149 | 314 => 150 | n => n, fun | 9 => 9 | 31 => 35 | 3 => 3 | 4 => 4 | 0 => 0 | 105 => 180 | 21 => 21 | 5 => 5 | 46 => 157 | 119 => 211 | 139 => 214 | 138 => 213 | 146 => 186 | 51 => 185 | n => n, fun | 1 => 0 | 3 => 1 | 4 => 2 | n => n⟩
theorem Wb : Go.Proofs.Lays.n146 Tryz.prog Q2 := {
 mixed := by kernel_rfl
 f138 := Tryz.func139.trans (congrArg some (by kernel_rfl))
 f143 := Tryz.func39.trans (congrArg some (by kernel_rfl))
 f146 := Tryz.func73.trans (congrArg some (by kernel_rfl))
 f195 := Tryz.func171.trans (congrArg some (by kernel_rfl))
 f197 := Tryz.func140.trans (congrArg some (by kernel_rfl))
 f217 := Tryz.func109.trans (congrArg some (by kernel_rfl))
 f218 := Tryz.func172.trans (congrArg some (by kernel_rfl))
 f219 := Tryz.func69.trans (congrArg some (by kernel_rfl))
 f221 := Tryz.func113.trans (congrArg some (by kernel_rfl))
 f224 := Tryz.func111.trans (congrArg some (by kernel_rfl))
 f225 := Tryz.func110.trans (congrArg some (by kernel_rfl))
 f260 := Tryz.func173.trans (congrArg some (by kernel_rfl))
 f266 := Tryz.func149.trans (congrArg some (by kernel_rfl))
 f267 := Tryz.func112.trans (congrArg some (by kernel_rfl))
 f268 := Tryz.func151.trans (congrArg some (by kernel_rfl))
 f314 := Tryz.func150.trans (congrArg some (by kernel_rfl))
 t0 := Tryz.underlying0
 a0 := Tryz.isAgg0
 z0 := Tryz.sizeOf0
 v0 := Tryz.zeroValue0
 t3 := Tryz.underlying3
 a3 := Tryz.isAgg3
 z3 := Tryz.sizeOf3
 v3 := Tryz.zeroValue3
 t4 := Tryz.underlying4
 a4 := Tryz.isAgg4
 z4 := Tryz.sizeOf4
 v4 := Tryz.zeroValue4
 t5 := Tryz.underlying5
 a5 := Tryz.isAgg5
 z5 := Tryz.sizeOf5
 v5 := Tryz.zeroValue5
 t9 := Tryz.underlying9
 a9 := Tryz.isAgg9
 z9 := Tryz.sizeOf9
 v9 := Tryz.zeroValue9
 t21 := Tryz.underlying21
 a21 := Tryz.isAgg21
 z21 := Tryz.sizeOf21
 v21 := Tryz.zeroValue21
 t31 := Tryz.underlying35
 a31 := Tryz.isAgg35
 z31 := Tryz.sizeOf35
 v31 := Tryz.zeroValue35
 t46 := Tryz.underlying157
 a46 := Tryz.isAgg157
 z46 := Tryz.sizeOf157
 v46 := Tryz.zeroValue157
 t51 := Tryz.underlying185
 a51 := Tryz.isAgg185
 z51 := Tryz.sizeOf185
 v51 := Tryz.zeroValue185
 t105 := Tryz.underlying180
 a105 := Tryz.isAgg180
 z105 := Tryz.sizeOf180
 v105 := Tryz.zeroValue180
 t119 := Tryz.underlying211
 a119 := Tryz.isAgg211
 z119 := Tryz.sizeOf211
 t138 := Tryz.underlying213
 a138 := Tryz.isAgg213
 z138 := Tryz.sizeOf213
 v138 := Tryz.zeroValue213
 t139 := Tryz.underlying214
 a139 := Tryz.isAgg214
 z139 := Tryz.sizeOf214
 v139 := Tryz.zeroValue214
 t146 := Tryz.underlying186
 a146 := Tryz.isAgg186
 z146 := Tryz.sizeOf186
 v146 := Tryz.zeroValue186
 g1 := by kernel_rfl
 g3 := by kernel_rfl
 g4 := by kernel_rfl }
def QN : Go.Shelf.Ren := ⟨fun | 143 => 39 | 219 => 69 | 217 => 109 | 225 => 110 | 224 => 111 | 267 => 112 | 266 => 149 | 314 => 150 | n => n, fun | 9 => 9 | 3 => 3 | 4 => 4 | 5 => 5 | 46 => 157 | 146 => 186 | 51 => 185 | n => n, fun | 1 => 0 | n => n⟩
theorem Wz : Go.Proofs.Lays.n143 Tryz.prog QN := {
 mixed := by kernel_rfl
 f143 := Tryz.func39.trans (congrArg some (by kernel_rfl))
 f217 := Tryz.func109.trans (congrArg some (by kernel_rfl))
 f219 := Tryz.func69.trans (congrArg some (by kernel_rfl))
 f224 := Tryz.func111.trans (congrArg some (by kernel_rfl))
 f225 := Tryz.func110.trans (congrArg some (by kernel_rfl))
 f266 := Tryz.func149.trans (congrArg some (by kernel_rfl))
 f267 := Tryz.func112.trans (congrArg some (by kernel_rfl))
 f314 := Tryz.func150.trans (congrArg some (by kernel_rfl))
 t3 := Tryz.underlying3
 a3 := Tryz.isAgg3
 z3 := Tryz.sizeOf3
 v3 := Tryz.zeroValue3
 t4 := Tryz.underlying4
 a4 := Tryz.isAgg4
 z4 := Tryz.sizeOf4
 v4 := Tryz.zeroValue4
 t5 := Tryz.underlying5
 a5 := Tryz.isAgg5
 z5 := Tryz.sizeOf5
 v5 := Tryz.zeroValue5
 t9 := Tryz.underlying9
 a9 := Tryz.isAgg9
 z9 := Tryz.sizeOf9
 v9 := Tryz.zeroValue9
 t46 := Tryz.underlying157
 a46 := Tryz.isAgg157
 z46 := Tryz.sizeOf157
 v46 := Tryz.zeroValue157
 t51 := Tryz.underlying185
 a51 := Tryz.isAgg185
 z51 := Tryz.sizeOf185
 v51 := Tryz.zeroValue185
 t146 := Tryz.underlying186
 a146 := Tryz.isAgg186
 z146 := Tryz.sizeOf186
 v146 := Tryz.zeroValue186
 g1 := by kernel_rfl }
def Oq : Go.Shelf.Ren := ⟨fun | 172 => 115 | 244 => 152 | 245 => 153 | 247 => 180 | 279 => 181 | 280 => 182 | 281 => 183 | 282 => 184 | 287 => 207 | 316 => 208 | 171 => 65 | 205 => 209 | 321 => 220 | 322 => 221 | 243 => 103 | 246 => 141 | 283 => 174 | 284 => 175 | 285 => 176 | 286 => 177 | 129 => 201 | 317 => 200 | 318 => 202 | 319 => 203 | 320 => 204 | 337 => 217 | 338 => 218 | n => n, fun | 9 => 9 | 3 => 3 | 75 => 113 | 76 => 114 | 4 => 4 | 5 => 5 | 167 => 204 | 37 => 84 | 0 => 0 | 85 => 205 | 2 => 2 | 168 => 207 | 53 => 198 | 175 => 234 | 46 => 157 | 210 => 237 | 127 => 139 | 145 => 252 | 143 => 250 | 21 => 21 | 171 => 197 | 173 => 201 | 212 => 228 | 51 => 185 | 20 => 20 | 213 => 229 | 232 => 254 | 233 => 255 | 80 => 90 | n => n, fun | 15 => 5 | 16 => 6 | 17 => 3 | 18 => 8 | 19 => 9 | n => n⟩
theorem L7 : Go.Proofs.LaysC.n172 Tryz.prog Oq := {
 mixed := by kernel_rfl
 f129 := Tryz.func201.trans (congrArg some (by kernel_rfl))
 f171 := Tryz.func65.trans (congrArg some (by kernel_rfl))
 f172 := Tryz.func115.trans (congrArg some (by kernel_rfl))
 f205 := Tryz.func209.trans (congrArg some (by kernel_rfl))
 f243 := Tryz.func103.trans (congrArg some (by kernel_rfl))
 f244 := Tryz.func152.trans (congrArg some (by kernel_rfl))
 f245 := Tryz.func153.trans (congrArg some (by kernel_rfl))
 f246 := Tryz.func141.trans (congrArg some (by kernel_rfl))
 f247 := Tryz.func180.trans (congrArg some (by kernel_rfl))
 f279 := Tryz.func181.trans (congrArg some (by kernel_rfl))
 f280 := Tryz.func182.trans (congrArg some (by kernel_rfl))
 f281 := Tryz.func183.trans (congrArg some (by kernel_rfl))
 f282 := Tryz.func184.trans (congrArg some (by kernel_rfl))
 f283 := Tryz.func174.trans (congrArg some (by kernel_rfl))
 f284 := Tryz.func175.trans (congrArg some (by kernel_rfl))
 f285 := Tryz.func176.trans (congrArg some (by kernel_rfl))
 f286 := Tryz.func177.trans (congrArg some (by kernel_rfl))
 f287 := Tryz.func207.trans (congrArg some (by kernel_rfl))
 f316 := Tryz.func208.trans (congrArg some (by kernel_rfl))
 f317 := Tryz.func200.trans (congrArg some (by kernel_rfl))
 f318 := Tryz.func202.trans (congrArg some (by kernel_rfl))
 f319 := Tryz.func203.trans (congrArg some (by kernel_rfl))
 f320 := Tryz.func204.trans (congrArg some (by kernel_rfl))
 f321 := Tryz.func220.trans (congrArg some (by kernel_rfl))
 f322 := Tryz.func221.trans (congrArg some (by kernel_rfl))
 f337 := Tryz.func217.trans (congrArg some (by kernel_rfl))
 f338 := Tryz.func218.trans (congrArg some (by kernel_rfl))
 t0 := Tryz.underlying0
 a0 := Tryz.isAgg0
 z0 := Tryz.sizeOf0
 v0 := Tryz.zeroValue0
 t2 := Tryz.underlying2
 a2 := Tryz.isAgg2
 z2 := Tryz.sizeOf2
 v2 := Tryz.zeroValue2
 t3 := Tryz.underlying3
 a3 := Tryz.isAgg3
 z3 := Tryz.sizeOf3
 v3 := Tryz.zeroValue3
 t4 := Tryz.underlying4
 a4 := Tryz.isAgg4
 z4 := Tryz.sizeOf4
 v4 := Tryz.zeroValue4
 t5 := Tryz.underlying5
 a5 := Tryz.isAgg5
 z5 := Tryz.sizeOf5
 v5 := Tryz.zeroValue5
 t9 := Tryz.underlying9
 a9 := Tryz.isAgg9
 z9 := Tryz.sizeOf9
 v9 := Tryz.zeroValue9
 t20 := Tryz.underlying20
 a20 := Tryz.isAgg20
 z20 := Tryz.sizeOf20
 v20 := Tryz.zeroValue20
 t21 := Tryz.underlying21
 a21 := Tryz.isAgg21
 z21 := Tryz.sizeOf21
 v21 := Tryz.zeroValue21
 t37 := Tryz.underlying84
 a37 := Tryz.isAgg84
 z37 := Tryz.sizeOf84
 v37 := Tryz.zeroValue84
 t46 := Tryz.underlying157
 a46 := Tryz.isAgg157
 z46 := Tryz.sizeOf157
 v46 := Tryz.zeroValue157
 t51 := Tryz.underlying185
 a51 := Tryz.isAgg185
 z51 := Tryz.sizeOf185
 v51 := Tryz.zeroValue185
 t53 := Tryz.underlying198
 a53 := Tryz.isAgg198
 z53 := Tryz.sizeOf198
 v53 := Tryz.zeroValue198
 t75 := Tryz.underlying113
 a75 := Tryz.isAgg113
 z75 := Tryz.sizeOf113
 v75 := Tryz.zeroValue113
 t76 := Tryz.underlying114
 a76 := Tryz.isAgg114
 z76 := Tryz.sizeOf114
 v76 := Tryz.zeroValue114
 t85 := Tryz.underlying205
 a85 := Tryz.isAgg205
 z85 := Tryz.sizeOf205
 v85 := Tryz.zeroValue205
 t127 := Tryz.underlying139
 a127 := Tryz.isAgg139
 z127 := Tryz.sizeOf139
 v127 := Tryz.zeroValue139
 t143 := Tryz.underlying250
 a143 := Tryz.isAgg250
 z143 := Tryz.sizeOf250
 v143 := Tryz.zeroValue250
 t145 := Tryz.underlying252
 a145 := Tryz.isAgg252
 z145 := Tryz.sizeOf252
 v145 := Tryz.zeroValue252
 t167 := Tryz.underlying204
 a167 := Tryz.isAgg204
 z167 := Tryz.sizeOf204
 v167 := Tryz.zeroValue204
 t168 := Tryz.underlying207
 a168 := Tryz.isAgg207
 z168 := Tryz.sizeOf207
 v168 := Tryz.zeroValue207
 t171 := Tryz.underlying197
 a171 := Tryz.isAgg197
 z171 := Tryz.sizeOf197
 v171 := Tryz.zeroValue197
 t173 := Tryz.underlying201
 a173 := Tryz.isAgg201
 z173 := Tryz.sizeOf201
 v173 := Tryz.zeroValue201
 t175 := Tryz.underlying234
 a175 := Tryz.isAgg234
 z175 := Tryz.sizeOf234
 v175 := Tryz.zeroValue234
 t210 := Tryz.underlying237
 a210 := Tryz.isAgg237
 z210 := Tryz.sizeOf237
 v210 := Tryz.zeroValue237
 t212 := Tryz.underlying228
 a212 := Tryz.isAgg228
 z212 := Tryz.sizeOf228
 v212 := Tryz.zeroValue228
 t213 := Tryz.underlying229
 a213 := Tryz.isAgg229
 z213 := Tryz.sizeOf229
 t232 := Tryz.underlying254
 a232 := Tryz.isAgg254
 z232 := Tryz.sizeOf254
 v232 := Tryz.zeroValue254
 t233 := Tryz.underlying255
 a233 := Tryz.isAgg255
 z233 := Tryz.sizeOf255
 v233 := Tryz.zeroValue255
 g15 := by kernel_rfl
 g16 := by kernel_rfl
 g17 := by kernel_rfl
 g18 := by kernel_rfl
 g19 := by kernel_rfl
 t80 := Tryz.underlying90
 a80 := Tryz.isAgg90
 z80 := Tryz.sizeOf90
 v80 := Tryz.zeroValue90
 i0 := by kernel_rfl
 i2 := by kernel_rfl
 i3 := by kernel_rfl
 i4 := by kernel_rfl
 i5 := by kernel_rfl
 i9 := by kernel_rfl
 i20 := by kernel_rfl
 i21 := by kernel_rfl
 i37 := by kernel_rfl
 i46 := by kernel_rfl
 i51 := by kernel_rfl
 i53 := by kernel_rfl
 i75 := by kernel_rfl
 i76 := by kernel_rfl
 i80 := by kernel_rfl
 i85 := by kernel_rfl
 i127 := by kernel_rfl
 i143 := by kernel_rfl
 i145 := by kernel_rfl
 i167 := by kernel_rfl
 i168 := by kernel_rfl
 i171 := by kernel_rfl
 i173 := by kernel_rfl
 i175 := by kernel_rfl
 i210 := by kernel_rfl
 i212 := by kernel_rfl
 i232 := by kernel_rfl
 i233 := by kernel_rfl
 m15 := by kernel_rfl
 m16 := by kernel_rfl
 m17 := by kernel_rfl
 m18 := by kernel_rfl
 m19 := by kernel_rfl
 c0 := by kernel_rfl
 c2 := by kernel_rfl
 c3 := by kernel_rfl
 c4 := by kernel_rfl
 c5 := by kernel_rfl
 c9 := by kernel_rfl
 c20 := by kernel_rfl
 c21 := by kernel_rfl
 c37 := by kernel_rfl
 c46 := by kernel_rfl
 c51 := by kernel_rfl
 c53 := by kernel_rfl
 c75 := by kernel_rfl
 c76 := by kernel_rfl
 c80 := by kernel_rfl
 c85 := by kernel_rfl
 c127 := by kernel_rfl
 c143 := by kernel_rfl
 c145 := by kernel_rfl
 c167 := by kernel_rfl
 c168 := by kernel_rfl
 c171 := by kernel_rfl
 c173 := by kernel_rfl
 c175 := by kernel_rfl
 c210 := by kernel_rfl
 c212 := by kernel_rfl
 c213 := by kernel_rfl
 c232 := by kernel_rfl
 c233 := by kernel_rfl }
open Go.Shelf
def KZ : Go.Shelf.Ren := ⟨fun | 155 => 63 | 154 => 102 | 138 => 139 | 165 => 90 | 143 => 39 | 166 => 62 | 197 => 140 | 169 => 47 | 195 => 171 | 218 => 172 | 240 => 101 | 241 => 129 | 219 => 69 | 260 => 173 | 276 => 138 | 277 => 164 | 217 => 109 | 225 => 110 | 224 => 111 | 267 => 112 | 266 => 149 | 314 => 150 | n => n, fun | 9 => 9 | 3 => 3 | 4 => 4 | 72 => 86 | 0 => 0 | 76 => 114 | 105 => 180 | 21 => 21 | 5 => 5 | 70 => 83 | 20 => 20 | 37 => 84 | 75 => 113 | 127 => 139 | 164 => 178 | 46 => 157 | 119 => 211 | 139 => 214 | 138 => 213 | 146 => 186 | 51 => 185 | 80 => 90 | n => n, fun | 1 => 0 | 3 => 1 | 4 => 2 | n => n⟩
theorem X3 : Go.Proofs.Lays.n155 Tryz.prog KZ := {
 mixed := by kernel_rfl
 f138 := Tryz.func139.trans (congrArg some (by kernel_rfl))
 f143 := Tryz.func39.trans (congrArg some (by kernel_rfl))
 f154 := Tryz.func102.trans (congrArg some (by kernel_rfl))
 f155 := Tryz.func63.trans (congrArg some (by kernel_rfl))
 f165 := Tryz.func90.trans (congrArg some (by kernel_rfl))
 f166 := Tryz.func62.trans (congrArg some (by kernel_rfl))
 f169 := Tryz.func47.trans (congrArg some (by kernel_rfl))
 f195 := Tryz.func171.trans (congrArg some (by kernel_rfl))
 f197 := Tryz.func140.trans (congrArg some (by kernel_rfl))
 f217 := Tryz.func109.trans (congrArg some (by kernel_rfl))
 f218 := Tryz.func172.trans (congrArg some (by kernel_rfl))
 f219 := Tryz.func69.trans (congrArg some (by kernel_rfl))
 f224 := Tryz.func111.trans (congrArg some (by kernel_rfl))
 f225 := Tryz.func110.trans (congrArg some (by kernel_rfl))
 f240 := Tryz.func101.trans (congrArg some (by kernel_rfl))
 f241 := Tryz.func129.trans (congrArg some (by kernel_rfl))
 f260 := Tryz.func173.trans (congrArg some (by kernel_rfl))
 f266 := Tryz.func149.trans (congrArg some (by kernel_rfl))
 f267 := Tryz.func112.trans (congrArg some (by kernel_rfl))
 f276 := Tryz.func138.trans (congrArg some (by kernel_rfl))
 f277 := Tryz.func164.trans (congrArg some (by kernel_rfl))
 f314 := Tryz.func150.trans (congrArg some (by kernel_rfl))
 t0 := Tryz.underlying0
 a0 := Tryz.isAgg0
 z0 := Tryz.sizeOf0
 v0 := Tryz.zeroValue0
 t3 := Tryz.underlying3
 a3 := Tryz.isAgg3
 z3 := Tryz.sizeOf3
 v3 := Tryz.zeroValue3
 t4 := Tryz.underlying4
 a4 := Tryz.isAgg4
 z4 := Tryz.sizeOf4
 v4 := Tryz.zeroValue4
 t5 := Tryz.underlying5
 a5 := Tryz.isAgg5
 z5 := Tryz.sizeOf5
 v5 := Tryz.zeroValue5
 t9 := Tryz.underlying9
 a9 := Tryz.isAgg9
 z9 := Tryz.sizeOf9
 v9 := Tryz.zeroValue9
 t20 := Tryz.underlying20
 a20 := Tryz.isAgg20
 z20 := Tryz.sizeOf20
 v20 := Tryz.zeroValue20
 t21 := Tryz.underlying21
 a21 := Tryz.isAgg21
 z21 := Tryz.sizeOf21
 v21 := Tryz.zeroValue21
 t37 := Tryz.underlying84
 a37 := Tryz.isAgg84
 z37 := Tryz.sizeOf84
 v37 := Tryz.zeroValue84
 t46 := Tryz.underlying157
 a46 := Tryz.isAgg157
 z46 := Tryz.sizeOf157
 v46 := Tryz.zeroValue157
 t51 := Tryz.underlying185
 a51 := Tryz.isAgg185
 z51 := Tryz.sizeOf185
 v51 := Tryz.zeroValue185
 t70 := Tryz.underlying83
 a70 := Tryz.isAgg83
 z70 := Tryz.sizeOf83
 v70 := Tryz.zeroValue83
 t72 := Tryz.underlying86
 a72 := Tryz.isAgg86
 z72 := Tryz.sizeOf86
 v72 := Tryz.zeroValue86
 t75 := Tryz.underlying113
 a75 := Tryz.isAgg113
 z75 := Tryz.sizeOf113
 v75 := Tryz.zeroValue113
 t76 := Tryz.underlying114
 a76 := Tryz.isAgg114
 z76 := Tryz.sizeOf114
 v76 := Tryz.zeroValue114
 t105 := Tryz.underlying180
 a105 := Tryz.isAgg180
 z105 := Tryz.sizeOf180
 v105 := Tryz.zeroValue180
 t119 := Tryz.underlying211
 a119 := Tryz.isAgg211
 z119 := Tryz.sizeOf211
 t127 := Tryz.underlying139
 a127 := Tryz.isAgg139
 z127 := Tryz.sizeOf139
 v127 := Tryz.zeroValue139
 t138 := Tryz.underlying213
 a138 := Tryz.isAgg213
 z138 := Tryz.sizeOf213
 v138 := Tryz.zeroValue213
 t139 := Tryz.underlying214
 a139 := Tryz.isAgg214
 z139 := Tryz.sizeOf214
 v139 := Tryz.zeroValue214
 t146 := Tryz.underlying186
 a146 := Tryz.isAgg186
 z146 := Tryz.sizeOf186
 v146 := Tryz.zeroValue186
 t164 := Tryz.underlying178
 a164 := Tryz.isAgg178
 z164 := Tryz.sizeOf178
 v164 := Tryz.zeroValue178
 g1 := by kernel_rfl
 g3 := by kernel_rfl
 g4 := by kernel_rfl }
theorem HW : Builder.Extra Tryz.prog KZ := {
 sizeBuilder := by kernel_rfl
 liesBuilder := by kernel_rfl
 t5 := Tryz.underlying5
 a5 := Tryz.isAgg5
 z5 := Tryz.sizeOf5
 v5 := Tryz.zeroValue5
 infoByte := by kernel_rfl
 cellsByte := by kernel_rfl
 sizeByte := by kernel_rfl
 neB5 := by decide }
def QP : Go.Shelf.Ren := ⟨fun | 195 => 171 | n => n, fun | 9 => 9 | 3 => 3 | 0 => 0 | 4 => 4 | n => n, fun | n => n⟩
theorem WN : Go.Proofs.Lays.n195 Tryz.prog QP := {
 mixed := by kernel_rfl
 f195 := Tryz.func171.trans (congrArg some (by kernel_rfl))
 t0 := Tryz.underlying0
 a0 := Tryz.isAgg0
 z0 := Tryz.sizeOf0
 v0 := Tryz.zeroValue0
 t3 := Tryz.underlying3
 a3 := Tryz.isAgg3
 z3 := Tryz.sizeOf3
 v3 := Tryz.zeroValue3
 t4 := Tryz.underlying4
 a4 := Tryz.isAgg4
 z4 := Tryz.sizeOf4
 v4 := Tryz.zeroValue4
 t9 := Tryz.underlying9
 a9 := Tryz.isAgg9
 z9 := Tryz.sizeOf9
 v9 := Tryz.zeroValue9 }
open Go.Shelf
def Ka : Go.Shelf.Ren := ⟨fun | 260 => 173 | n => n, fun | 9 => 9 | 21 => 21 | 3 => 3 | 4 => 4 | 5 => 5 | 119 => 211 | 0 => 0 | 46 => 157 | 139 => 214 | 138 => 213 | n => n, fun | 3 => 1 | 4 => 2 | n => n⟩
theorem WT : Go.Proofs.Lays.n260 Tryz.prog Ka := {
 mixed := by kernel_rfl
 f260 := Tryz.func173.trans (congrArg some (by kernel_rfl))
 t0 := Tryz.underlying0
 a0 := Tryz.isAgg0
 z0 := Tryz.sizeOf0
 v0 := Tryz.zeroValue0
 t3 := Tryz.underlying3
 a3 := Tryz.isAgg3
 z3 := Tryz.sizeOf3
 v3 := Tryz.zeroValue3
 t4 := Tryz.underlying4
 a4 := Tryz.isAgg4
 z4 := Tryz.sizeOf4
 v4 := Tryz.zeroValue4
 t5 := Tryz.underlying5
 a5 := Tryz.isAgg5
 z5 := Tryz.sizeOf5
 v5 := Tryz.zeroValue5
 t9 := Tryz.underlying9
 a9 := Tryz.isAgg9
 z9 := Tryz.sizeOf9
 v9 := Tryz.zeroValue9
 t21 := Tryz.underlying21
 a21 := Tryz.isAgg21
 z21 := Tryz.sizeOf21
 v21 := Tryz.zeroValue21
 t46 := Tryz.underlying157
 a46 := Tryz.isAgg157
 z46 := Tryz.sizeOf157
 v46 := Tryz.zeroValue157
 t119 := Tryz.underlying211
 a119 := Tryz.isAgg211
 z119 := Tryz.sizeOf211
 t138 := Tryz.underlying213
 a138 := Tryz.isAgg213
 z138 := Tryz.sizeOf213
 v138 := Tryz.zeroValue213
 t139 := Tryz.underlying214
 a139 := Tryz.isAgg214
 z139 := Tryz.sizeOf214
 v139 := Tryz.zeroValue214
 g3 := by kernel_rfl
 g4 := by kernel_rfl }
abbrev AF := List UInt8
abbrev aI (n : Int) : AV := .int .i64 n
abbrev aF (f : Int × Int) : AV := .agg [.int .i64 f.1, .int .i64 f.2]
open Go.RowKit
theorem Jc {P : Program} {w0 w w' : World} {G : Gh} {n : Nat} {H : A2} (h0 : Rel0 P w0 G n H w) (hb : Below w.heap.size w w') : Rel0 P w0 G n H w' := by
 have hbl : ∀ g, g < w.heap.size → w'.heap[g]? = w.heap[g]? := fun g hg => hb.block g hg
 refine ⟨h0.ext.tr hb, h0.lo, Nat.le_trans h0.hi hb.size, fun b o v hv => ?_, fun g e c hg => ?_, h0.capLo, fun g ob hob => ?_⟩
 ·have hc := h0.seal_ b o v hv
  have hlt : b < w.heap.size := World.block_lt_of_cell? _ _ hc
  rw [hb.cell (p := ⟨b, o, none⟩) hlt]; exact hc
 ·obtain ⟨cur, fz, h1, h2⟩ := h0.caps g e c hg
  refine ⟨cur, fz, ?_, h2⟩
  rw [hbl g (Array.getElem?_eq_some_iff.1 h1).1]; exact h1
 ·obtain ⟨h1, h2, h3⟩ := h0.objs g ob hob
  have hlt : g < w.heap.size := Nat.lt_of_lt_of_le h2 h0.hi
  exact ⟨h1, h2, h3.keep (hbl g hlt) (fun _ => rfl) rfl (Gh.Le.rfl_ G) (MapsKeep.lt hbl)⟩
theorem EC {P : Program} {f : Nat} {args : List AV} {v : AV} (h : ∀ (G : Gh) (vs : List Value), RepL G vs args → ∃ u : Value, (∀ G', Rep G' u v) ∧ ∀ w : World, Laid w → Calls P f vs.toArray w fun e w' => e = .returned u ∧ Below w.heap.size w w') : APure P f args v := by
 intro n H hs w0 G w vs hl h0 hrep
 obtain ⟨u, hu, hc⟩ := h G vs hrep
 refine (hc w (hl.ext h0.ext)).mono ?_
 rintro e w' ⟨rfl, hb⟩
 exact ⟨u, v, G, n, H, rfl, ⟨rfl, rfl, rfl⟩, hu G, Gh.Le.rfl_ _, Nat.le_refl _, Jc h0 hb⟩
theorem U7 (s : ByteArray) (l : List UInt8) (h : s.data.toList = l) : s = ⟨l.toArray⟩ := by cases s; subst h; simp
theorem R7 (n : Int) (h : -9223372036854775808 ≤ n ∧ n ≤ 9223372036854775807) : APure Tryz.prog 65 [.int .i64 n] (.str (Lib.itoa n)) := by
 refine EC fun G vs hr => ⟨.string ⟨(Lib.itoa n).toArray⟩, fun _ => .str (by simp), fun w hl => ?_⟩
 cases hr with | cons h1 h2 =>
 cases h2; cases h1
 refine (Any.strconv_Itoa Vb n h.1 h.2 w (UN (by kernel_rfl) hl.pow)).mono ?_
 rintro e w' ⟨rfl, k, os, rfl⟩
 exact ⟨rfl, Lib.below_grow _ _ (Nat.le_refl _) _ _⟩
theorem FD (l : List AF) : AD (l.map AV.str) = l.map AV.str := by
 induction l with
 | nil => rfl
 | cons x l ih => simp only [List.map_cons, AD, List.flatMap_cons, AV.cells, List.singleton_append] at ih ⊢; rw [ih]
theorem O6 {G : Gh} (l : List AF) : RepL G (l.map fun x => Value.string ⟨x.toArray⟩) (l.map AV.str) := by
 induction l with
 | nil => exact .nil
 | cons x l ih => exact .cons (.str (by simp)) ih
theorem Pp (s : AF) (hs : s.length < 4294967281) (ha : ∀ b ∈ s, b.toNat < 128) (hk : (Lib.fields s).length ≤ 1000000) : APure Tryz.prog 178 [.str s] (.sl 1 ((Lib.fields s).map AV.str) .ro) := by
 intro n H hH w0 G w vs hl h0 hrep
 cases hrep with | cons h1 h2 =>
 cases h2; cases h1
 rename_i sb hsb
 subst hsb
 refine (Any.strings_Fields WD (by kernel_rfl) (by kernel_rfl) sb w (by rw [Lib.size_eq]; exact hs) (fun j b hj => ha b (List.mem_of_getElem? hj)) (UN (by kernel_rfl) (hl.ext h0.ext).spc)).mono ?_
 rintro e w' ⟨rfl, rfl⟩
 have hrel := h0.newRow (w' := w.alloc (.cells ((Lib.fields sb.data.toList).map fun l => Value.string ⟨l.toArray⟩).toArray 9)) (cur := ((Lib.fields sb.data.toList).map fun l => Value.string ⟨l.toArray⟩).toArray) (e := 9) (fz := (0, 0)) (vs := (Lib.fields sb.data.toList).map fun l => Value.string ⟨l.toArray⟩) (c := none) (ob := none) rfl rfl rfl rfl
  (fun j u hu => by simpa using hu) (fun e' c' hc => by cases hc) (.inl rfl)
 have hle := h0.addLe ((Lib.fields sb.data.toList).map fun l => Value.string ⟨l.toArray⟩) none
 have hhi := h0.hi
 refine ⟨_, _, _, n, H, rfl, ⟨rfl, rfl, rfl⟩, .slro (vs := (Lib.fields sb.data.toList).map fun l => Value.string ⟨l.toArray⟩) ?_ (Gh.add_sealed _ _ _) ?_ (by simp), hle, Nat.le_refl _, hrel.less h0.lo (by omega) hH ?_⟩
 ·rw [FD]; exact O6 _
 ·refine ⟨by simp, by simp only [maxLen]; omega, by decide, fun x hx => ?_, fun x hx => ?_⟩
  ·obtain ⟨y, _, rfl⟩ := List.mem_map.1 hx; rfl
  ·rw [FD] at hx; obtain ⟨y, _, rfl⟩ := List.mem_map.1 hx; rfl
 ·intro k hk'
  rw [upd_ne (by omega)]
abbrev DN (l : List AF) : AV := .sl 1 (l.map AV.str) .ro
theorem SA (l : List AF) (sep : AF) (hl : l.length ≤ 140737488355328) (hlen : (Lib.join l sep).length ≤ 140737488355328) : APure Tryz.prog 52 [DN l, .str sep] (.str (Lib.join l sep)) := by
 intro n H hH w0 G w vs hl0 h0 hrep
 cases hrep with | cons h1 h2 =>
 cases h2 with | cons h3 h4 =>
 cases h4; cases h3
 rename_i sb hsb
 subst hsb
 obtain ⟨A, c, rfl, hc, hm, hA⟩ := h1.slOut
 have key : ∀ {W : World} {e : Ending}, e = .returned (.string ⟨(Lib.join l sb.data.toList).toArray⟩) → Below w.heap.size w W → ∃ (v : Value) (r : AV) (G' : Gh) (n' : Nat) (H' : A2), e = .returned v ∧ (r = .str (Lib.join l sb.data.toList) ∧ n' = n ∧ H' = H) ∧ Rep G' v r ∧ G.Le G' ∧ n ≤ n' ∧ Rel0 Tryz.prog w0 G' n' H' W := fun he hb =>
  ⟨_, _, G, n, H, he, ⟨rfl, rfl, rfl⟩, .str (by simp), Gh.Le.rfl_ _, Nat.le_refl _, Jc h0 hb⟩
 by_cases hl0 : l = []
 ·subst hl0
  refine (Any.strings_Join_none SW EV A c sb w).mono ?_
  rintro e w' ⟨he, rfl⟩
  exact key (by rw [he]; rfl) (Below.refl _ _)
 ·obtain ⟨g, off, us, rfl, hr, hs, ho⟩ := hA (by simpa using hl0)
  rw [FD] at hr
  have hcell : ∀ (j : Nat) (x : ByteArray), (l.map fun x => (⟨x.toArray⟩ : ByteArray))[j]? = some x → w.cell? ⟨g, off + j, none⟩ = some (.string x) := by
   intro j x hj
   obtain ⟨y, hy, rfl⟩ : ∃ y, l[j]? = some y ∧ (⟨y.toArray⟩ : ByteArray) = x := by simpa [List.getElem?_map] using hj
   obtain ⟨u, hu, hru⟩ := hr.at (i := j) (x := .str y) (by simp [List.getElem?_map, hy])
   have h5 := h0.seal_ _ _ _ (hs j u hu)
   cases hru
   rename_i s hsy
   rw [h5, U7 _ _ hsy]
  have hlt : g < w.heap.size := by
   obtain ⟨y, hy⟩ : ∃ y, l[0]? = some y := ⟨_, List.getElem?_eq_getElem (List.length_pos_iff.2 hl0)⟩
   have := World.block_lt_of_cell? w _ (hcell 0 ⟨y.toArray⟩ (by simp [List.getElem?_map, hy]))
   simpa using this
  have hmap : (l.map fun x => (⟨x.toArray⟩ : ByteArray)).map (·.data.toList) = l := by
   rw [List.map_map]; conv => rhs; rw [← List.map_id l]
   apply List.map_congr_left; intro x _; simp
  have hj := Any.strings_Join SW EV g off c (l.map fun x => (⟨x.toArray⟩ : ByteArray)) sb w hcell hlt (by simpa using hl) (by simpa using hc) (by rw [hmap]; exact hlen)
  rw [hmap, List.length_map] at hj
  simp only [List.length_map] at *
  refine hj.mono ?_
  rintro e w' ⟨he, hb⟩
  exact key he hb
def Cm (c : UInt8) : Bool := decide (48 ≤ c.toNat ∧ c.toNat ≤ 57)
def Ku (acc : Nat) : AF → Nat
 | [] => acc
 | c :: r => Ku (10 * acc + (c.toNat - 48)) r
theorem T5 (c : UInt8) (l : AF) : ∀ acc : Nat, Ku acc (l ++ [c]) = 10 * Ku acc l + (c.toNat - 48) := by
 induction l with
 | nil => intro acc; rfl
 | cons x l ih => intro acc; exact ih _
theorem Vv (l : AF) : ∀ acc : Nat, acc ≤ Ku acc l := by
 induction l with
 | nil => intro acc; exact Nat.le_refl _
 | cons x l ih =>
  intro acc
  have h2 : acc ≤ 10 * acc + (x.toNat - 48) := by omega
  exact Nat.le_trans h2 (ih _)
theorem WG : ∀ d : Fin 10, (UInt8.ofNat (48 + d.val)).toNat = 48 + d.val := by decide
theorem OW {d : Nat} (h : d < 10) : (UInt8.ofNat (48 + d)).toNat = 48 + d := by
 have e := WG ⟨d, h⟩
 simp only at e
 exact e
theorem VA {d : Nat} (h : d < 10) : Cm (UInt8.ofNat (48 + d)) = true := by
 have e := OW h
 unfold Cm
 rw [e]
 exact decide_eq_true (by omega)
theorem EN (u : Nat) : ∀ c ∈ Lib.decDigits u, Cm c = true := by
 induction u using Nat.strongRecOn with
 | _ u ih =>
  intro c hc
  rw [Lib.decDigits] at hc
  split at hc
  ·rw [List.mem_singleton.1 hc]
   exact VA (by omega)
  ·rcases List.mem_append.1 hc with h | h
   ·exact ih _ (by omega) c h
   ·rw [List.mem_singleton.1 h]
    exact VA (by omega)
theorem T0 {c : UInt8} {d : Nat} (h : c.toNat = 48 + d) (acc : Nat) : Ku acc [c] = 10 * acc + d ∧ ∀ l : AF, Ku acc (l ++ [c]) = 10 * Ku acc l + d := by
 constructor
 ·show 10 * acc + (c.toNat - 48) = _
  rw [h]; omega
 ·intro l; rw [T5, h]; omega
theorem QJ (u : Nat) : Ku 0 (Lib.decDigits u) = u := by
 induction u using Nat.strongRecOn with
 | _ u ih =>
  rw [Lib.decDigits]
  split
  ·rename_i h0
   have e := (T0 (OW (d := u) h0) 0).1
   generalize UInt8.ofNat (48 + u) = c at e ⊢
   rw [e]; omega
  ·rename_i h0
   have e := (T0 (OW (d := u % 10) (by omega)) 0).2 (Lib.decDigits (u / 10))
   have e2 := ih (u / 10) (by omega)
   generalize UInt8.ofNat (48 + u % 10) = c at e ⊢
   rw [e, e2]; omega
theorem Rb (u : Nat) : Lib.decDigits u ≠ [] := by
 intro h
 have := Lib.decDigits_length u
 rw [h] at this
 have := Lib.nDigits_pos u
 simp at *; omega
theorem EF : ∀ (k u : Nat), u < 10 ^ (k + 1) → Lib.nDigits u ≤ k + 1
 | 0, u, h => by rw [Lib.nDigits_small (by omega)]; omega
 | k + 1, u, h => by
  by_cases c : u < 10
  ·rw [Lib.nDigits_small c]; omega
  ·rw [Lib.nDigits_big c]
   have := EF k (u / 10) (by rw [Nat.pow_succ] at h; omega)
   omega
theorem M3 (u : Nat) : (Lib.decDigits u).length ≤ 9 ↔ u ≤ 999999999 := by
 rw [Lib.decDigits_length]
 constructor
 ·intro h
  have h1 := Lib.lt_pow_nDigits u
  have h2 : 10 ^ Lib.nDigits u ≤ 10 ^ 9 := Nat.pow_le_pow_right (by omega) h
  omega
 ·intro h
  exact EF 8 u (by omega)
theorem TH (l : AF) (hl : ∀ c ∈ l, Cm c = true) : ∀ acc : Nat, Ku acc l < 1844674407370955162 → Lib.parseUint10 acc l = .ok (Ku acc l) := by
 induction l with
 | nil => intro acc _; rfl
 | cons c r ih =>
  intro acc hb
  have hc := hl c List.mem_cons_self
  unfold Cm at hc
  simp only [decide_eq_true_eq] at hc
  have e : Ku acc (c :: r) = Ku (10 * acc + (c.toNat - 48)) r := rfl
  rw [e] at hb ⊢
  have hg := Vv r (10 * acc + (c.toNat - 48))
  have hi := ih (fun x hx => hl x (List.mem_cons_of_mem _ hx)) (10 * acc + (c.toNat - 48)) hb
  rw [Lib.parseUint10, if_pos hc, if_neg (by omega), if_neg (by omega), Nat.mul_comm acc 10]
  exact hi
theorem Sx {u : Nat} (h : u ≤ 999999999) : Lib.parseMag (Lib.decDigits u) = .ok u := by
 unfold Lib.parseMag
 rw [if_neg (Rb u), TH _ (EN u) 0 (by rw [QJ]; omega), QJ]
theorem TF {n : Int} (h : -999999999 ≤ n ∧ n ≤ 999999999) : Lib.atoiAll (Lib.itoa n) = .ok n := by
 by_cases c : n < 0
 ·obtain ⟨u, rfl⟩ : ∃ u : Nat, n = -(u : Int) := ⟨n.natAbs, by omega⟩
  rw [Lib.itoa_neg u (by omega), Lib.atoiAll_minus, Sx (by omega)]
  simp [Lib.signed]; omega
 ·obtain ⟨u, rfl⟩ : ∃ u : Nat, n = (u : Int) := ⟨n.toNat, by omega⟩
  rw [Lib.itoa_nonneg]
  obtain ⟨d, l, e⟩ := List.exists_cons_of_ne_nil (Rb u)
  have hd := EN u d (by rw [e]; exact List.mem_cons_self)
  unfold Cm at hd
  simp only [decide_eq_true_eq] at hd
  have hm := Sx (u := u) (by omega)
  rw [e] at hm ⊢
  rw [Lib.atoiAll_plain d l (by omega) (by omega), hm]
  simp [Lib.signless]; omega
def CV (s : AF) : Int × Bool := match Lib.atoiAll s with
 | .ok v => (v, decide (Lib.itoa v = s) && decide ((Lib.trimPrefix s [45]).length ≤ 9))
 | .range => (Lib.atoiSat s, false)
 | _ => (0, false)
theorem JR (n : Int) : Lib.trimPrefix (Lib.itoa n) [45] = Lib.decDigits n.natAbs := by
 by_cases c : n < 0
 ·obtain ⟨u, rfl⟩ : ∃ u : Nat, n = -(u : Int) := ⟨n.natAbs, by omega⟩
  rw [Lib.itoa_neg u (by omega)]
  simp [Lib.trimPrefix, Lib.hasPrefix]
 ·obtain ⟨u, rfl⟩ : ∃ u : Nat, n = (u : Int) := ⟨n.toNat, by omega⟩
  rw [Lib.itoa_nonneg]
  obtain ⟨d, l, e⟩ := List.exists_cons_of_ne_nil (Rb u)
  have hd := EN u d (by rw [e]; exact List.mem_cons_self)
  unfold Cm at hd
  simp only [decide_eq_true_eq] at hd
  have hne : ¬ (45 : UInt8) = d := by rintro rfl; revert hd; decide
  simp [Lib.trimPrefix, Lib.hasPrefix, e, hne]
theorem U9 {n : Int} (h : -999999999 ≤ n ∧ n ≤ 999999999) : CV (Lib.itoa n) = (n, true) := by
 unfold CV
 rw [TF h]
 simp only [JR, decide_true, Bool.true_and]
 rw [decide_eq_true ((M3 _).2 (by omega))]
theorem RC {s : AF} (h : (CV s).2 = true) : Lib.itoa (CV s).1 = s ∧ -999999999 ≤ (CV s).1 ∧ (CV s).1 ≤ 999999999 := by
 unfold CV at h ⊢
 split at h
 ·rename_i v hv
  simp only [Bool.and_eq_true, decide_eq_true_eq] at h
  simp only [hv]
  obtain ⟨h1, h2⟩ := h
  rw [← h1, JR, M3] at h2
  exact ⟨h1, by omega, by omega⟩
 ·cases h
 ·cases h
def DH (c : UInt8) : AF → List AF
 | [] => [[]]
 | x :: r => if x = c then [] :: DH c r else match DH c r with
  | [] => [[x]]
  | h :: t => (x :: h) :: t
theorem RS (c : UInt8) (s : AF) : DH c s ≠ [] := by
 cases s with
 | nil => simp [DH]
 | cons x r =>
  unfold DH
  split
  ·simp
  ·split <;> simp
theorem LH (c : UInt8) : ∀ s : AF, c ∉ s → DH c s = [s]
 | [], _ => rfl
 | x :: r, h => by
  have h1 := LH c r (fun h' => h (List.mem_cons_of_mem _ h'))
  unfold DH
  rw [if_neg (fun e => h (by rw [e]; exact List.mem_cons_self)), h1]
theorem Oz (c : UInt8) : ∀ (a b : AF), c ∉ a → DH c (a ++ c :: b) = a :: DH c b
 | [], b, _ => by simp [DH]
 | x :: a, b, h => by
  have h1 := Oz c a b (fun h' => h (List.mem_cons_of_mem _ h'))
  rw [List.cons_append, DH, if_neg (fun e => h (by rw [e]; exact List.mem_cons_self)), h1]
theorem Pw (c : UInt8) : ∀ l : List AF, l ≠ [] → (∀ x ∈ l, c ∉ x) → DH c (Lib.join l [c]) = l
 | [], h, _ => absurd rfl h
 | [x], _, h => by rw [Lib.join_one]; exact LH c x (h x List.mem_cons_self)
 | x :: y :: r, _, h => by
  have ih := Pw c (y :: r) (by simp) fun z hz => h z (List.mem_cons_of_mem _ hz)
  have e : Lib.join (x :: y :: r) [c] = x ++ c :: Lib.join (y :: r) [c] := by
   rw [Lib.join_cons, Lib.join_cons]
   simp [Lib.joinTail]
  rw [e, Oz c x _ (h x List.mem_cons_self), ih]
theorem Fr (c : UInt8) : ∀ s : AF, (DH c s).length ≤ s.length + 1
 | [] => by simp [DH]
 | x :: r => by
  have ih := Fr c r
  unfold DH
  split
  ·simp; omega
  ·split
   ·simp
   ·rename_i h t e; rw [e] at ih; simp at ih ⊢; omega
def Bb (c : UInt8) : AF → AF × AF × Bool
 | [] => ([], [], false)
 | x :: r => if x = c then ([], r, true) else (x :: (Bb c r).1, (Bb c r).2.1, (Bb c r).2.2)
theorem GE (c : UInt8) : ∀ (a b : AF), c ∉ a → Bb c (a ++ c :: b) = (a, b, true)
 | [], b, _ => by simp [Bb]
 | x :: a, b, h => by
  have ih := GE c a b fun h' => h (List.mem_cons_of_mem _ h')
  rw [List.cons_append, Bb, if_neg (fun e => h (by rw [e]; exact List.mem_cons_self)), ih]
theorem Jf (c : UInt8) : ∀ s : AF, c ∉ s → Bb c s = (s, [], false)
 | [], _ => rfl
 | x :: r, h => by
  have ih := Jf c r fun h' => h (List.mem_cons_of_mem _ h')
  rw [Bb, if_neg (fun e => h (by rw [e]; exact List.mem_cons_self)), ih]
theorem HD (c : UInt8) (s : AF) : (∃ a b, s = a ++ c :: b ∧ c ∉ a ∧ Bb c s = (a, b, true)) ∨ (c ∉ s ∧ Bb c s = (s, [], false)) := by
 induction s with
 | nil => exact .inr ⟨by simp, rfl⟩
 | cons x r ih =>
  by_cases hx : x = c
  ·subst hx; exact .inl ⟨[], r, rfl, by simp, by simp [Bb]⟩
  ·rcases ih with ⟨a, b, e, h, _⟩ | ⟨h, _⟩
   ·refine .inl ⟨x :: a, b, by rw [e]; rfl, by simp only [List.mem_cons, not_or]; exact ⟨fun e => hx e.symm, h⟩, ?_⟩
    rw [e, ← List.cons_append]; exact GE c _ _ (by simp only [List.mem_cons, not_or]; exact ⟨fun e => hx e.symm, h⟩)
   ·have h2 : c ∉ x :: r := by simp only [List.mem_cons, not_or]; exact ⟨fun e => hx e.symm, h⟩
    exact .inr ⟨h2, Jf c _ h2⟩
inductive Js where | mk (k : Int) (t : AF) (ns : List AF) (it : List Js)
def Js.k : Js → Int | .mk k _ _ _ => k
def Js.t : Js → AF | .mk _ t _ _ => t
def Js.ns : Js → List AF | .mk _ _ n _ => n
def Js.it : Js → List Js | .mk _ _ _ i => i
theorem Js.ind {Q : Js → Prop} (h : ∀ k t ns it, (∀ x ∈ it, Q x) → Q (.mk k t ns it)) (v : Js) : Q v := by
 refine Js.rec (motive_1 := Q) (motive_2 := fun l => ∀ x ∈ l, Q x) (fun k t ns it hi => h k t ns it hi) (by simp) (fun x l hx hl => ?_) v
 intro y hy
 rcases List.mem_cons.1 hy with rfl | hy
 ·exact hx
 ·exact hl y hy
inductive Pt where | mk (k : Int) (t n : AF) (pa : List AF) (fs : List (AF × Int)) (b e : List Pt)
def Pt.k : Pt → Int | .mk k _ _ _ _ _ _ => k
def Pt.t : Pt → AF | .mk _ t _ _ _ _ _ => t
def Pt.n : Pt → AF | .mk _ _ n _ _ _ _ => n
def Pt.pa : Pt → List AF | .mk _ _ _ p _ _ _ => p
def Pt.fs : Pt → List (AF × Int) | .mk _ _ _ _ f _ _ => f
def Pt.b : Pt → List Pt | .mk _ _ _ _ _ b _ => b
def Pt.e : Pt → List Pt | .mk _ _ _ _ _ _ e => e
theorem Pt.ind {Q : Pt → Prop} (h : ∀ k t n pa fs b e, (∀ x ∈ b, Q x) → (∀ x ∈ e, Q x) → Q (.mk k t n pa fs b e)) (p : Pt) : Q p := by
 refine Pt.rec (motive_1 := Q) (motive_2 := fun l => ∀ x ∈ l, Q x) (fun k t n pa fs b e hb he => h k t n pa fs b e hb he) (by simp) (fun x l hx hl => ?_) p
 intro y hy
 rcases List.mem_cons.1 hy with rfl | hy
 ·exact hx
 ·exact hl y hy
abbrev Ty (f : AF × Int) : AV := .agg [.str f.1, aI f.2]
abbrev Bz (l : List (AF × Int)) : AV := .sl 2 (l.map Ty) .ro
mutual
def E8 : Pt → AV
 | .mk k t n pa fs b e => .agg [aI k, .str t, .str n, DN pa, Bz fs, .sl 7 (AH b) .ro, .sl 7 (AH e) .ro]
def AH : List Pt → List AV
 | [] => []
 | x :: r => E8 x :: AH r
end
abbrev E1 (l : List Pt) : AV := .sl 7 (AH l) .ro
theorem FJ : ∀ l : List Pt, AH l = l.map E8
 | [] => rfl
 | x :: r => by simp [AH, FJ r]
theorem C7 (l : List Pt) : (AH l).length = l.length := by simp [FJ]
theorem Nr (a b : List Pt) : AH (a ++ b) = AH a ++ AH b := by simp [FJ]
theorem GD {l : List Pt} {i : Nat} {x : Pt} (h : l[i]? = some x) : (AH l)[i]? = some (E8 x) := by simp [FJ, h]
/-! ### names -/
def Ll (c : UInt8) : Bool := (decide (97 ≤ c.toNat) && decide (c.toNat ≤ 122)) || (decide (65 ≤ c.toNat) && decide (c.toNat ≤ 90)) || decide (c.toNat = 95)
def SJ : AF := [105, 102]
def EI : AF := [101, 97, 99, 104]
def wIn : AF := [105, 110]
def Gu : AF := [101, 108, 115, 101]
def Kt : AF := [101, 110, 100]
def Fz : AF := [111, 112, 101, 110]
def Xl : List AF := [SJ, EI, wIn, Gu, Kt, Fz]
def Qg (s : AF) : Bool := decide (s ≠ []) && decide (s.length ≤ 24) && !Cm (s.headD 48) && s.all fun c => Ll c || Cm c
def Kp (s : AF) : Bool := Qg s && !decide (s ∈ Xl)
def Vp (s : AF) : Bool := (CV s).2 && decide (0 ≤ (CV s).1) && decide ((CV s).1 ≤ 999)
def BK : List AF → Bool
 | [] => false
 | h :: t => decide (t.length ≤ 7) && Kp h && t.all fun s => Kp s || Vp s
def RI : AF := [117, 112, 112, 101, 114]
def RP : AF := [108, 111, 119, 101, 114]
def V1 : AF := [116, 114, 105, 109]
def LI : AF := [106, 115, 111, 110]
def Xd : AF := [112, 97, 100]
def RU : AF := [114, 105, 103, 104, 116]
def YR : AF := [99, 117, 116]
def ZN : List AF := [RI, RP, V1, LI]
def Zk : List AF := [Xd, RU, YR]
def Ko (s : AF) : Nat := if s ∈ ZN then 1 else if s ∈ Zk then 2 else 0
/-! ### right templates -/
def LQ : Nat → List (AF × Int) → Int
 | _, [] => 0
 | i, f :: r => if Ko f.1 = 0 then 5 else if (f.2 < 0 ∨ 200 < f.2) ∨ (Ko f.1 = 1 ∧ f.2 ≠ 0) then 4 else if 0 < i ∧ f.1 = LI then 11 else LQ (i + 1) r
def Qh (pv k : Int) (t n : AF) (pa : List AF) (fs : List (AF × Int)) (b e : List Pt) : Bool :=
 (decide (k = 1) == decide (t = [])) || (decide (k ≠ 4) && decide (n ≠ [])) || (decide (k = 1) && decide (pa ≠ [])) || (decide (k ≠ 2) && decide (fs ≠ [])) || (decide (k < 3) && (decide (b ≠ []) || decide (e ≠ []))) || (decide (k = 1) && decide (pv = 1))
def Fn (k : Int) (n : AF) (pa : List AF) (fs : List (AF × Int)) : Int :=
 if (k = 4 ∧ Kp n = false) ∨ (k ≠ 1 ∧ BK pa = false) then 7 else if 8 < fs.length then 2 else LQ 0 fs
def HA (pv : Int) (i d : Nat) (k : Int) (t n : AF) (pa : List AF) (fs : List (AF × Int)) (b e : List Pt) : Int :=
 if 200 ≤ i then 2 else if 16 < d then 25 else if k < 1 ∨ 4 < k then 5 else if Qh pv k t n pa fs b e = true then 6 else Fn k n pa fs
mutual
def DI (pv : Int) (i d : Nat) : Pt → Nat × Int
 | .mk k t n pa fs b e => if HA pv i d k t n pa fs b e ≠ 0 then (i, HA pv i d k t n pa fs b e)
  else if (BW 0 (i + 1) (d + 1) b).2 ≠ 0 then BW 0 (i + 1) (d + 1) b else BW 0 (BW 0 (i + 1) (d + 1) b).1 (d + 1) e
def BW (pv : Int) (i d : Nat) : List Pt → Nat × Int
 | [] => (i, 0)
 | x :: r => if (DI pv i d x).2 ≠ 0 then DI pv i d x else BW x.k (DI pv i d x).1 d r
end
/-! ### texts -/
def opS : AF := [60, 37]
def clS : AF := [37, 62]
def MZ : AF := [60, 37, 111, 112, 101, 110, 37, 62]
def DJ : AF → AF
 | [] => []
 | [c] => [c]
 | a :: b :: r => if a = 60 ∧ b = 37 then MZ ++ DJ r else a :: DJ (b :: r)
def Mq (f : AF × Int) : AF := 124 :: f.1 ++ if Ko f.1 = 2 then 32 :: Lib.itoa f.2 else []
def XO : AF := [60, 37, 105, 102, 32]
def KX : AF := [60, 37, 101, 97, 99, 104, 32]
def Sl : AF := [32, 105, 110, 32]
def FE : AF := [60, 37, 101, 108, 115, 101, 37, 62]
def FX : AF := [60, 37, 101, 110, 100, 37, 62]
def I3 (pa : List AF) : AF := Lib.join pa [46]
mutual
def U3 : Pt → AF
 | .mk k t n pa fs b e => if k = 1 then DJ t else if k = 2 then opS ++ I3 pa ++ fs.flatMap Mq ++ clS
  else (if k = 3 then XO ++ I3 pa ++ clS else KX ++ n ++ Sl ++ I3 pa ++ clS) ++ CJ b ++ (if e = [] then [] else FE ++ CJ e) ++ FX
def CJ : List Pt → AF
 | [] => []
 | x :: r => U3 x ++ CJ r
end
def CO (l : List Pt) : Int × Int := if (BW 0 0 0 l).2 ≠ 0 then ((BW 0 0 0 l).2, ((BW 0 0 0 l).1 : Int)) else if 4000 < (CJ l).length then (14, -1) else (0, 0)
theorem Ou : ∀ a b : List Pt, CJ (a ++ b) = CJ a ++ CJ b
 | [], _ => rfl
 | x :: a, b => by simp [CJ, Ou a b]
theorem Vs {pv : Int} {i d : Nat} {p : Pt} (h : (DI pv i d p).2 = 0) : i < 200 ∧ d ≤ 16 := by
 obtain ⟨k, t, n, pa, fs, b, e⟩ := p
 rw [DI] at h
 split at h
 ·rename_i h1; exact absurd h h1
 ·rename_i h1
  have h1 := Classical.not_not.1 h1
  unfold HA at h1
  split at h1
  ·cases h1
  ·split at h1
   ·cases h1
   ·omega
def As (p : AF) : AF → Option (AF × AF)
 | [] => if p = [] then some ([], []) else none
 | x :: r => if p.isPrefixOf (x :: r) then some ([], (x :: r).drop p.length) else (As p r).map fun c => (x :: c.1, c.2)
theorem EX {p : AF} : ∀ {s a b : AF}, As p s = some (a, b) → s = a ++ (p ++ b)
 | [], a, b, h => by
  unfold As at h
  split at h
  ·rename_i e; subst e; simp at h; obtain ⟨rfl, rfl⟩ := h; rfl
  ·cases h
 | x :: r, a, b, h => by
  unfold As at h
  split at h
  ·rename_i hp
   simp only [Option.some.injEq, Prod.mk.injEq] at h
   obtain ⟨rfl, rfl⟩ := h
   have := List.prefix_iff_eq_append.1 (List.isPrefixOf_iff_prefix.1 hp)
   simpa using this.symm
  ·obtain ⟨c, h1, h2⟩ := Option.map_eq_some_iff.1 h
   injection h2 with e1 e2
   subst e1; subst e2
   rw [List.cons_append, ← EX (s := r) (a := c.1) (b := c.2) h1]
theorem Co {p s a b : AF} (h : As p s = some (a, b)) : s.length = a.length + p.length + b.length := by
 have := EX h; subst this; simp; omega
inductive Dir where | bad | opn | els | fin | fld (p : Pt) | bgn (p : Pt)
def fltO (s : AF) : Option (AF × Int) :=
 if (Bb 32 s).2.2 = true then (if Ko (Bb 32 s).1 = 2 ∧ (CV (Bb 32 s).2.1).2 = true ∧ 0 ≤ (CV (Bb 32 s).2.1).1 then some ((Bb 32 s).1, (CV (Bb 32 s).2.1).1) else none)
 else if Ko s = 1 then some (s, 0) else none
def G3 : List AF → Option (List (AF × Int))
 | [] => some []
 | s :: r => match fltO s with
  | none => none
  | some f => (G3 r).map (f :: ·)
def G8 (s : AF) : Dir := if BK (DH 46 s) = true then .bgn (.mk 3 [] [] (DH 46 s) [] [] []) else .bad
def Fm (s : AF) : Dir := match As Sl s with
 | none => .bad
 | some (n, w) => if Kp n = true ∧ BK (DH 46 w) = true then .bgn (.mk 4 [] n (DH 46 w) [] [] []) else .bad
def CN (s : AF) : Dir := match DH 124 s with
 | [] => .bad
 | h :: t => if BK (DH 46 h) = true then (match G3 t with | some fs => .fld (.mk 2 [] [] (DH 46 h) fs [] []) | none => .bad) else .bad
def dirT (s : AF) : Dir :=
 if s = Fz then .opn else if s = Gu then .els else if s = Kt then .fin
 else if (Bb 32 s).2.2 = true ∧ (Bb 32 s).1 = SJ then G8 (Bb 32 s).2.1
 else if (Bb 32 s).2.2 = true ∧ (Bb 32 s).1 = EI then Fm (Bb 32 s).2.1
 else CN s
theorem WE {s : AF} {p : Pt} (h : dirT s = .bgn p) : p.b = [] ∧ p.e = [] ∧ (p.k = 3 ∨ p.k = 4) := by
 unfold dirT at h
 (repeat' split at h) <;> first | (cases h; done) | skip
 ·unfold G8 at h; split at h
  ·injection h with h; subst h; exact ⟨rfl, rfl, .inl rfl⟩
  ·cases h
 ·unfold Fm at h; split at h
  ·cases h
  ·split at h
   ·injection h with h; subst h; exact ⟨rfl, rfl, .inr rfl⟩
   ·cases h
 ·unfold CN at h; (repeat' split at h) <;> cases h
def ZK (p : Pt) (l : List Pt) : Pt := .mk p.k p.t p.n p.pa p.fs l p.e
def Zd (p : Pt) (l : List Pt) : Pt := .mk p.k p.t p.n p.pa p.fs p.b l
def tP (t : AF) : Pt := .mk 1 t [] [] [] [] []
def Cx (x : Pt) (l : List Pt) : List Pt := match l.getLast? with
 | some y => if x.k = 1 ∧ y.k = 1 then l.dropLast ++ [tP (y.t ++ x.t)] else l ++ [x]
 | none => [x]
abbrev Cz := List Pt × List (Pt × Bool)
def E0 : Cz → List Pt
 | (ps, []) => ps
 | (_, (o, b) :: _) => if b = true then o.e else o.b
def B0 (l : List Pt) : Cz → Cz
 | (_, []) => (l, [])
 | (ps, (o, b) :: k) => (ps, (if b = true then Zd o l else ZK o l, b) :: k)
theorem Kz (l : List Pt) (st : Cz) : E0 (B0 l st) = l := by
 obtain ⟨ps, _ | ⟨⟨o, b⟩, k⟩⟩ := st
 ·rfl
 ·cases b <;> rfl
theorem PC (l m : List Pt) (st : Cz) : B0 l (B0 m st) = B0 l st := by
 obtain ⟨ps, _ | ⟨⟨o, b⟩, k⟩⟩ := st
 ·rfl
 ·cases b <;> rfl
theorem Sy (st : Cz) : B0 (E0 st) st = st := by
 obtain ⟨ps, _ | ⟨⟨⟨k, t, n, pa, fs, b, e⟩, c⟩, r⟩⟩ := st
 ·rfl
 ·cases c <;> rfl
theorem W9 (l : List Pt) (st : Cz) : (B0 l st).2.length = st.2.length := by
 obtain ⟨ps, _ | ⟨⟨o, b⟩, k⟩⟩ := st <;> rfl
def DA (x : Pt) (st : Cz) : Cz := B0 (Cx x (E0 st)) st
def Ap (t : AF) (st : Cz) : Cz := if t = [] then st else DA (tP t) st
def BJ : Dir → Cz → Option Cz
 | .bad, _ => none
 | .opn, st => some (DA (tP opS) st)
 | .els, (ps, (o, false) :: k) => some (ps, (o, true) :: k)
 | .els, _ => none
 | .fin, (ps, (o, _) :: k) => some (DA o (ps, k))
 | .fin, _ => none
 | .fld p, st => some (DA p st)
 | .bgn p, (ps, k) => some (ps, (p, false) :: k)
def PD : Nat → AF → Nat → Cz → Except Nat Cz
 | 0, _, i, _ => .error i
 | n + 1, s, i, st => match As opS s with
  | none => .ok (Ap s st)
  | some (p, r) => match As clS r with
   | none => .error (i + p.length)
   | some (d, q) => match BJ (dirT d) (Ap p st) with
    | none => .error (i + p.length)
    | some st' => PD n q (i + p.length + d.length + 4) st'
theorem QU : ∀ (n m : Nat) (s : AF) (i : Nat) (st : Cz), s.length < n → s.length < m → PD n s i st = PD m s i st
 | 0, _, _, _, _, h, _ => by omega
 | _ + 1, 0, _, _, _, _, h => by omega
 | n + 1, m + 1, s, i, st, h, k => by
  unfold PD
  split
  ·rfl
  ·rename_i p r e1
   split
   ·rfl
   ·rename_i d q e2
    split
    ·rfl
    ·have h1 := Co e1
     have h2 := Co e2
     have h3 : opS.length = 2 := rfl
     have h4 : clS.length = 2 := rfl
     exact QU n m q _ _ (by omega) (by omega)
def CX (s : AF) (i : Nat) (st : Cz) : Except Nat Cz := PD (s.length + 1) s i st
theorem GY {s : AF} {i : Nat} {st : Cz} (h : As opS s = none) : CX s i st = .ok (Ap s st) := by
 unfold CX PD; rw [h]
theorem Iz {s p r : AF} {i : Nat} {st : Cz} (h : As opS s = some (p, r)) (k : As clS r = none) : CX s i st = .error (i + p.length) := by
 unfold CX PD; rw [h]; dsimp only; rw [k]
theorem Lz {s p r d q : AF} {i : Nat} {st : Cz} (h : As opS s = some (p, r)) (k : As clS r = some (d, q)) (hs : BJ (dirT d) (Ap p st) = none) : CX s i st = .error (i + p.length) := by
 unfold CX PD; rw [h]; dsimp only; rw [k]; dsimp only; rw [hs]
theorem Ky {s p r d q : AF} {i : Nat} {st st' : Cz} (h : As opS s = some (p, r)) (k : As clS r = some (d, q)) (hs : BJ (dirT d) (Ap p st) = some st') : CX s i st = CX q (i + p.length + d.length + 4) st' := by
 have h1 := Co h
 have h2 := Co k
 have h3 : opS.length = 2 := rfl
 have h4 : clS.length = 2 := rfl
 unfold CX
 rw [PD, h]; dsimp only; rw [k]; dsimp only; rw [hs]; dsimp only
 exact QU _ _ _ _ _ (by omega) (by omega)
def Oy (s : AF) : List Pt × (Int × Int) := if 4000 < s.length then ([], (3, -1)) else match CX s 0 ([], []) with
 | .error i => ([], (1, (i : Int)))
 | .ok (l, k) => if k ≠ [] then ([], (1, (s.length : Int))) else if (CO l).1 ≠ 0 then ([], CO l) else (l, (0, 0))
structure RefOk (s : AF) (i : Nat) (st : Cz) (x : List Pt × Nat × Nat × AF) : Prop where
 cs : x.2.2.1 = 0 ∨ x.2.2.1 = 1 ∨ x.2.2.1 = 5 ∨ x.2.2.1 = 6 ∨ x.2.2.1 = 7
 bad : x.2.2.1 = 1 → CX s i st = .error x.2.1
 fin0 : x.2.2.1 = 0 → x.2.1 = i + s.length ∧ CX s i st = .ok (B0 x.1 st)
 opn : x.2.2.1 = 7 → x.2.1 = i + s.length ∧ ∃ st', CX s i st = .ok st' ∧ st.2.length < st'.2.length
 els : x.2.2.1 = 5 → i + s.length = x.2.1 + x.2.2.2.length ∧ i + 8 ≤ x.2.1 ∧ CX s i st = match BJ .els (B0 x.1 st) with | none => .error (x.2.1 - 8) | some st' => CX x.2.2.2 x.2.1 st'
 fin : x.2.2.1 = 6 → i + s.length = x.2.1 + x.2.2.2.length ∧ i + 7 ≤ x.2.1 ∧ CX s i st = match BJ .fin (B0 x.1 st) with | none => .error (x.2.1 - 7) | some st' => CX x.2.2.2 x.2.1 st'
theorem RefOk.move {s q : AF} {i j : Nat} {st st' : Cz} {x : List Pt × Nat × Nat × AF} (h : RefOk q j st' x) (hr : CX s i st = CX q j st') (hl : i + s.length = j + q.length) (hij : i ≤ j) (hs : ∀ l, B0 l st' = B0 l st) (hn : st'.2.length = st.2.length) : RefOk s i st x :=
 ⟨h.cs, fun e => hr.trans (h.bad e), fun e => ⟨by have := (h.fin0 e).1; omega, by rw [hr, (h.fin0 e).2, hs]⟩, fun e => by
  obtain ⟨a, st2, b, c⟩ := h.opn e
  exact ⟨by omega, st2, hr.trans b, by omega⟩, fun e => by
  obtain ⟨a, b, c⟩ := h.els e
  exact ⟨by omega, by omega, by rw [hr, c, hs]⟩, fun e => by
  obtain ⟨a, b, c⟩ := h.fin e
  exact ⟨by omega, by omega, by rw [hr, c, hs]⟩⟩
theorem Ug (p : AF) (st : Cz) : E0 (Ap p st) = (if p = [] then E0 st else Cx (tP p) (E0 st)) ∧ (∀ l, B0 l (Ap p st) = B0 l st) ∧ (Ap p st).2.length = st.2.length := by
 unfold Ap
 split
 ·exact ⟨rfl, fun _ => rfl, rfl⟩
 ·exact ⟨Kz _ _, fun l => PC _ _ _, W9 _ _⟩
theorem Wj (p : AF) (st : Cz) : Ap p st = B0 (if p = [] then E0 st else Cx (tP p) (E0 st)) st := by
 unfold Ap
 split
 ·exact (Sy st).symm
 ·rfl
/-! ### cutting -/
theorem KL (p : AF) (x : UInt8) (r : AF) : As p (x :: r) = if p.isPrefixOf (x :: r) then some ([], (x :: r).drop p.length) else (As p r).map fun c => (x :: c.1, c.2) := rfl
theorem GW {u v : UInt8} (huv : u ≠ v) : ∀ {a : AF} (r : AF), As [u, v] a = none → As [u, v] (a ++ ([u, v] ++ r)) = some (a, r)
 | [], r, _ => by simp [As]
 | [x], r, h => by
  rw [List.cons_append, KL, if_neg, GW huv (a := []) r (by simp [As])]; rfl
  simp; intro _ e; exact huv e.symm
 | x :: y :: a, r, h => by
  unfold As at h
  split at h
  ·cases h
  ·rename_i hp
   have h1 : As [u, v] (y :: a) = none := by simpa using h
   rw [List.cons_append, KL, if_neg, GW huv r h1]; rfl
   simpa using hp
theorem Qk {p : AF} : ∀ {s a b : AF}, As p s = some (a, b) → p ≠ [] → As p a = none
 | [], a, b, h, hp => by
  unfold As at h; rw [if_neg hp] at h; cases h
 | x :: r, a, b, h, hp => by
  unfold As at h
  split at h
  ·simp only [Option.some.injEq, Prod.mk.injEq] at h
   obtain ⟨rfl, _⟩ := h
   unfold As; rw [if_neg hp]
  ·rename_i hn
   obtain ⟨c, h1, h2⟩ := Option.map_eq_some_iff.1 h
   injection h2 with e1 e2
   subst e1
   have ih := Qk (a := c.1) (b := c.2) h1 hp
   have he := EX (a := c.1) (b := c.2) h1
   unfold As
   rw [if_neg, ih]; rfl
   intro hq
   apply hn
   rw [List.isPrefixOf_iff_prefix] at hq ⊢
   rw [he]
   exact hq.trans ⟨_, by rw [List.cons_append]⟩
theorem PK {c : UInt8} {p : AF} : ∀ {a : AF} (r : AF), c ∉ a → As (c :: p) (a ++ ((c :: p) ++ r)) = some (a, r)
 | [], r, _ => by
  show As (c :: p) (c :: (p ++ r)) = _
  unfold As
  rw [if_pos (by simp [List.isPrefixOf_iff_prefix])]
  simp
 | x :: a, r, h => by
  simp only [List.mem_cons, not_or] at h
  rw [List.cons_append, As, if_neg (by simp [h.1]), PK r h.2]; rfl
theorem Lv : ∀ {t : AF}, As opS t = none → DJ t = t
 | [], _ => rfl
 | [x], _ => rfl
 | x :: y :: r, h => by
  unfold As at h
  split at h
  ·cases h
  ·rename_i hp
   have h1 : As opS (y :: r) = none := by simpa using h
   rw [DJ, if_neg, Lv h1]
   rintro ⟨rfl, rfl⟩
   exact hp rfl
theorem L8 : ∀ {t a b : AF}, As opS t = some (a, b) → DJ t = a ++ (MZ ++ DJ b)
 | [], a, b, h => by simp [As, opS] at h
 | [x], a, b, h => by simp [As, opS] at h
 | x :: y :: r, a, b, h => by
  unfold As at h
  split at h
  ·rename_i hp
   simp only [Option.some.injEq, Prod.mk.injEq] at h
   obtain ⟨rfl, rfl⟩ := h
   simp [opS] at hp
   obtain ⟨rfl, rfl⟩ := hp
   rw [DJ, if_pos ⟨rfl, rfl⟩]; rfl
  ·rename_i hp
   obtain ⟨c, h1, h2⟩ := Option.map_eq_some_iff.1 h
   injection h2 with e1 e2
   subst e1; subst e2
   rw [DJ, if_neg, L8 (a := c.1) (b := c.2) h1]; rfl
   rintro ⟨rfl, rfl⟩
   exact hp rfl
/-! ### steps of reading -/
theorem add_add (a b : AF) (l : List Pt) : Cx (tP b) (Cx (tP a) l) = Cx (tP (a ++ b)) l := by
 unfold Cx
 cases h : l.getLast? with
 | none => simp [tP, Pt.k, Pt.t]
 | some y =>
  have hk : ∀ s, (tP s).k = 1 := fun _ => rfl
  have ht : ∀ s, (tP s).t = s := fun _ => rfl
  by_cases hy : y.k = 1
  ·simp [hk, ht, hy]
  ·simp [hk, ht, hy]
theorem OP (a b : AF) (st : Cz) : Ap b (Ap a st) = Ap (a ++ b) st := by
 unfold Ap
 by_cases ha : a = []
 ·subst ha; simp
 ·by_cases hb : b = []
  ·subst hb; simp
  ·rw [if_neg ha, if_neg hb, if_neg (by simp [ha])]
   unfold DA
   rw [Kz, PC, add_add]
theorem OG {s p r : AF} {i : Nat} {st : Cz} (h : As opS s = some (p, r)) : CX s i st = CX (opS ++ r) (i + p.length) (Ap p st) := by
 have h2 : As opS (opS ++ r) = some ([], r) := GW (by decide) (a := []) r (by simp [As])
 have h3 : Ap [] (Ap p st) = Ap p st := rfl
 cases hk : As clS r with
 | none => rw [Iz h hk, Iz h2 hk]; rfl
 | some dq =>
  obtain ⟨d, q⟩ := dq
  cases hs : BJ (dirT d) (Ap p st) with
  | none => rw [Lz h hk hs, Lz h2 hk (by rw [h3]; exact hs)]; rfl
  | some st' => rw [Ky h hk hs, Ky h2 hk (by rw [h3]; exact hs)]; rfl
theorem EK {ins q : AF} {i : Nat} {st : Cz} (h : (37 : UInt8) ∉ ins) {st' : Cz} (hs : BJ (dirT ins) st = some st') : ∃ j, CX (opS ++ (ins ++ (clS ++ q))) i st = CX q j st' := by
 have h2 : As opS (opS ++ (ins ++ (clS ++ q))) = some ([], ins ++ (clS ++ q)) := GW (by decide) (a := []) _ (by simp [As])
 exact ⟨_, Ky h2 (PK q h) hs⟩
def Yz (z : AF) : Prop := z = [] ∨ ∃ r, z = opS ++ r
theorem run_text : ∀ (n : Nat) (t z : AF) (i : Nat) (st : Cz), t.length ≤ n → Yz z → ∃ j, CX (DJ t ++ z) i st = CX z j (Ap t st) := by
 intro n
 induction n with
 | zero =>
  intro t z i st h hz
  have : t = [] := List.length_eq_zero_iff.1 (by omega)
  subst this
  exact ⟨i, rfl⟩
 | succ n ih =>
  intro t z i st h hz
  cases hc : As opS t with
  | none =>
   rw [Lv hc]
   rcases hz with rfl | ⟨r, rfl⟩
   ·refine ⟨i, ?_⟩
    rw [List.append_nil, GY hc, GY (by simp [As, opS])]
    rfl
   ·exact ⟨_, OG (GW (by decide) r hc)⟩
  | some ab =>
   obtain ⟨a, b⟩ := ab
   have hl := Co hc
   have h3 : opS.length = 2 := rfl
   have he := EX hc
   rw [L8 hc]
   have e1 : a ++ (MZ ++ DJ b) ++ z = a ++ (opS ++ (Fz ++ (clS ++ (DJ b ++ z)))) := by
    rw [show MZ = opS ++ (Fz ++ clS) from rfl]; simp only [List.append_assoc]
   rw [e1, OG (show As opS (a ++ (opS ++ (Fz ++ (clS ++ (DJ b ++ z))))) = some (a, Fz ++ (clS ++ (DJ b ++ z))) from GW (by decide) _ (Qk hc (by decide)))]
   obtain ⟨j, hj⟩ := EK (q := DJ b ++ z) (i := i + a.length) (st := Ap a st) (ins := Fz) (by decide) (st' := DA (tP opS) (Ap a st)) rfl
   rw [hj]
   obtain ⟨j2, hj2⟩ := ih b z j (DA (tP opS) (Ap a st)) (by omega) hz
   refine ⟨j2, ?_⟩
   rw [hj2]
   have e2 : DA (tP opS) (Ap a st) = Ap opS (Ap a st) := rfl
   rw [e2, OP, OP, he]
/-! ### names have no signs in them -/
def U4 (c : UInt8) : Bool := Ll c || Cm c
theorem SX {s : AF} (h : Kp s = true) : ∀ c ∈ s, U4 c = true := by
 unfold Kp Qg at h
 simp only [Bool.and_eq_true, List.all_eq_true] at h
 exact h.1.2
theorem Zo {s : AF} (h : Vp s = true) : ∀ c ∈ s, U4 c = true := by
 unfold Vp at h
 simp only [Bool.and_eq_true, decide_eq_true_eq] at h
 obtain ⟨⟨h1, h2⟩, h3⟩ := h
 have he := (RC h1).1
 intro c hc
 rw [← he] at hc
 have : Lib.itoa (CV s).1 = Lib.decDigits (CV s).1.natAbs := by
  unfold Lib.itoa; rw [if_neg (by omega), show (CV s).1.toNat = (CV s).1.natAbs by omega]
 rw [this] at hc
 unfold U4
 rw [EN _ c hc, Bool.or_true]
theorem Oa {pa : List AF} (h : BK pa = true) : pa ≠ [] ∧ ∀ x ∈ pa, ∀ c ∈ x, U4 c = true := by
 cases pa with
 | nil => cases h
 | cons a r =>
  refine ⟨by simp, ?_⟩
  simp only [BK, Bool.and_eq_true, List.all_eq_true] at h
  intro x hx
  rcases List.mem_cons.1 hx with rfl | hx
  ·exact SX h.1.2
  ·have := h.2 x hx
   simp only [Bool.or_eq_true] at this
   rcases this with h | h
   ·exact SX h
   ·exact Zo h
theorem H9 {c : UInt8} {s : AF} (h : ∀ x ∈ s, U4 x = true) (hc : U4 c = false) : c ∉ s := fun hm => by
 have := h c hm; rw [hc] at this; cases this
theorem UC {sep : AF} : ∀ {l : List AF} {c : UInt8}, c ∈ Lib.join l sep → c ∈ sep ∨ ∃ x ∈ l, c ∈ x
 | [], c, h => by simp [Lib.join] at h
 | [a], c, h => by rw [Lib.join_one] at h; exact .inr ⟨a, by simp, h⟩
 | a :: b :: r, c, h => by
  rw [Lib.join_cons] at h
  rcases List.mem_append.1 h with h | h
  ·exact .inr ⟨a, by simp, h⟩
  ·unfold Lib.joinTail at h
   obtain ⟨y, hy, hc⟩ := List.mem_flatten.1 h
   obtain ⟨x, hx, rfl⟩ := List.mem_map.1 hy
   rcases List.mem_append.1 hc with hc | hc
   ·exact .inl hc
   ·exact .inr ⟨x, List.mem_cons_of_mem _ hx, hc⟩
theorem LN {pa : List AF} (h : BK pa = true) {c : UInt8} (hc : U4 c = false) (h46 : c ≠ 46) : c ∉ I3 pa := by
 intro hm
 rcases UC hm with h1 | ⟨x, hx, h1⟩
 ·simp at h1; exact h46 h1
 ·exact H9 ((Oa h).2 x hx) hc h1
theorem RV {pa : List AF} (h : BK pa = true) : DH 46 (I3 pa) = pa :=
 Pw 46 pa (Oa h).1 fun x hx => H9 ((Oa h).2 x hx) (by decide)
theorem Sj (c : UInt8) : ∀ (a b : AF), c ∉ a → ∃ h t, DH c b = h :: t ∧ DH c (a ++ b) = (a ++ h) :: t
 | [], b, _ => by
  obtain ⟨h, t, e⟩ := List.exists_cons_of_ne_nil (RS c b)
  exact ⟨h, t, e, e⟩
 | x :: a, b, hx => by
  simp only [List.mem_cons, not_or] at hx
  obtain ⟨h, t, e1, e2⟩ := Sj c a b hx.2
  refine ⟨h, t, e1, ?_⟩
  rw [List.cons_append, DH, if_neg (fun e => hx.1 e.symm), e2]; rfl
/-! ### filters -/
def RH (f : AF × Int) : AF := f.1 ++ if Ko f.1 = 2 then 32 :: Lib.itoa f.2 else []
theorem Ut (f : AF × Int) : Mq f = 124 :: RH f := rfl
structure FltOk (f : AF × Int) : Prop where
 k : Ko f.1 ≠ 0
 lo : 0 ≤ f.2
 hi : f.2 ≤ 200
 z : Ko f.1 = 1 → f.2 = 0
theorem Ve : ∀ {fs : List (AF × Int)} {i : Nat}, LQ i fs = 0 → ∀ f ∈ fs, FltOk f
 | [], _, _, f, h => by simp at h
 | g :: r, i, h, f, hf => by
  unfold LQ at h
  split at h
  ·cases h
  ·rename_i h1
   split at h
   ·cases h
   ·rename_i h2
    split at h
    ·cases h
    ·rcases List.mem_cons.1 hf with rfl | hf
     ·simp only [not_or, not_and, Int.not_lt] at h2
      exact ⟨h1, h2.1.1, h2.1.2, fun h => Classical.not_not.1 (h2.2 h)⟩
     ·exact Ve h f hf
theorem QC {s : AF} (h : Ko s ≠ 0) : s ∈ ZN ++ Zk := by
 unfold Ko at h
 split at h
 ·exact List.mem_append_left _ (by assumption)
 ·split at h
  ·exact List.mem_append_right _ (by assumption)
  ·exact absurd rfl h
theorem XV {s : AF} (h : Ko s ≠ 0) : ∀ c ∈ s, U4 c = true := by
 have key : ∀ x ∈ ZN ++ Zk, ∀ c ∈ x, U4 c = true := by decide
 exact key s (QC h)
theorem UH {n : Int} (h : 0 ≤ n) : ∀ c ∈ Lib.itoa n, Cm c = true := by
 have : Lib.itoa n = Lib.decDigits n.natAbs := by unfold Lib.itoa; rw [if_neg (by omega), show n.toNat = n.natAbs by omega]
 rw [this]; exact EN _
theorem Vt {n : Int} (h : 0 ≤ n) : ∀ c ∈ Lib.itoa n, U4 c = true := fun c hc => by unfold U4; rw [UH h c hc, Bool.or_true]
theorem T2 {f : AF × Int} (h : FltOk f) {c : UInt8} (hc : U4 c = false) (h32 : c ≠ 32) : c ∉ RH f := by
 unfold RH
 intro hm
 rcases List.mem_append.1 hm with hm | hm
 ·exact H9 (XV h.k) hc hm
 ·split at hm
  ·rcases List.mem_cons.1 hm with hm | hm
   ·exact h32 hm
   ·exact H9 (Vt h.lo) hc hm
  ·simp at hm
theorem Wf {f : AF × Int} (h : FltOk f) : fltO (RH f) = some f := by
 have h32 : (32 : UInt8) ∉ f.1 := H9 (XV h.k) (by decide)
 obtain ⟨a, n⟩ := f
 unfold RH fltO
 dsimp only at h32 ⊢
 by_cases h2 : Ko a = 2
 ·rw [if_pos h2, GE 32 a _ h32, if_pos rfl]
  have := U9 (n := n) (by have := h.lo; have := h.hi; dsimp only at *; omega)
  dsimp only
  rw [this, if_pos ⟨h2, rfl, h.lo⟩]
 ·rw [if_neg h2, List.append_nil, Jf 32 a h32]
  have h1 : Ko a = 1 := by
   have := h.k
   unfold Ko at *
   dsimp only at *
   split at h2 <;> rename_i hh
   ·rw [if_pos hh]
   ·split at h2
    ·exact absurd rfl h2
    ·rename_i hk; rw [if_neg hh, if_neg hk] at this; exact absurd rfl this
  rw [if_neg (by simp), if_pos h1]
  have := h.z h1
  dsimp only at this; rw [this]
theorem Sp : ∀ {fs : List (AF × Int)}, (∀ f ∈ fs, FltOk f) → G3 (fs.map RH) = some fs
 | [], _ => rfl
 | f :: r, h => by
  simp only [List.map_cons, G3, Wf (h f List.mem_cons_self), Sp (fs := r) fun g hg => h g (List.mem_cons_of_mem _ hg)]
  rfl
theorem SN : ∀ {fs : List (AF × Int)} {a : AF}, (124 : UInt8) ∉ a → (∀ f ∈ fs, FltOk f) → DH 124 (a ++ fs.flatMap Mq) = a :: fs.map RH
 | [], a, ha, _ => by rw [List.flatMap_nil, List.append_nil, LH 124 a ha]; rfl
 | f :: r, a, ha, h => by
  rw [List.flatMap_cons, Ut, List.cons_append, Oz 124 a _ ha, SN (T2 (h f List.mem_cons_self) (by decide) (by decide)) fun g hg => h g (List.mem_cons_of_mem _ hg)]
  rfl
/-! ### directives -/
theorem TU {pa : List AF} {fs : List (AF × Int)} (hp : BK pa = true) (hf : ∀ f ∈ fs, FltOk f) : dirT (I3 pa ++ fs.flatMap Mq) = .fld (.mk 2 [] [] pa fs [] []) := by
 have hs := SN (LN hp (c := 124) (by decide) (by decide)) hf
 have hw := RV hp
 generalize hS : I3 pa ++ fs.flatMap Mq = s at *
 have hkw : ∀ w : AF, DH 124 w = [w] → DH 46 w = [w] → BK [w] = false → s ≠ w := by
  intro w h1 h2 h3 e
  subst e
  rw [h1] at hs
  injection hs with e1 e2
  rw [← e1, h2] at hw
  rw [← hw, h3] at hp; cases hp
 have hsp : ∀ w : AF, (124 : UInt8) ∉ w → ¬ ((Bb 32 s).2.2 = true ∧ (Bb 32 s).1 = w) := by
  rintro w h1 ⟨h2, h3⟩
  rcases HD 32 s with ⟨a, b, e, h, k⟩ | ⟨h, k⟩
  ·rw [k] at h3
   dsimp only at h3
   subst h3
   have h2 : (124 : UInt8) ∉ a ++ [32] := by simp [h1]
   obtain ⟨x, t, e1, e2⟩ := Sj 124 (a ++ [32]) b h2
   rw [List.append_assoc, List.singleton_append, ← e, hs] at e2
   injection e2 with e2 _
   exact LN hp (c := 32) (by decide) (by decide) (by rw [e2]; simp)
  ·rw [k] at h2; cases h2
 unfold dirT
 rw [if_neg (hkw Fz (by decide) (by decide) (by decide)), if_neg (hkw Gu (by decide) (by decide) (by decide)), if_neg (hkw Kt (by decide) (by decide) (by decide)), if_neg (hsp SJ (by decide)), if_neg (hsp EI (by decide))]
 unfold CN
 rw [hs]
 dsimp only
 rw [hw, if_pos hp, Sp hf]
theorem YA {pa : List AF} (hp : BK pa = true) : dirT (SJ ++ 32 :: I3 pa) = .bgn (.mk 3 [] [] pa [] [] []) := by
 have hb := GE 32 SJ (I3 pa) (by decide)
 unfold dirT
 rw [if_neg (by simp [SJ, Fz]), if_neg (by simp [SJ, Gu]), if_neg (by simp [SJ, Kt]), hb, if_pos ⟨rfl, rfl⟩]
 unfold G8
 rw [RV hp, if_pos hp]
theorem Ui {n : AF} {pa : List AF} (hn : Kp n = true) (hp : BK pa = true) : dirT (EI ++ 32 :: (n ++ (Sl ++ I3 pa))) = .bgn (.mk 4 [] n pa [] [] []) := by
 have hb := GE 32 EI (n ++ (Sl ++ I3 pa)) (by decide)
 have hc : As Sl (n ++ (Sl ++ I3 pa)) = some (n, I3 pa) := PK (c := 32) (p := [105, 110, 32]) (I3 pa) (H9 (SX hn) (by decide))
 unfold dirT
 rw [if_neg (by simp [EI, Fz]), if_neg (by simp [EI, Gu]), if_neg (by simp [EI, Kt]), hb, if_neg (by simp [EI, SJ]), if_pos ⟨rfl, rfl⟩]
 unfold Fm
 rw [hc]
 dsimp only
 rw [RV hp, if_pos ⟨hn, hp⟩]
/-! ### the whole text -/
def NoT (l : List Pt) : Prop := ∀ y, l.getLast? = some y → y.k ≠ 1
theorem SU {x : Pt} {l : List Pt} (h : x.k = 1 → NoT l) : Cx x l = l ++ [x] := by
 unfold Cx
 cases hl : l.getLast? with
 | none => rw [List.getLast?_eq_none_iff] at hl; subst hl; rfl
 | some y =>
  dsimp only
  rw [if_neg]
  rintro ⟨h1, h2⟩
  exact h h1 y hl h2
def Reads (l : List Pt) : Prop := ∀ (z : AF) (i : Nat) (st : Cz), Yz z → NoT (E0 st) → ∃ j, CX (CJ l ++ z) i st = CX z j (B0 (E0 st ++ l) st)
theorem W3 {p : Pt} (h : p.k ≠ 1) (z : AF) : Yz (U3 p ++ z) := by
 obtain ⟨k, t, n, pa, fs, b, e⟩ := p
 simp only [Pt.k] at h
 rw [U3, if_neg h]
 refine .inr ?_
 split
 ·exact ⟨I3 pa ++ (fs.flatMap Mq ++ (clS ++ z)), by simp only [List.append_assoc]⟩
 ·split
  ·exact ⟨_, by rw [show XO = opS ++ (SJ ++ [32]) from rfl]; simp only [List.append_assoc]; rfl⟩
  ·exact ⟨_, by rw [show KX = opS ++ (EI ++ [32]) from rfl]; simp only [List.append_assoc]; rfl⟩
structure ParOk (pv k : Int) (t n : AF) (pa : List AF) (fs : List (AF × Int)) (b e : List Pt) : Prop where
 k1 : 1 ≤ k
 k4 : k ≤ 4
 tx : k = 1 ↔ t ≠ []
 nm : k ≠ 4 → n = []
 pt : k = 1 → pa = []
 fl : k ≠ 2 → fs = []
 in_ : k < 3 → b = [] ∧ e = []
 pv : k = 1 → pv ≠ 1
 id_ : k = 4 → Kp n = true
 path : k ≠ 1 → BK pa = true
 fo : ∀ f ∈ fs, FltOk f
theorem Rq {pv k : Int} {i d : Nat} {t n : AF} {pa : List AF} {fs : List (AF × Int)} {b e : List Pt} (h : HA pv i d k t n pa fs b e = 0) : ParOk pv k t n pa fs b e := by
 unfold HA at h
 split at h
 ·cases h
 ·split at h
  ·cases h
  ·split at h
   ·cases h
   ·rename_i hk
    split at h
    ·cases h
    ·rename_i hf
     have hf : Qh pv k t n pa fs b e = false := by simpa using hf
     unfold Qh at hf
     simp only [Bool.or_eq_false_iff, Bool.and_eq_false_iff, decide_eq_false_iff_not, Classical.not_not] at hf
     obtain ⟨⟨⟨⟨⟨f1, f2⟩, f3⟩, f4⟩, f5⟩, f6⟩ := hf
     unfold Fn at h
     split at h
     ·cases h
     ·rename_i hn
      split at h
      ·cases h
      ·simp only [not_or, not_and, Bool.not_eq_false] at hn
       refine ⟨by omega, by omega, ?_, fun h => f2.resolve_left (fun e => h e), fun h => f3.resolve_left (fun e => e h), fun h => f4.resolve_left (fun e => h e), fun h => f5.resolve_left (by omega), fun h => f6.resolve_left (fun e => e h), hn.1, hn.2, Ve h⟩
       by_cases h1 : k = 1 <;> by_cases h2 : t = [] <;> simp [h1, h2] at f1 ⊢
theorem Ot : ∀ l : List Pt, (∀ x ∈ l, ∀ pv i d, (DI pv i d x).2 = 0 → Reads x.b ∧ Reads x.e) → ∀ pv i d, (BW pv i d l).2 = 0 →
  ∀ (z : AF) (m : Nat) (st : Cz), Yz z → (pv = 1 ∨ NoT (E0 st)) → ∃ j, CX (CJ l ++ z) m st = CX z j (B0 (E0 st ++ l) st) := by
 intro l
 induction l with
 | nil => intro _ pv i d _ z m st _ _; exact ⟨m, by rw [List.append_nil, Sy]; rfl⟩
 | cons x r ih =>
  intro hx pv i d h z m st hz hpv
  rw [BW] at h
  split at h
  ·rename_i h1; exact absurd h h1
  ·rename_i h1
   have h1 := Classical.not_not.1 h1
   obtain ⟨hb, he⟩ := hx x List.mem_cons_self pv i d h1
   have ihr := ih (fun y hy => hx y (List.mem_cons_of_mem _ hy)) x.k (DI pv i d x).1 d h
   have h1' := h1
   obtain ⟨k, t, n, pa, fs, b, e⟩ := x
   rw [DI] at h1
   split at h1
   ·rename_i h2; exact absurd h1 h2
   ·rename_i h2
    have P := Rq (Classical.not_not.1 h2)
    simp only [Pt.b, Pt.e] at hb he
    simp only [Pt.k] at ihr
    have hrest : k = 1 → Yz (CJ r ++ z) := by
     intro hk
     cases r with
     | nil => exact hz
     | cons y r =>
      rw [BW] at h
      split at h
      ·rename_i h3; exact absurd h h3
      ·rename_i h3
       have h3 := Classical.not_not.1 h3
       have : y.k ≠ 1 := by
        obtain ⟨k', t', n', pa', fs', b', e'⟩ := y
        rw [DI] at h3
        split at h3
        ·rename_i h4; exact absurd h3 h4
        ·rename_i h4
         exact fun e => (Rq (Classical.not_not.1 h4)).pv e hk
       rw [CJ, List.append_assoc]; exact W3 this _
    suffices hs : ∃ j, CX (U3 (.mk k t n pa fs b e) ++ (CJ r ++ z)) m st = CX (CJ r ++ z) j (B0 (E0 st ++ [.mk k t n pa fs b e]) st) by
     obtain ⟨j, hj⟩ := hs
     obtain ⟨j2, hj2⟩ := ihr z j (B0 (E0 st ++ [.mk k t n pa fs b e]) st) hz (by
      by_cases hk : k = 1
      ·exact .inl hk
      ·refine .inr ?_
       rw [Kz]
       intro y hy
       rw [List.getLast?_append, List.getLast?_singleton, Option.some_or] at hy
       injection hy with hy; subst hy; exact hk)
     rw [Kz, PC] at hj2
     refine ⟨j2, ?_⟩
     rw [CJ, List.append_assoc, hj, hj2, List.append_assoc]; rfl
    generalize CJ r ++ z = q at *
    have hend : ∀ x : Pt, x.k ≠ 1 → DA x st = B0 (E0 st ++ [x]) st := fun x hx => by
     unfold DA; rw [SU (fun e => absurd e hx)]
    rw [U3]
    by_cases hk1 : k = 1
    ·rw [if_pos hk1]
     obtain ⟨j, hj⟩ := run_text t.length t q m st (Nat.le_refl _) (hrest hk1)
     refine ⟨j, ?_⟩
     rw [hj]
     have e1 : (.mk k t n pa fs b e : Pt) = tP t := by
      rw [hk1, P.nm (by omega), P.pt hk1, P.fl (by omega), (P.in_ (by omega)).1, (P.in_ (by omega)).2]; rfl
     rw [e1]
     unfold Ap DA
     rw [if_neg (P.tx.1 hk1), SU fun _ => hpv.resolve_left (P.pv hk1)]
    ·have ht : t = [] := Classical.not_not.1 fun h => hk1 (P.tx.2 h)
     subst ht
     rw [if_neg hk1]
     by_cases hk2 : k = 2
     ·subst hk2
      rw [if_pos rfl]
      rw [P.nm (by decide), (P.in_ (by decide)).1, (P.in_ (by decide)).2]
      obtain ⟨j, hj⟩ := EK (ins := I3 pa ++ fs.flatMap Mq) (q := q) (i := m) (st := st) (by
       intro hm
       rcases List.mem_append.1 hm with hm | hm
       ·exact LN (P.path hk1) (by decide) (by decide) hm
       ·obtain ⟨f, hf, hm⟩ := List.mem_flatMap.1 hm
        rw [Ut] at hm
        rcases List.mem_cons.1 hm with hm | hm
        ·exact absurd hm (by decide)
        ·exact T2 (P.fo f hf) (by decide) (by decide) hm) (st' := DA (.mk 2 [] [] pa fs [] []) st) (by rw [TU (P.path hk1) P.fo]; rfl)
      refine ⟨j, ?_⟩
      rw [← hend _ (by simp [Pt.k]), ← hj]
      simp only [List.append_assoc]
     ·rw [if_neg hk2]
      have hfs : fs = [] := P.fl hk2
      subst hfs
      obtain ⟨ps, sk⟩ := st
      -- what begins it
      obtain ⟨x0, hx0, j1, hj1⟩ : ∃ x0 : Pt, x0 = .mk k [] n pa [] [] [] ∧ ∃ j, CX (((if k = 3 then XO ++ I3 pa ++ clS else KX ++ n ++ Sl ++ I3 pa ++ clS) ++ CJ b ++ (if e = [] then [] else FE ++ CJ e) ++ FX) ++ q) m (ps, sk) =
        CX (CJ b ++ ((if e = [] then [] else FE ++ CJ e) ++ (FX ++ q))) j (ps, (x0, false) :: sk) := by
       refine ⟨_, rfl, ?_⟩
       by_cases hk3 : k = 3
       ·subst hk3
        rw [if_pos rfl, P.nm (by decide)]
        obtain ⟨j, hj⟩ := EK (ins := SJ ++ 32 :: I3 pa) (q := CJ b ++ ((if e = [] then [] else FE ++ CJ e) ++ (FX ++ q))) (i := m) (st := (ps, sk)) (by
         have := LN (P.path hk1) (c := 37) (by decide) (by decide)
         simp only [List.mem_append, List.mem_cons, not_or]; exact ⟨by decide, by decide, this⟩) (st' := (ps, (.mk 3 [] [] pa [] [] [], false) :: sk)) (by rw [YA (P.path hk1)]; rfl)
        refine ⟨j, ?_⟩
        rw [← hj, show XO = opS ++ (SJ ++ [32]) from rfl]
        simp only [List.append_assoc, List.singleton_append, List.cons_append, List.nil_append]
       ·have hk4 : k = 4 := by have := P.k1; have := P.k4; omega
        subst hk4
        rw [if_neg hk3]
        obtain ⟨j, hj⟩ := EK (ins := EI ++ 32 :: (n ++ (Sl ++ I3 pa))) (q := CJ b ++ ((if e = [] then [] else FE ++ CJ e) ++ (FX ++ q))) (i := m) (st := (ps, sk)) (by
         have h1 := LN (P.path hk1) (c := 37) (by decide) (by decide)
         have h2 : (37 : UInt8) ∉ n := H9 (SX (P.id_ rfl)) (by decide)
         simp only [List.mem_append, List.mem_cons, not_or]; exact ⟨by decide, by decide, h2, by decide, h1⟩) (st' := (ps, (.mk 4 [] n pa [] [] [], false) :: sk)) (by rw [Ui (P.id_ rfl) (P.path hk1)]; rfl)
        refine ⟨j, ?_⟩
        rw [← hj, show KX = opS ++ (EI ++ [32]) from rfl]
        simp only [List.append_assoc, List.singleton_append, List.cons_append, List.nil_append]
      rw [hj1]
      have hz1 : Yz ((if e = [] then [] else FE ++ CJ e) ++ (FX ++ q)) := by
       split
       ·exact .inr ⟨_, by rw [show FX = opS ++ (Kt ++ clS) from rfl]; simp only [List.append_assoc]; rfl⟩
       ·exact .inr ⟨_, by rw [show FE = opS ++ (Gu ++ clS) from rfl]; simp only [List.append_assoc]; rfl⟩
      obtain ⟨j2, hj2⟩ := hb _ j1 (ps, (x0, false) :: sk) hz1 (by rw [hx0]; intro y hy; cases hy)
      rw [hj2]
      have ht0 : E0 (ps, (x0, false) :: sk) = [] := by rw [hx0]; rfl
      rw [ht0, List.nil_append]
      have e2 : B0 b (ps, (x0, false) :: sk) = (ps, (.mk k [] n pa [] b [], false) :: sk) := by rw [hx0]; rfl
      rw [e2]
      by_cases hee : e = []
      ·subst hee
       rw [if_pos rfl, List.nil_append]
       obtain ⟨j3, hj3⟩ := EK (ins := Kt) (q := q) (i := j2) (st := (ps, (.mk k [] n pa [] b [], false) :: sk)) (by decide) (st' := DA (.mk k [] n pa [] b []) (ps, sk)) rfl
       refine ⟨j3, ?_⟩
       rw [← hend (.mk k [] n pa [] b []) hk1, ← hj3, show FX = opS ++ (Kt ++ clS) from rfl]
       simp only [List.append_assoc]
      ·rw [if_neg hee]
       obtain ⟨j3, hj3⟩ := EK (ins := Gu) (q := CJ e ++ (FX ++ q)) (i := j2) (st := (ps, (.mk k [] n pa [] b [], false) :: sk)) (by decide) (st' := (ps, (.mk k [] n pa [] b [], true) :: sk)) rfl
       obtain ⟨j4, hj4⟩ := he (FX ++ q) j3 (ps, (.mk k [] n pa [] b [], true) :: sk) (.inr ⟨_, by rw [show FX = opS ++ (Kt ++ clS) from rfl]; simp only [List.append_assoc]; rfl⟩) (by intro y hy; cases hy)
       obtain ⟨j5, hj5⟩ := EK (ins := Kt) (q := q) (i := j4) (st := (ps, (.mk k [] n pa [] b e, true) :: sk)) (by decide) (st' := DA (.mk k [] n pa [] b e) (ps, sk)) rfl
       refine ⟨j5, ?_⟩
       rw [← hend (.mk k [] n pa [] b e) hk1, ← hj5]
       have e4 : B0 (E0 (ps, (.mk k [] n pa [] b [], true) :: sk) ++ e) (ps, (.mk k [] n pa [] b [], true) :: sk) = (ps, (.mk k [] n pa [] b e, true) :: sk) := rfl
       rw [e4] at hj4
       have e5 : FE ++ CJ e ++ (FX ++ q) = opS ++ (Gu ++ (clS ++ (CJ e ++ (FX ++ q)))) := by rw [show FE = opS ++ (Gu ++ clS) from rfl]; simp only [List.append_assoc]
       rw [e5, hj3, hj4, show FX = opS ++ (Kt ++ clS) from rfl]
       simp only [List.append_assoc]
theorem Th (p : Pt) : ∀ pv i d, (DI pv i d p).2 = 0 → Reads p.b ∧ Reads p.e := by
 refine Pt.ind (Q := fun p => ∀ pv i d, (DI pv i d p).2 = 0 → Reads p.b ∧ Reads p.e) ?_ p
 intro k t n pa fs b e hb he pv i d h
 rw [DI] at h
 split at h
 ·rename_i h1; exact absurd h h1
 ·rename_i h1
  split at h
  ·rename_i h2; exact absurd h h2
  ·rename_i h2
   have h2 := Classical.not_not.1 h2
   have h2 : (BW 0 (i + 1) (d + 1) b).2 = 0 := h2
   exact ⟨fun z m st hz hn => Ot b hb 0 _ _ h2 z m st hz (.inr hn), fun z m st hz hn => Ot e he 0 _ _ h z m st hz (.inr hn)⟩
theorem Tn {l : List Pt} (h : (CO l).1 = 0) : Oy (CJ l) = (l, (0, 0)) ∧ CO l = (0, 0) := by
 unfold CO at h
 split at h
 ·rename_i h1; exact absurd h h1
 ·rename_i h1
  split at h
  ·cases h
  ·rename_i h2
   have e : CO l = (0, 0) := by unfold CO; rw [if_neg h1, if_neg h2]
   obtain ⟨j, hj⟩ := Ot l (fun x _ => Th x) 0 0 0 (Classical.not_not.1 h1) [] 0 ([], []) (.inl rfl) (.inr (by intro y hy; cases hy))
   rw [List.append_nil, GY (s := []) (by simp [As, opS])] at hj
   refine ⟨?_, e⟩
   unfold Oy
   rw [if_neg h2, hj]
   have : Ap [] (B0 (E0 ([], []) ++ l) ([], [])) = (l, []) := rfl
   rw [this]
   dsimp only
   rw [if_neg (by simp), e, if_neg (by simp)]
open Go.RowKit
theorem HC (x c : UInt8) (r : AF) : Lib.index (x :: r) [c] = if x = c then 0 else if Lib.index r [c] = -1 then -1 else Lib.index r [c] + 1 := by
 by_cases h : x = c
 ·subst h; rw [Lib.index]; simp [List.isPrefixOf]
 ·have hp : ([c] : List UInt8).isPrefixOf (x :: r) = false := by simp [List.isPrefixOf, Ne.symm h]
  rw [Lib.index, hp, if_neg h]; simp
theorem Te (c : UInt8) : Lib.index [] [c] = -1 := by simp [Lib.index]
theorem OS (c : UInt8) : ∀ s : AF, Lib.splitK [c] 0 (Lib.count s [c]) s = DH c s ∧ Lib.count s [c] + 1 = (DH c s).length
 | [] => by
  have e : Lib.count [] [c] = 0 := by rw [Lib.count_one]; rfl
  rw [e]; exact ⟨rfl, rfl⟩
 | x :: r => by
  obtain ⟨h1, h2⟩ := OS c r
  by_cases hx : x = c
  ·subst hx
   have e : Lib.count (x :: r) [x] = Lib.count r [x] + 1 := by rw [Lib.count_cons_eq, Nat.add_comm]
   rw [e, DH, if_pos rfl, Lib.splitK, HC, if_pos rfl]
   refine ⟨?_, by rw [List.length_cons, h2]⟩
   simpa using h1
  ·have e : Lib.count (x :: r) [c] = Lib.count r [c] := Lib.count_cons_ne _ _ _ hx
   rw [e, DH, if_neg hx]
   obtain ⟨h, t, e3⟩ := List.exists_cons_of_ne_nil (RS c r)
   rw [e3] at h1 h2 ⊢
   refine ⟨?_, h2⟩
   have hge := Lib.index_ge r [c]
   cases hk : Lib.count r [c] with
   | zero =>
    rw [hk] at h1
    simp only [Lib.splitK] at h1 ⊢
    injection h1 with h1 h1'
    subst h1; subst h1'; rfl
   | succ k =>
    rw [hk] at h1
    simp only [Lib.splitK] at h1 ⊢
    rw [HC, if_neg hx]
    by_cases hi : Lib.index r [c] = -1
    ·rw [hi] at h1 ⊢
     simp only [BEq.rfl, if_true] at h1 ⊢
     injection h1 with h1 h1'
     subst h1; subst h1'; rfl
    ·have hn : ¬ (Lib.index r [c] == -1) = true := fun e => hi (beq_iff_eq.1 e)
     rw [if_neg hn] at h1
     rw [if_neg hi]
     have hn2 : ¬ (Lib.index r [c] + 1 == -1) = true := fun e => by have := beq_iff_eq.1 e; omega
     rw [if_neg hn2]
     have e1 : (Lib.index r [c] + 1).toNat = (Lib.index r [c]).toNat + 1 := by omega
     injection h1 with h1 h1'
     rw [e1, ← h1, ← h1']
     have e2 : (Lib.index r [c]).toNat + 1 + [c].length = (Lib.index r [c]).toNat + [c].length + 1 := by omega
     rw [e2]
     rfl
theorem QT (c : UInt8) : ∀ s : AF, Lib.cut s [c] = Bb c s
 | [] => by simp [Lib.cut, Te, Bb]
 | x :: r => by
  have ih := QT c r
  have hge := Lib.index_ge r [c]
  unfold Lib.cut at ih ⊢
  rw [HC, Bb]
  by_cases hx : x = c
  ·rw [if_pos hx, if_pos hx]; simp
  ·rw [if_neg hx, if_neg hx]
   by_cases hi : Lib.index r [c] = -1
   ·rw [if_pos hi, if_neg (by omega)]
    rw [hi, if_neg (by omega)] at ih
    rw [← ih]
   ·rw [if_neg hi, if_pos (by omega)]
    rw [if_pos (by omega)] at ih
    have e1 : (Lib.index r [c] + 1).toNat = (Lib.index r [c]).toNat + 1 := by omega
    have e2 : (Lib.index r [c]).toNat + 1 + [c].length = (Lib.index r [c]).toNat + [c].length + 1 := by omega
    rw [← ih, e1, e2]; rfl
theorem TY (l : List ByteArray) : l.map Value.string = (l.map (·.data.toList)).map fun x => Value.string ⟨x.toArray⟩ := by
 rw [List.map_map]
 exact List.map_congr_left fun x _ => by simp
theorem Fs (s : AF) (c : UInt8) (hs : s.length ≤ 2000000) : APure Tryz.prog 73 [.str s, .str [c]] (DN (DH c s)) := by
 intro n H hH w0 G w vs hl h0 hrep
 cases hrep with | cons h1 h2 =>
 cases h2 with | cons h3 h4 =>
 cases h4; cases h1; cases h3
 rename_i sb hsb cb hcb
 subst hsb
 obtain ⟨m, hm⟩ := (hl.ext h0.ext).len
 have hsz : cb.size = 1 := by rw [Lib.size_eq, hcb]; rfl
 refine (Any.strings_Split Wb (by kernel_rfl) sb cb m w (by rw [Lib.size_eq]; omega) hm (by omega)).mono ?_
 have hcl := Fr c sb.data.toList
 obtain ⟨k1, k2⟩ := OS c sb.data.toList
 have hd := Lib.splitB_data cb 0 (Lib.countB sb cb) sb
 have hcnt : Lib.countB sb cb + 1 = (DH c sb.data.toList).length := by rw [← k2]; unfold Lib.countB; rw [hcb]
 rw [hcb] at hd
 have hcb2 : Lib.countB sb cb = Lib.count sb.data.toList [c] := by unfold Lib.countB; rw [hcb]
 rw [← hcb2] at k1
 rw [k1] at hd
 have hrow := TY (Lib.splitB cb 0 (Lib.countB sb cb) sb)
 rw [hd] at hrow
 rw [hcnt, hrow]
 generalize DH c sb.data.toList = L at *
 rintro e w' ⟨rfl, rfl⟩
 have hrel := h0.newRow (w' := w.alloc (.cells (L.map fun l => Value.string ⟨l.toArray⟩).toArray 9)) (cur := (L.map fun l => Value.string ⟨l.toArray⟩).toArray) (e := 9) (fz := (0, 0)) (vs := L.map fun l => Value.string ⟨l.toArray⟩) (c := none) (ob := none) rfl rfl rfl rfl
  (fun j u hu => by simpa using hu) (fun e' c' hc => by cases hc) (.inl rfl)
 have hle := h0.addLe (L.map fun l => Value.string ⟨l.toArray⟩) none
 have hhi := h0.hi
 refine ⟨_, _, _, n, H, rfl, ⟨rfl, rfl, rfl⟩, .slro (vs := L.map fun l => Value.string ⟨l.toArray⟩) ?_ (Gh.add_sealed _ _ _) ?_ (by simp), hle, Nat.le_refl _, hrel.less h0.lo (by omega) hH ?_⟩
 ·rw [FD]; exact O6 _
 ·refine ⟨by simp, by simp only [maxLen]; omega, by decide, fun x hx => ?_, fun x hx => ?_⟩
  ·obtain ⟨y, _, rfl⟩ := List.mem_map.1 hx; rfl
  ·rw [FD] at hx; obtain ⟨y, _, rfl⟩ := List.mem_map.1 hx; rfl
 ·intro k hk'
  rw [upd_ne (by omega)]
theorem G0 (s p : AF) (hs : s.length ≤ 2000000) : APure Tryz.prog 41 [.str s, .str p] (.tup [.str (Lib.cut s p).1, .str (Lib.cut s p).2.1, .bool (Lib.cut s p).2.2]) := by
 refine EC fun G vs hr => ⟨.tuple #[.string ⟨(Lib.cut s p).1.toArray⟩, .string ⟨(Lib.cut s p).2.1.toArray⟩, .bool (Lib.cut s p).2.2], fun _ => .tup (.cons (.str (by simp)) (.cons (.str (by simp)) (.cons .bool .nil))), fun w hl => ?_⟩
 cases hr with | cons h1 h2 =>
 cases h2 with | cons h3 h4 =>
 cases h4; cases h1; cases h3
 rename_i s1 hs1 s2 hs2
 obtain ⟨m, hm⟩ := hl.len
 have key := Any.strings_Cut W4 s1 s2 m w (by rw [Lib.size_eq, hs1]; omega) hm
 rw [hs1, hs2] at key
 refine key.mono ?_
 rintro e w' ⟨rfl, k, rfl⟩
 have b := Below.refl w.heap.size w
 exact ⟨rfl, ⟨b.os, b.tape, b.output, b.size, b.block⟩⟩
theorem QL (s : AF) (c : UInt8) (hs : s.length ≤ 2000000) : APure Tryz.prog 41 [.str s, .str [c]] (.tup [.str (Bb c s).1, .str (Bb c s).2.1, .bool (Bb c s).2.2]) := by
 have h := G0 s [c] hs
 rw [QT] at h
 exact h
theorem Ha (s p : AF) (hs : s.length ≤ 2000000) : APure Tryz.prog 39 [.str s, .str p] (aI (Lib.index s p)) := by
 refine EC fun G vs hr => ⟨.int .i64 (Lib.index s p), fun _ => .int, fun w hl => ?_⟩
 cases hr with | cons h1 h2 =>
 cases h2 with | cons h3 h4 =>
 cases h4; cases h1; cases h3
 rename_i s1 hs1 s2 hs2
 obtain ⟨m, hm⟩ := hl.len
 have key := Any.strings_Index Wz s1 s2 m w (by rw [Lib.size_eq, hs1]; omega) hm
 rw [hs1, hs2] at key
 refine key.mono ?_
 rintro e w' ⟨rfl, rfl⟩
 exact ⟨rfl, Below.refl _ _⟩
theorem Ob {s : AF} {v : Int} (h : Lib.atoiAll s = .ok v) (hs : s.length ≤ 2000000) : APure Tryz.prog 115 [.str s] (.tup [aI v, .nif]) := by
 refine EC fun G vs hr => ⟨.tuple #[.int .i64 v, .nilIface], fun _ => .tup (.cons .int (.cons .nif .nil)), fun w hl => ?_⟩
 cases hr with | cons h1 h2 =>
 cases h2; cases h1
 rename_i s1 hs1
 refine (Any.strconv_Atoi_ok L7 s1 (by rw [Lib.size_eq, hs1]; omega) v (by rw [hs1]; exact h) w).mono ?_
 rintro e w' ⟨rfl, h2⟩
 refine ⟨rfl, ?_⟩
 rcases h2 with rfl | ⟨t, rfl⟩
 ·exact Below.refl _ _
 ·exact Lib.bytesWorld_below _ _ _
theorem QR {P : Program} {f : Nat} {s : AF} {n : Int} {t : Nat} (h : ∀ (s1 : ByteArray) (w : World), s1.data.toList = s → Laid w → Calls P f #[.string s1] w fun e w' => ∃ N, e = .returned (.tuple #[.int .i64 n, .iface t (.pointer (some ⟨N, 0, none⟩))]) ∧ Below w.heap.size w w') : APure P f [.str s] (.tup [aI n, .ifc t .any]) := by
 intro n0 H hs w0 G w vs hl h0 hrep
 cases hrep with | cons h1 h2 =>
 cases h2; cases h1
 rename_i s1 hs1
 refine (h s1 w hs1 (hl.ext h0.ext)).mono ?_
 rintro e w' ⟨N, rfl, hb⟩
 exact ⟨_, _, G, n0, H, rfl, ⟨rfl, rfl, rfl⟩, .tup (.cons .int (.cons (.ifc .any) .nil)), Gh.Le.rfl_ _, Nat.le_refl _, Jc h0 hb⟩
theorem Pr {s : AF} (h0 : ∀ v, Lib.atoiAll s ≠ .ok v) (h2 : Lib.atoiAll s ≠ .range) (hs : s.length ≤ 2000000) : APure Tryz.prog 115 [.str s] (.tup [aI 0, .ifc 207 .any]) := by
 refine QR fun s1 w hs1 hl => ?_
 obtain ⟨ev, hv, hev⟩ := hl.syn
 refine (Any.strconv_Atoi_syntax L7 s1 (by rw [Lib.size_eq, hs1]; omega) (by rw [hs1]; revert h0 h2; cases Lib.atoiAll s <;> simp) ev w hv hev).mono ?_
 rintro e w' ⟨k, rfl, _, _, hb⟩
 exact ⟨k, rfl, hb⟩
theorem VD {s : AF} (h : Lib.atoiAll s = .range) (hs : s.length ≤ 2000000) : APure Tryz.prog 115 [.str s] (.tup [aI (Lib.atoiSat s), .ifc 207 .any]) := by
 refine QR fun s1 w hs1 hl => ?_
 obtain ⟨ev, hv, hev⟩ := hl.rng
 have key := Any.strconv_Atoi_range L7 s1 (by rw [Lib.size_eq, hs1]; omega) (by rw [hs1]; exact h) ev w hv hev
 rw [hs1] at key
 refine key.mono ?_
 rintro e w' ⟨k, rfl, _, _, hb⟩
 exact ⟨k, rfl, hb⟩
open Go.RowKit
theorem Gb {p : AF} (hp : p ≠ []) : ∀ s : AF, (As p s = none ∧ Lib.index s p = -1) ∨ ∃ a b, As p s = some (a, b) ∧ Lib.index s p = (a.length : Int)
 | [] => .inl ⟨by unfold As; rw [if_neg hp], by unfold Lib.index; cases p with | nil => exact absurd rfl hp | cons _ _ => rfl⟩
 | x :: r => by
  rw [KL, Lib.index]
  by_cases h : p.isPrefixOf (x :: r) = true
  ·rw [if_pos h, if_pos h]; exact .inr ⟨_, _, rfl, rfl⟩
  ·rw [if_neg h, if_neg h]
   rcases Gb hp r with ⟨h1, h2⟩ | ⟨a, b, h1, h2⟩
   ·left; rw [h1, h2]; exact ⟨rfl, rfl⟩
   ·right
    rw [h1, h2]
    refine ⟨x :: a, b, rfl, ?_⟩
    have hn : ¬ ((a.length : Int) == -1) = true := fun e => by have := beq_iff_eq.1 e; omega
    rw [if_neg hn]; simp
theorem PU {p : AF} (hp : p ≠ []) (s : AF) : Lib.cut s p = match As p s with | none => (s, [], false) | some (a, b) => (a, b, true) := by
 unfold Lib.cut
 rcases Gb hp s with ⟨h1, h2⟩ | ⟨a, b, h1, h2⟩
 ·rw [h1, h2, if_neg (by omega)]
 ·rw [h1, h2, if_pos (by omega)]
  have := EX h1
  subst this
  have e : a ++ (p ++ b) = (a ++ p) ++ b := (List.append_assoc _ _ _).symm
  have e2 : ((a.length : Int).toNat + p.length) = (a ++ p).length := by simp
  simp only [Int.toNat_natCast] at e2 ⊢
  rw [e2, List.take_left, e, List.drop_left]
theorem Px : ∀ (n : Nat) (s : AF), s.length < n → Lib.replaceK opS MZ (Lib.countFrom opS n s) s = DJ s
 | 0, _, h => by omega
 | n + 1, s, h => by
  have hp : opS ≠ [] := by decide
  unfold Lib.countFrom
  rcases Gb hp s with ⟨h1, h2⟩ | ⟨a, b, h1, h2⟩
  ·rw [h2]; simp only [BEq.rfl, if_true, Lib.replaceK]; exact (Lv h1).symm
  ·have hn : ¬ (Lib.index s opS == -1) = true := fun e => by have := beq_iff_eq.1 e; omega
   rw [if_neg hn, h2, Nat.add_comm 1, Lib.replaceK_hit _ _ _ _ _ h2]
   have e := EX h1
   have hd : s.drop ((a.length : Int).toNat + opS.length) = b := by
    subst e
    have e2 : ((a.length : Int).toNat + opS.length) = (a ++ opS).length := by simp
    rw [e2, ← List.append_assoc, List.drop_left]
   have ht : s.take a.length = a := by subst e; rw [List.take_left]
   have hd' : s.drop (a.length + opS.length) = b := by simpa using hd
   rw [hd, ht, hd', Px n b (by have := Co h1; simp [opS] at this; omega), L8 h1, List.append_assoc]
theorem Vx (s : AF) : Lib.replaceAll s opS MZ = DJ s := by
 unfold Lib.replaceAll Lib.replace
 rw [if_neg (by decide)]
 unfold Lib.replaceNum
 rw [if_pos (by omega)]
 exact Px _ s (by omega)
theorem XU (s : AF) (hs : s.length ≤ 2000000) : APure Tryz.prog 63 [.str s, .str opS, .str MZ] (.str (DJ s)) := by
 refine EC fun G vs hr => ⟨.string ⟨(DJ s).toArray⟩, fun _ => .str (by simp), fun w hl => ?_⟩
 cases hr with | cons h1 h2 =>
 cases h2 with | cons h3 h4 =>
 cases h4 with | cons h5 h6 =>
 cases h6; cases h1; cases h3; cases h5
 rename_i s1 hs1 s2 hs2 s3 hs3
 obtain ⟨m, hm⟩ := hl.len
 have z2 : s2.size = 2 := by rw [Lib.size_eq, hs2]; rfl
 have z3 : s3.size = 8 := by rw [Lib.size_eq, hs3]; rfl
 have z1 : s1.size = s.length := by rw [Lib.size_eq, hs1]
 have hc := Lib.countB_mul_le s2 (by omega) s1.size s1 (Nat.le_refl _)
 have key := Any.strings_ReplaceAll X3 HW s1 s2 s3 m w (by omega) hm (by omega) (by rw [z3]; rw [z2] at hc; omega)
 rw [hs1, hs2, hs3, Vx] at key
 refine key.mono ?_
 rintro e w' ⟨rfl, hb⟩
 exact ⟨rfl, hb⟩
theorem WL (s : AF) (hs : s.length ≤ 2000000) (ha : ∀ b ∈ s, b.toNat < 128) : APure Tryz.prog 171 [.str s] (aI s.length) := by
 refine EC fun G vs hr => ⟨.int .i64 s.length, fun _ => .int, fun w hl => ?_⟩
 cases hr with | cons h1 h2 =>
 cases h2; cases h1
 rename_i s1 hs1
 refine (Any.utf8_RuneCountInString_ascii WN s1 w (by rw [Lib.size_eq, hs1]; omega) (fun j b hj => ha b (by rw [← hs1]; exact List.mem_of_getElem? hj))).mono ?_
 rintro e w' ⟨rfl, rfl⟩
 refine ⟨by rw [Lib.size_eq, hs1], ?_⟩
 have b := Below.refl w.heap.size w
 refine ⟨b.os, b.tape, b.output, ?_, fun j hj => ?_⟩
 ·simp [World.iter]
 ·simp only [World.iter]
  first | exact heap_alloc_old w _ hj | exact Go.heap_alloc_old w _ j hj
end Go.Proofs.YtnfjgphfaemjcaaGreatDoor
