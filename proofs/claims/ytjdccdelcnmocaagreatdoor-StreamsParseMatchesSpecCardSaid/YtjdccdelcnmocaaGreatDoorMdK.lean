/- That the library texts at this seat are those that the contracts of the shelf speak of; no condition. -/
import Derived.Shelf.Strings.Fields
import Derived.Shelf.Strconv.Itoa3
import Derived.Shelf.Strings.OnBuilder
import Derived.Test.YtjdccdelcnmocaaGreatDoorProg
import Derived.Shelf.Strconv.AtoiAll
import Derived.Test.YtjdccdelcnmocaaGreatDoorMgA
import Derived.Test.YtjdccdelcnmocaaGreatDoorMgJ
import Derived.Test.YtjdccdelcnmocaaGreatDoorAdE
import Derived.Lib.AppendIntMem
import Derived.Lib.AtoiAllCases
import Derived.Lib.ItoaLen
import Derived.Lib.Split
import Derived.Lib.SplitLaws
set_option linter.all false
set_option linter.unusedSimpArgs false
set_option linter.unusedVariables false
set_option maxHeartbeats 16000000
namespace Go.Proofs.YtjdccdelcnmocaaGreatDoor
open Go.Shelf
def Qx : Go.Shelf.Ren := ⟨fun | 171 => 120 | 243 => 140 | 246 => 149 | 283 => 155 | 284 => 156 | 285 => 157 | 286 => 158 | 129 => 167 | 317 => 166 | 318 => 168 | 319 => 169 | 320 => 170 | 337 => 174 | 338 => 175 | n => n, fun | 3 => 3 | 9 => 9 | 2 => 2 | 4 => 4 | 171 => 159 | 0 => 0 | 53 => 160 | 37 => 127 | 5 => 5 | 173 => 163 | 212 => 184 | 51 => 156 | 20 => 20 | 213 => 185 | 46 => 186 | 232 => 201 | 233 => 202 | n => n, fun | 17 => 3 | 18 => 6 | 19 => 7 | n => n⟩
theorem XG : Go.Proofs.LaysM.n171 Tryz.prog Qx := {
 mixed := by kernel_rfl
 f129 := Tryz.func167.trans (congrArg some (by kernel_rfl))
 f171 := Tryz.func120.trans (congrArg some (by kernel_rfl))
 f243 := Tryz.func140.trans (congrArg some (by kernel_rfl))
 f246 := Tryz.func149.trans (congrArg some (by kernel_rfl))
 f283 := Tryz.func155.trans (congrArg some (by kernel_rfl))
 f284 := Tryz.func156.trans (congrArg some (by kernel_rfl))
 f285 := Tryz.func157.trans (congrArg some (by kernel_rfl))
 f286 := Tryz.func158.trans (congrArg some (by kernel_rfl))
 f317 := Tryz.func166.trans (congrArg some (by kernel_rfl))
 f318 := Tryz.func168.trans (congrArg some (by kernel_rfl))
 f319 := Tryz.func169.trans (congrArg some (by kernel_rfl))
 f320 := Tryz.func170.trans (congrArg some (by kernel_rfl))
 f337 := Tryz.func174.trans (congrArg some (by kernel_rfl))
 f338 := Tryz.func175.trans (congrArg some (by kernel_rfl))
 t0 := Tryz.underlying0
 a0 := Tryz.isAgg0
 z0 := Tryz.sizeOf0
 v0 := Tryz.zeroValue0
 t2 := Tryz.underlying2
 a2 := Tryz.isAgg2
 z2 := Tryz.sizeOf2
 v2 := Tryz.zeroValue2
 t3 := Tryz.underlying3
 a3 := Tryz.isAgg3
 z3 := Tryz.sizeOf3
 v3 := Tryz.zeroValue3
 t4 := Tryz.underlying4
 a4 := Tryz.isAgg4
 z4 := Tryz.sizeOf4
 v4 := Tryz.zeroValue4
 t5 := Tryz.underlying5
 a5 := Tryz.isAgg5
 z5 := Tryz.sizeOf5
 v5 := Tryz.zeroValue5
 t9 := Tryz.underlying9
 a9 := Tryz.isAgg9
 z9 := Tryz.sizeOf9
 v9 := Tryz.zeroValue9
 t20 := Tryz.underlying20
 a20 := Tryz.isAgg20
 z20 := Tryz.sizeOf20
 v20 := Tryz.zeroValue20
 t37 := Tryz.underlying127
 a37 := Tryz.isAgg127
 z37 := Tryz.sizeOf127
 v37 := Tryz.zeroValue127
 t46 := Tryz.underlying186
 a46 := Tryz.isAgg186
 z46 := Tryz.sizeOf186
 v46 := Tryz.zeroValue186
 t51 := Tryz.underlying156
 a51 := Tryz.isAgg156
 z51 := Tryz.sizeOf156
 v51 := Tryz.zeroValue156
 t53 := Tryz.underlying160
 a53 := Tryz.isAgg160
 z53 := Tryz.sizeOf160
 v53 := Tryz.zeroValue160
 t171 := Tryz.underlying159
 a171 := Tryz.isAgg159
 z171 := Tryz.sizeOf159
 v171 := Tryz.zeroValue159
 t173 := Tryz.underlying163
 a173 := Tryz.isAgg163
 z173 := Tryz.sizeOf163
 v173 := Tryz.zeroValue163
 t212 := Tryz.underlying184
 a212 := Tryz.isAgg184
 z212 := Tryz.sizeOf184
 v212 := Tryz.zeroValue184
 t213 := Tryz.underlying185
 a213 := Tryz.isAgg185
 z213 := Tryz.sizeOf185
 t232 := Tryz.underlying201
 a232 := Tryz.isAgg201
 z232 := Tryz.sizeOf201
 v232 := Tryz.zeroValue201
 t233 := Tryz.underlying202
 a233 := Tryz.isAgg202
 z233 := Tryz.sizeOf202
 v233 := Tryz.zeroValue202
 g17 := by kernel_rfl
 g18 := by kernel_rfl
 g19 := by kernel_rfl
 i0 := by kernel_rfl
 i2 := by kernel_rfl
 i3 := by kernel_rfl
 i4 := by kernel_rfl
 i5 := by kernel_rfl
 i9 := by kernel_rfl
 i20 := by kernel_rfl
 i37 := by kernel_rfl
 i46 := by kernel_rfl
 i51 := by kernel_rfl
 i53 := by kernel_rfl
 i171 := by kernel_rfl
 i173 := by kernel_rfl
 i212 := by kernel_rfl
 i232 := by kernel_rfl
 i233 := by kernel_rfl
 m17 := by kernel_rfl
 m18 := by kernel_rfl
 m19 := by kernel_rfl }
def Nc : Go.Shelf.Ren := ⟨fun | 156 => 83 | 165 => 121 | 166 => 122 | 169 => 123 | 240 => 141 | 241 => 142 | 276 => 150 | 277 => 151 | n => n, fun | 31 => 87 | 9 => 9 | 3 => 3 | 4 => 4 | 0 => 0 | 20 => 20 | 72 => 129 | 76 => 133 | 70 => 126 | 37 => 127 | 75 => 132 | 127 => 143 | 164 => 149 | 5 => 5 | 80 => 112 | n => n, fun | n => n⟩
theorem UA : Go.Proofs.Lays.n156 Tryz.prog Nc := {
 mixed := by kernel_rfl
 f156 := Tryz.func83.trans (congrArg some (by kernel_rfl))
 f165 := Tryz.func121.trans (congrArg some (by kernel_rfl))
 f166 := Tryz.func122.trans (congrArg some (by kernel_rfl))
 f169 := Tryz.func123.trans (congrArg some (by kernel_rfl))
 f240 := Tryz.func141.trans (congrArg some (by kernel_rfl))
 f241 := Tryz.func142.trans (congrArg some (by kernel_rfl))
 f276 := Tryz.func150.trans (congrArg some (by kernel_rfl))
 f277 := Tryz.func151.trans (congrArg some (by kernel_rfl))
 t0 := Tryz.underlying0
 a0 := Tryz.isAgg0
 z0 := Tryz.sizeOf0
 v0 := Tryz.zeroValue0
 t3 := Tryz.underlying3
 a3 := Tryz.isAgg3
 z3 := Tryz.sizeOf3
 v3 := Tryz.zeroValue3
 t4 := Tryz.underlying4
 a4 := Tryz.isAgg4
 z4 := Tryz.sizeOf4
 v4 := Tryz.zeroValue4
 t9 := Tryz.underlying9
 a9 := Tryz.isAgg9
 z9 := Tryz.sizeOf9
 v9 := Tryz.zeroValue9
 t20 := Tryz.underlying20
 a20 := Tryz.isAgg20
 z20 := Tryz.sizeOf20
 v20 := Tryz.zeroValue20
 t31 := Tryz.underlying87
 a31 := Tryz.isAgg87
 z31 := Tryz.sizeOf87
 v31 := Tryz.zeroValue87
 t37 := Tryz.underlying127
 a37 := Tryz.isAgg127
 z37 := Tryz.sizeOf127
 v37 := Tryz.zeroValue127
 t70 := Tryz.underlying126
 a70 := Tryz.isAgg126
 z70 := Tryz.sizeOf126
 v70 := Tryz.zeroValue126
 t72 := Tryz.underlying129
 a72 := Tryz.isAgg129
 z72 := Tryz.sizeOf129
 v72 := Tryz.zeroValue129
 t75 := Tryz.underlying132
 a75 := Tryz.isAgg132
 z75 := Tryz.sizeOf132
 v75 := Tryz.zeroValue132
 t76 := Tryz.underlying133
 a76 := Tryz.isAgg133
 z76 := Tryz.sizeOf133
 v76 := Tryz.zeroValue133
 t127 := Tryz.underlying143
 a127 := Tryz.isAgg143
 z127 := Tryz.sizeOf143
 v127 := Tryz.zeroValue143
 t164 := Tryz.underlying149
 a164 := Tryz.isAgg149
 z164 := Tryz.sizeOf149
 v164 := Tryz.zeroValue149 }
theorem G5 : Builder.Extra Tryz.prog Nc := {
 sizeBuilder := by kernel_rfl
 liesBuilder := by kernel_rfl
 t5 := Tryz.underlying5
 a5 := Tryz.isAgg5
 z5 := Tryz.sizeOf5
 v5 := Tryz.zeroValue5
 infoByte := by kernel_rfl
 cellsByte := by kernel_rfl
 sizeByte := by kernel_rfl
 neB5 := by decide }
def Rt : Go.Shelf.Ren := ⟨fun | 157 => 139 | 229 => 147 | 199 => 148 | 261 => 154 | 311 => 164 | 312 => 165 | n => n, fun | 9 => 9 | 31 => 87 | 3 => 3 | 5 => 5 | 4 => 4 | 119 => 145 | 0 => 0 | 40 => 147 | 152 => 153 | 21 => 21 | 154 => 155 | 51 => 156 | 141 => 158 | 196 => 174 | 193 => 171 | 198 => 177 | 49 => 175 | 194 => 172 | 201 => 180 | 226 => 194 | 46 => 186 | 227 => 195 | n => n, fun | 0 => 0 | 6 => 1 | n => n⟩
theorem Xb : Go.Proofs.Lays.n157 Tryz.prog Rt := {
 mixed := by kernel_rfl
 f157 := Tryz.func139.trans (congrArg some (by kernel_rfl))
 f199 := Tryz.func148.trans (congrArg some (by kernel_rfl))
 f229 := Tryz.func147.trans (congrArg some (by kernel_rfl))
 f261 := Tryz.func154.trans (congrArg some (by kernel_rfl))
 f311 := Tryz.func164.trans (congrArg some (by kernel_rfl))
 f312 := Tryz.func165.trans (congrArg some (by kernel_rfl))
 t0 := Tryz.underlying0
 a0 := Tryz.isAgg0
 z0 := Tryz.sizeOf0
 v0 := Tryz.zeroValue0
 t3 := Tryz.underlying3
 a3 := Tryz.isAgg3
 z3 := Tryz.sizeOf3
 v3 := Tryz.zeroValue3
 t4 := Tryz.underlying4
 a4 := Tryz.isAgg4
 z4 := Tryz.sizeOf4
 v4 := Tryz.zeroValue4
 t5 := Tryz.underlying5
 a5 := Tryz.isAgg5
 z5 := Tryz.sizeOf5
 v5 := Tryz.zeroValue5
 t9 := Tryz.underlying9
 a9 := Tryz.isAgg9
 z9 := Tryz.sizeOf9
 v9 := Tryz.zeroValue9
 t21 := Tryz.underlying21
 a21 := Tryz.isAgg21
 z21 := Tryz.sizeOf21
 v21 := Tryz.zeroValue21
 t31 := Tryz.underlying87
 a31 := Tryz.isAgg87
 z31 := Tryz.sizeOf87
 v31 := Tryz.zeroValue87
 t40 := Tryz.underlying147
 a40 := Tryz.isAgg147
 z40 := Tryz.sizeOf147
 v40 := Tryz.zeroValue147
 t46 := Tryz.underlying186
 a46 := Tryz.isAgg186
 z46 := Tryz.sizeOf186
 v46 := Tryz.zeroValue186
 t49 := Tryz.underlying175
 a49 := Tryz.isAgg175
 z49 := Tryz.sizeOf175
 v49 := Tryz.zeroValue175
 t51 := Tryz.underlying156
 a51 := Tryz.isAgg156
 z51 := Tryz.sizeOf156
 v51 := Tryz.zeroValue156
 t119 := Tryz.underlying145
 a119 := Tryz.isAgg145
 z119 := Tryz.sizeOf145
 t141 := Tryz.underlying158
 a141 := Tryz.isAgg158
 z141 := Tryz.sizeOf158
 v141 := Tryz.zeroValue158
 t152 := Tryz.underlying153
 a152 := Tryz.isAgg153
 z152 := Tryz.sizeOf153
 v152 := Tryz.zeroValue153
 t154 := Tryz.underlying155
 a154 := Tryz.isAgg155
 z154 := Tryz.sizeOf155
 v154 := Tryz.zeroValue155
 t193 := Tryz.underlying171
 a193 := Tryz.isAgg171
 z193 := Tryz.sizeOf171
 v193 := Tryz.zeroValue171
 t194 := Tryz.underlying172
 a194 := Tryz.isAgg172
 z194 := Tryz.sizeOf172
 v194 := Tryz.zeroValue172
 t196 := Tryz.underlying174
 a196 := Tryz.isAgg174
 z196 := Tryz.sizeOf174
 v196 := Tryz.zeroValue174
 t198 := Tryz.underlying177
 a198 := Tryz.isAgg177
 z198 := Tryz.sizeOf177
 v198 := Tryz.zeroValue177
 t201 := Tryz.underlying180
 a201 := Tryz.isAgg180
 z201 := Tryz.sizeOf180
 v201 := Tryz.zeroValue180
 t226 := Tryz.underlying194
 a226 := Tryz.isAgg194
 z226 := Tryz.sizeOf194
 v226 := Tryz.zeroValue194
 t227 := Tryz.underlying195
 a227 := Tryz.isAgg195
 z227 := Tryz.sizeOf195
 v227 := Tryz.zeroValue195
 g0 := by kernel_rfl
 g6 := by kernel_rfl }
open Go.Shelf
def Qo : Go.Shelf.Ren := ⟨fun | 172 => 144 | 244 => 152 | 245 => 153 | 247 => 159 | 279 => 160 | 280 => 161 | 281 => 162 | 282 => 163 | 287 => 171 | 316 => 172 | 171 => 120 | 205 => 173 | 321 => 176 | 322 => 177 | 243 => 140 | 246 => 149 | 283 => 155 | 284 => 156 | 285 => 157 | 286 => 158 | 129 => 167 | 317 => 166 | 318 => 168 | 319 => 169 | 320 => 170 | 337 => 174 | 338 => 175 | n => n, fun | 9 => 9 | 3 => 3 | 75 => 132 | 76 => 133 | 4 => 4 | 5 => 5 | 167 => 165 | 37 => 127 | 0 => 0 | 85 => 166 | 2 => 2 | 168 => 168 | 53 => 160 | 175 => 188 | 46 => 186 | 210 => 192 | 127 => 143 | 145 => 200 | 143 => 198 | 21 => 21 | 171 => 159 | 173 => 163 | 212 => 184 | 51 => 156 | 20 => 20 | 213 => 185 | 232 => 201 | 233 => 202 | 80 => 112 | n => n, fun | 15 => 4 | 16 => 5 | 17 => 3 | 18 => 6 | 19 => 7 | n => n⟩
theorem OH : Go.Proofs.LaysC.n172 Tryz.prog Qo := {
 mixed := by kernel_rfl
 f129 := Tryz.func167.trans (congrArg some (by kernel_rfl))
 f171 := Tryz.func120.trans (congrArg some (by kernel_rfl))
 f172 := Tryz.func144.trans (congrArg some (by kernel_rfl))
 f205 := Tryz.func173.trans (congrArg some (by kernel_rfl))
 f243 := Tryz.func140.trans (congrArg some (by kernel_rfl))
 f244 := Tryz.func152.trans (congrArg some (by kernel_rfl))
 f245 := Tryz.func153.trans (congrArg some (by kernel_rfl))
 f246 := Tryz.func149.trans (congrArg some (by kernel_rfl))
 f247 := Tryz.func159.trans (congrArg some (by kernel_rfl))
 f279 := Tryz.func160.trans (congrArg some (by kernel_rfl))
 f280 := Tryz.func161.trans (congrArg some (by kernel_rfl))
 f281 := Tryz.func162.trans (congrArg some (by kernel_rfl))
 f282 := Tryz.func163.trans (congrArg some (by kernel_rfl))
 f283 := Tryz.func155.trans (congrArg some (by kernel_rfl))
 f284 := Tryz.func156.trans (congrArg some (by kernel_rfl))
 f285 := Tryz.func157.trans (congrArg some (by kernel_rfl))
 f286 := Tryz.func158.trans (congrArg some (by kernel_rfl))
 f287 := Tryz.func171.trans (congrArg some (by kernel_rfl))
 f316 := Tryz.func172.trans (congrArg some (by kernel_rfl))
 f317 := Tryz.func166.trans (congrArg some (by kernel_rfl))
 f318 := Tryz.func168.trans (congrArg some (by kernel_rfl))
 f319 := Tryz.func169.trans (congrArg some (by kernel_rfl))
 f320 := Tryz.func170.trans (congrArg some (by kernel_rfl))
 f321 := Tryz.func176.trans (congrArg some (by kernel_rfl))
 f322 := Tryz.func177.trans (congrArg some (by kernel_rfl))
 f337 := Tryz.func174.trans (congrArg some (by kernel_rfl))
 f338 := Tryz.func175.trans (congrArg some (by kernel_rfl))
 t0 := Tryz.underlying0
 a0 := Tryz.isAgg0
 z0 := Tryz.sizeOf0
 v0 := Tryz.zeroValue0
 t2 := Tryz.underlying2
 a2 := Tryz.isAgg2
 z2 := Tryz.sizeOf2
 v2 := Tryz.zeroValue2
 t3 := Tryz.underlying3
 a3 := Tryz.isAgg3
 z3 := Tryz.sizeOf3
 v3 := Tryz.zeroValue3
 t4 := Tryz.underlying4
 a4 := Tryz.isAgg4
 z4 := Tryz.sizeOf4
 v4 := Tryz.zeroValue4
 t5 := Tryz.underlying5
 a5 := Tryz.isAgg5
 z5 := Tryz.sizeOf5
 v5 := Tryz.zeroValue5
 t9 := Tryz.underlying9
 a9 := Tryz.isAgg9
 z9 := Tryz.sizeOf9
 v9 := Tryz.zeroValue9
 t20 := Tryz.underlying20
 a20 := Tryz.isAgg20
 z20 := Tryz.sizeOf20
 v20 := Tryz.zeroValue20
 t21 := Tryz.underlying21
 a21 := Tryz.isAgg21
 z21 := Tryz.sizeOf21
 v21 := Tryz.zeroValue21
 t37 := Tryz.underlying127
 a37 := Tryz.isAgg127
 z37 := Tryz.sizeOf127
 v37 := Tryz.zeroValue127
 t46 := Tryz.underlying186
 a46 := Tryz.isAgg186
 z46 := Tryz.sizeOf186
 v46 := Tryz.zeroValue186
 t51 := Tryz.underlying156
 a51 := Tryz.isAgg156
 z51 := Tryz.sizeOf156
 v51 := Tryz.zeroValue156
 t53 := Tryz.underlying160
 a53 := Tryz.isAgg160
 z53 := Tryz.sizeOf160
 v53 := Tryz.zeroValue160
 t75 := Tryz.underlying132
 a75 := Tryz.isAgg132
 z75 := Tryz.sizeOf132
 v75 := Tryz.zeroValue132
 t76 := Tryz.underlying133
 a76 := Tryz.isAgg133
 z76 := Tryz.sizeOf133
 v76 := Tryz.zeroValue133
 t85 := Tryz.underlying166
 a85 := Tryz.isAgg166
 z85 := Tryz.sizeOf166
 v85 := Tryz.zeroValue166
 t127 := Tryz.underlying143
 a127 := Tryz.isAgg143
 z127 := Tryz.sizeOf143
 v127 := Tryz.zeroValue143
 t143 := Tryz.underlying198
 a143 := Tryz.isAgg198
 z143 := Tryz.sizeOf198
 v143 := Tryz.zeroValue198
 t145 := Tryz.underlying200
 a145 := Tryz.isAgg200
 z145 := Tryz.sizeOf200
 v145 := Tryz.zeroValue200
 t167 := Tryz.underlying165
 a167 := Tryz.isAgg165
 z167 := Tryz.sizeOf165
 v167 := Tryz.zeroValue165
 t168 := Tryz.underlying168
 a168 := Tryz.isAgg168
 z168 := Tryz.sizeOf168
 v168 := Tryz.zeroValue168
 t171 := Tryz.underlying159
 a171 := Tryz.isAgg159
 z171 := Tryz.sizeOf159
 v171 := Tryz.zeroValue159
 t173 := Tryz.underlying163
 a173 := Tryz.isAgg163
 z173 := Tryz.sizeOf163
 v173 := Tryz.zeroValue163
 t175 := Tryz.underlying188
 a175 := Tryz.isAgg188
 z175 := Tryz.sizeOf188
 v175 := Tryz.zeroValue188
 t210 := Tryz.underlying192
 a210 := Tryz.isAgg192
 z210 := Tryz.sizeOf192
 v210 := Tryz.zeroValue192
 t212 := Tryz.underlying184
 a212 := Tryz.isAgg184
 z212 := Tryz.sizeOf184
 v212 := Tryz.zeroValue184
 t213 := Tryz.underlying185
 a213 := Tryz.isAgg185
 z213 := Tryz.sizeOf185
 t232 := Tryz.underlying201
 a232 := Tryz.isAgg201
 z232 := Tryz.sizeOf201
 v232 := Tryz.zeroValue201
 t233 := Tryz.underlying202
 a233 := Tryz.isAgg202
 z233 := Tryz.sizeOf202
 v233 := Tryz.zeroValue202
 g15 := by kernel_rfl
 g16 := by kernel_rfl
 g17 := by kernel_rfl
 g18 := by kernel_rfl
 g19 := by kernel_rfl
 t80 := Tryz.underlying112
 a80 := Tryz.isAgg112
 z80 := Tryz.sizeOf112
 v80 := Tryz.zeroValue112
 i0 := by kernel_rfl
 i2 := by kernel_rfl
 i3 := by kernel_rfl
 i4 := by kernel_rfl
 i5 := by kernel_rfl
 i9 := by kernel_rfl
 i20 := by kernel_rfl
 i21 := by kernel_rfl
 i37 := by kernel_rfl
 i46 := by kernel_rfl
 i51 := by kernel_rfl
 i53 := by kernel_rfl
 i75 := by kernel_rfl
 i76 := by kernel_rfl
 i80 := by kernel_rfl
 i85 := by kernel_rfl
 i127 := by kernel_rfl
 i143 := by kernel_rfl
 i145 := by kernel_rfl
 i167 := by kernel_rfl
 i168 := by kernel_rfl
 i171 := by kernel_rfl
 i173 := by kernel_rfl
 i175 := by kernel_rfl
 i210 := by kernel_rfl
 i212 := by kernel_rfl
 i232 := by kernel_rfl
 i233 := by kernel_rfl
 m15 := by kernel_rfl
 m16 := by kernel_rfl
 m17 := by kernel_rfl
 m18 := by kernel_rfl
 m19 := by kernel_rfl
 c0 := by kernel_rfl
 c2 := by kernel_rfl
 c3 := by kernel_rfl
 c4 := by kernel_rfl
 c5 := by kernel_rfl
 c9 := by kernel_rfl
 c20 := by kernel_rfl
 c21 := by kernel_rfl
 c37 := by kernel_rfl
 c46 := by kernel_rfl
 c51 := by kernel_rfl
 c53 := by kernel_rfl
 c75 := by kernel_rfl
 c76 := by kernel_rfl
 c80 := by kernel_rfl
 c85 := by kernel_rfl
 c127 := by kernel_rfl
 c143 := by kernel_rfl
 c145 := by kernel_rfl
 c167 := by kernel_rfl
 c168 := by kernel_rfl
 c171 := by kernel_rfl
 c173 := by kernel_rfl
 c175 := by kernel_rfl
 c210 := by kernel_rfl
 c212 := by kernel_rfl
 c213 := by kernel_rfl
 c232 := by kernel_rfl
 c233 := by kernel_rfl }
abbrev AW := List UInt8
abbrev aI (n : Int) : AV := .int .i64 n
abbrev aF (f : Int × Int) : AV := .agg [.int .i64 f.1, .int .i64 f.2]
abbrev P3 (l : List Int) : AV := .sl 1 (l.map aI) .ro
inductive St where
 | mk (k o n : Int) (v : List Int) (p : List St)
def St.k : St → Int | .mk k _ _ _ _ => k
def St.o : St → Int | .mk _ o _ _ _ => o
def St.n : St → Int | .mk _ _ n _ _ => n
def St.v : St → List Int | .mk _ _ _ v _ => v
def St.p : St → List St | .mk _ _ _ _ p => p
mutual
theorem St.ind {Q : St → Prop} (h : ∀ k o n v p, (∀ s ∈ p, Q s) → Q (.mk k o n v p)) : ∀ s, Q s
 | .mk k o n v p => h k o n v p (St.indL h p)
theorem St.indL {Q : St → Prop} (h : ∀ k o n v p, (∀ s ∈ p, Q s) → Q (.mk k o n v p)) : ∀ p : List St, ∀ s ∈ p, Q s
 | [], s, hs => by cases hs
 | x :: r, s, hs => by
  rcases List.mem_cons.1 hs with e | hs
  ·rw [e]; exact St.ind h x
  ·exact St.indL h r s hs
end
mutual
def encS : St → AV
 | .mk k o n v p => .agg [aI k, aI o, aI n, P3 v, .sl 5 (Ae p) .ro]
def Ae : List St → List AV
 | [] => []
 | s :: r => encS s :: Ae r
end
theorem OI : ∀ p : List St, Ae p = p.map encS
 | [] => by simp [Ae]
 | s :: r => by simp [Ae, OI r]
mutual
def Bh : St → Nat
 | .mk _ _ _ _ p => C2 p + 1
def C2 : List St → Nat
 | [] => 0
 | s :: r => Bh s + C2 r
end
theorem Wi (s : St) : 0 < Bh s := by cases s; simp [Bh]
def Bt (k : Int) : Bool := decide (k = 1) || decide (k = 2)
def ET (k : Int) : Bool := decide (k = 13) || decide (k = 14)
def G9 (k : Int) : Bool := decide (k = 15) || decide (k = 16)
def IG (k : Int) : Bool := decide (k = 3) || decide (k = 9) || decide (k = 10) || decide (k = 15)
def CP (k : Int) : Bool := decide (k = 4) || decide (k = 7) || decide (k = 8)
def F4 (k : Int) : Bool := decide (k = 5) || decide (k = 6) || decide (k = 12)
def O6 (k : Int) : Bool := (IG k && decide (k ≠ 15)) || CP k || F4 k
def TI (k o : Int) : Int := if k = 10 then 1 else if (k = 3 ∧ o = 6) ∨ (CP k = true ∧ o = 3) then 1 else 0
def TU (k : Int) : Int := if k = 12 then 20 else if k = 5 ∨ k = 6 then 5000 else if k = 10 then 8 else 9999
def Fg (k : Int) (i : Nat) (x : Int) : Bool := decide ((if k = 2 ∧ i = 2 then 1 else 0) ≤ x) && decide (x ≤ if k = 2 ∧ i = 1 then 10000 else 9999)
def BE (k : Int) : Nat → List Int → Bool
 | _, [] => true
 | i, x :: r => Fg k i x && BE k (i + 1) r
def Bo : St → Int
 | .mk k o n v p =>
  if ¬ (1 ≤ k ∧ k ≤ 16) then 5
  else if (Bt k = true ∧ p.length ≠ 0) ∨ (ET k = true ∧ p.length = 0) ∨ (G9 k = true ∧ p.length ≠ 2) ∨ (Bt k = false ∧ ET k = false ∧ G9 k = false ∧ p.length ≠ 1) ∨ (k = 2 ∧ v.length ≠ 3) then 9
  else if (Bt k = false ∧ v.length ≠ 0) ∨ (O6 k = false ∧ n ≠ 0) ∨ (IG k = false ∧ CP k = false ∧ o ≠ 0) then 6
  else if (IG k = true ∧ ¬ (1 ≤ o ∧ o ≤ 5) ∧ ¬ (k = 3 ∧ o = 6)) ∨ (CP k = true ∧ ¬ (1 ≤ o ∧ o ≤ 3)) then 4
  else if O6 k = true ∧ ¬ (TI k o ≤ n ∧ n ≤ TU k) then 4
  else if BE k 0 v = true then 0 else 4
mutual
def EB : St → Nat → Nat × Int
 | .mk k o n v p, i => if 60 ≤ i then (i, 2) else if Bo (.mk k o n v p) ≠ 0 then (i, Bo (.mk k o n v p)) else J6 p (i + 1)
def J6 : List St → Nat → Nat × Int
 | [], i => (i, 0)
 | s :: r, i => if (EB s i).2 ≠ 0 then EB s i else J6 r (EB s i).1
end
def GS : List Int → Nat
 | a :: b :: c :: _ => ((b - a + c - 1) / c).toNat
 | _ => 0
def Ct (k n : Int) (v : List Int) (bs : List Nat) : Nat :=
 if k = 1 then v.length else if k = 2 then GS v else if k = 5 then min n.toNat (bs.getD 0 0) else if k = 12 then n.toNat * bs.getD 0 0 else if k = 15 then min (bs.getD 0 0) (bs.getD 1 0) else bs.sum
mutual
def Ac : St → Nat
 | .mk k _ n v p => Ct k n v (Nl p)
def Nl : List St → List Nat
 | [] => []
 | s :: r => Ac s :: Nl r
end
theorem GV : ∀ p : List St, Nl p = p.map Ac
 | [] => by simp [Nl]
 | s :: r => by simp [Nl, GV r]
mutual
def EC : St → Nat → Nat × Int
 | .mk k o n v p, i => ((Fx p (i + 1)).1, if 5000 < Ac (.mk k o n v p) then (i : Int) else (Fx p (i + 1)).2)
def Fx : List St → Nat → Nat × Int
 | [], i => (i, -1)
 | s :: r, i => ((Fx r (EC s i).1).1, if (EC s i).2 < 0 then (Fx r (EC s i).1).2 else (EC s i).2)
end
def Cl (s : St) : Int × Int := if (EB s 0).2 ≠ 0 then ((EB s 0).2, ((EB s 0).1 : Int)) else if 0 ≤ (EC s 0).2 then (14, (EC s 0).2) else (0, 0)
mutual
def PD : St → Prop
 | .mk k o n v p => Bo (.mk k o n v p) = 0 ∧ okP p
def okP : List St → Prop
 | [] => True
 | s :: r => PD s ∧ okP r
end
mutual
def Vo : St → Prop
 | .mk k o n v p => Ac (.mk k o n v p) ≤ 5000 ∧ Zf p
def Zf : List St → Prop
 | [] => True
 | s :: r => Vo s ∧ Zf r
end
theorem G6 : ∀ {p : List St}, okP p → ∀ s ∈ p, PD s
 | [], _, s, h => by cases h
 | x :: r, h, s, hs => by
  rcases List.mem_cons.1 hs with e | hs
  ·rw [e]; exact h.1
  ·exact G6 h.2 s hs
theorem No : ∀ {p : List St}, Zf p → ∀ s ∈ p, Vo s
 | [], _, s, h => by cases h
 | x :: r, h, s, hs => by
  rcases List.mem_cons.1 hs with e | hs
  ·rw [e]; exact h.1
  ·exact No h.2 s hs
mutual
theorem NN : ∀ (s : St) (i : Nat), (EB s i).2 = 0 → PD s ∧ (EB s i).1 = i + Bh s ∧ (EB s i).1 ≤ 60
 | .mk k o n v p, i, h => by
  simp only [EB] at h ⊢
  split at h
  ·cases h
  ·split at h
   ·rename_i h1; exact absurd h h1
   ·rename_i h0 h1
    rw [if_neg h0, if_neg h1]
    obtain ⟨h2, h3, h4⟩ := Tp p (i + 1) (by omega) h
    exact ⟨⟨by omega, h2⟩, by rw [h3]; simp only [Bh]; omega, h4⟩
theorem Tp : ∀ (p : List St) (i : Nat), i ≤ 60 → (J6 p i).2 = 0 → okP p ∧ (J6 p i).1 = i + C2 p ∧ (J6 p i).1 ≤ 60
 | [], i, hi, _ => ⟨trivial, rfl, hi⟩
 | s :: r, i, hi, h => by
  simp only [J6] at h ⊢
  split at h
  ·rename_i h1; exact absurd h h1
  ·rename_i h1
   rw [if_neg h1]
   obtain ⟨h2, h3, h6⟩ := NN s i (by omega)
   obtain ⟨h4, h5, h7⟩ := Tp r _ h6 h
   exact ⟨⟨h2, h4⟩, by rw [h5, h3]; simp only [C2]; omega, h7⟩
end
mutual
theorem O8 : ∀ (s : St) (i : Nat), (EC s i).1 = i + Bh s
 | .mk k o n v p, i => by simp only [EC, NP p, Bh]; omega
theorem NP : ∀ (p : List St) (i : Nat), (Fx p i).1 = i + C2 p
 | [], i => rfl
 | s :: r, i => by simp only [Fx, NP r, O8 s, C2]; omega
end
mutual
theorem Mu : ∀ (s : St) (i : Nat), -1 ≤ (EC s i).2 ∧ ((EC s i).2 < 0 ↔ Vo s)
 | .mk k o n v p, i => by
  have ih := UM p (i + 1)
  simp only [EC, Vo]
  split
  ·refine ⟨by omega, ⟨fun h => by omega, fun h => by omega⟩⟩
  ·exact ⟨ih.1, ⟨fun h => ⟨by omega, ih.2.1 h⟩, fun h => ih.2.2 h.2⟩⟩
theorem UM : ∀ (p : List St) (i : Nat), -1 ≤ (Fx p i).2 ∧ ((Fx p i).2 < 0 ↔ Zf p)
 | [], i => by simp [Fx, Zf]
 | s :: r, i => by
  have h1 := Mu s i
  have h2 := UM r (EC s i).1
  simp only [Fx, Zf]
  split
  ·rename_i h; exact ⟨h2.1, ⟨fun h' => ⟨h1.2.1 h, h2.2.1 h'⟩, fun h' => h2.2.2 h'.2⟩⟩
  ·rename_i h; exact ⟨h1.1, ⟨fun h' => absurd h' h, fun h' => absurd (h1.2.2 h'.1) h⟩⟩
end
theorem Hg {s : St} (h : (Cl s).1 = 0) : Cl s = (0, 0) ∧ PD s ∧ Vo s ∧ Bh s ≤ 60 := by
 unfold Cl at h ⊢
 split at h
 ·rename_i h1; exact absurd h h1
 ·rename_i h1
  rw [if_neg h1]
  split at h
  ·cases h
  ·rename_i h2
   rw [if_neg h2]
   obtain ⟨h3, h4, h5⟩ := NN s 0 (by omega)
   exact ⟨rfl, h3, (Mu s 0).2.1 (by omega), by omega⟩
open Go.RowKit
theorem N7 {P : Program} {w0 w w' : World} {G : Gh} {n : Nat} {H : A4} (h0 : Rel0 P w0 G n H w) (hb : Below w.heap.size w w') : Rel0 P w0 G n H w' := by
 have hbl : ∀ g, g < w.heap.size → w'.heap[g]? = w.heap[g]? := fun g hg => hb.block g hg
 refine ⟨h0.ext.tr hb, h0.lo, Nat.le_trans h0.hi hb.size, fun b o v hv => ?_, fun g e c hg => ?_, h0.capLo, fun g ob hob => ?_⟩
 ·have hc := h0.seal_ b o v hv
  have hlt : b < w.heap.size := World.block_lt_of_cell? _ _ hc
  rw [hb.cell (p := ⟨b, o, none⟩) hlt]; exact hc
 ·obtain ⟨cur, fz, h1, h2⟩ := h0.caps g e c hg
  refine ⟨cur, fz, ?_, h2⟩
  rw [hbl g (Array.getElem?_eq_some_iff.1 h1).1]; exact h1
 ·obtain ⟨h1, h2, h3⟩ := h0.objs g ob hob
  have hlt : g < w.heap.size := Nat.lt_of_lt_of_le h2 h0.hi
  exact ⟨h1, h2, h3.keep (hbl g hlt) (fun _ => rfl) rfl (Gh.Le.rfl_ G) (MapsKeep.lt hbl)⟩
theorem QC {P : Program} {f : Nat} {args : List AV} {v : AV} (h : ∀ (G : Gh) (vs : List Value), RepL G vs args → ∃ u : Value, (∀ G', Rep G' u v) ∧ ∀ w : World, Laid w → Calls P f vs.toArray w fun e w' => e = .returned u ∧ Below w.heap.size w w') : APure P f args v := by
 intro n H hs w0 G w vs hl h0 hrep
 obtain ⟨u, hu, hc⟩ := h G vs hrep
 refine (hc w (hl.ext h0.ext)).mono ?_
 rintro e w' ⟨rfl, hb⟩
 exact ⟨u, v, G, n, H, rfl, ⟨rfl, rfl, rfl⟩, hu G, Gh.Le.rfl_ _, Nat.le_refl _, N7 h0 hb⟩
theorem Wp (s : ByteArray) (l : List UInt8) (h : s.data.toList = l) : s = ⟨l.toArray⟩ := by cases s; subst h; simp
theorem TZ (n : Int) (h : -9223372036854775808 ≤ n ∧ n ≤ 9223372036854775807) : APure Tryz.prog 120 [.int .i64 n] (.str (Lib.itoa n)) := by
 refine QC fun G vs hr => ⟨.string ⟨(Lib.itoa n).toArray⟩, fun _ => .str (by simp), fun w hl => ?_⟩
 cases hr with | cons h1 h2 =>
 cases h2; cases h1
 refine (Any.strconv_Itoa XG n h.1 h.2 w (XF (by kernel_rfl) hl.pow)).mono ?_
 rintro e w' ⟨rfl, k, os, rfl⟩
 exact ⟨rfl, Lib.below_grow _ _ (Nat.le_refl _) _ _⟩
theorem NS (l : List AW) : Aa (l.map AV.str) = l.map AV.str := by
 induction l with
 | nil => rfl
 | cons x l ih => simp only [List.map_cons, Aa, List.flatMap_cons, AV.cells, List.singleton_append] at ih ⊢; rw [ih]
theorem VC {G : Gh} (l : List AW) : RepL G (l.map fun x => Value.string ⟨x.toArray⟩) (l.map AV.str) := by
 induction l with
 | nil => exact .nil
 | cons x l ih => exact .cons (.str (by simp)) ih
theorem RR (s : AW) (hs : s.length < 4294967281) (ha : ∀ b ∈ s, b.toNat < 128) (hk : (Lib.fields s).length ≤ 1000000) : APure Tryz.prog 139 [.str s] (.sl 1 ((Lib.fields s).map AV.str) .ro) := by
 intro n H hH w0 G w vs hl h0 hrep
 cases hrep with | cons h1 h2 =>
 cases h2; cases h1
 rename_i sb hsb
 subst hsb
 refine (Any.strings_Fields Xb (by kernel_rfl) (by kernel_rfl) sb w (by rw [Lib.size_eq]; exact hs) (fun j b hj => ha b (List.mem_of_getElem? hj)) (XF (by kernel_rfl) (hl.ext h0.ext).spc)).mono ?_
 rintro e w' ⟨rfl, rfl⟩
 have hrel := h0.newRow (w' := w.alloc (.cells ((Lib.fields sb.data.toList).map fun l => Value.string ⟨l.toArray⟩).toArray 9)) (cur := ((Lib.fields sb.data.toList).map fun l => Value.string ⟨l.toArray⟩).toArray) (e := 9) (fz := (0, 0)) (vs := (Lib.fields sb.data.toList).map fun l => Value.string ⟨l.toArray⟩) (c := none) (ob := none) rfl rfl rfl rfl
  (fun j u hu => by simpa using hu) (fun e' c' hc => by cases hc) (.inl rfl)
 have hle := h0.addLe ((Lib.fields sb.data.toList).map fun l => Value.string ⟨l.toArray⟩) none
 have hhi := h0.hi
 refine ⟨_, _, _, n, H, rfl, ⟨rfl, rfl, rfl⟩, .slro (vs := (Lib.fields sb.data.toList).map fun l => Value.string ⟨l.toArray⟩) ?_ (Gh.add_sealed _ _ _) ?_ (by simp), hle, Nat.le_refl _, hrel.less h0.lo (by omega) hH ?_⟩
 ·rw [NS]; exact VC _
 ·refine ⟨by simp, by simp only [maxLen]; omega, by decide, fun x hx => ?_, fun x hx => ?_⟩
  ·obtain ⟨y, _, rfl⟩ := List.mem_map.1 hx; rfl
  ·rw [NS] at hx; obtain ⟨y, _, rfl⟩ := List.mem_map.1 hx; rfl
 ·intro k hk'
  rw [upd_ne (by omega)]
abbrev aSs (l : List AW) : AV := .sl 1 (l.map AV.str) .ro
theorem A1k (l : List AW) (sep : AW) (hl : l.length ≤ 140737488355328) (hlen : (Lib.join l sep).length ≤ 140737488355328) : APure Tryz.prog 83 [aSs l, .str sep] (.str (Lib.join l sep)) := by
 intro n H hH w0 G w vs hl0 h0 hrep
 cases hrep with | cons h1 h2 =>
 cases h2 with | cons h3 h4 =>
 cases h4; cases h3
 rename_i sb hsb
 subst hsb
 obtain ⟨A, c, rfl, hc, hm, hA⟩ := h1.slOut
 have key : ∀ {W : World} {e : Ending}, e = .returned (.string ⟨(Lib.join l sb.data.toList).toArray⟩) → Below w.heap.size w W → ∃ (v : Value) (r : AV) (G' : Gh) (n' : Nat) (H' : A4), e = .returned v ∧ (r = .str (Lib.join l sb.data.toList) ∧ n' = n ∧ H' = H) ∧ Rep G' v r ∧ G.Le G' ∧ n ≤ n' ∧ Rel0 Tryz.prog w0 G' n' H' W := fun he hb =>
  ⟨_, _, G, n, H, he, ⟨rfl, rfl, rfl⟩, .str (by simp), Gh.Le.rfl_ _, Nat.le_refl _, N7 h0 hb⟩
 by_cases hl0 : l = []
 ·subst hl0
  refine (Any.strings_Join_none UA G5 A c sb w).mono ?_
  rintro e w' ⟨he, rfl⟩
  exact key (by rw [he]; rfl) (Below.refl _ _)
 ·obtain ⟨g, off, us, rfl, hr, hs, ho⟩ := hA (by simpa using hl0)
  rw [NS] at hr
  have hcell : ∀ (j : Nat) (x : ByteArray), (l.map fun x => (⟨x.toArray⟩ : ByteArray))[j]? = some x → w.cell? ⟨g, off + j, none⟩ = some (.string x) := by
   intro j x hj
   obtain ⟨y, hy, rfl⟩ : ∃ y, l[j]? = some y ∧ (⟨y.toArray⟩ : ByteArray) = x := by simpa [List.getElem?_map] using hj
   obtain ⟨u, hu, hru⟩ := hr.at (i := j) (x := .str y) (by simp [List.getElem?_map, hy])
   have h5 := h0.seal_ _ _ _ (hs j u hu)
   cases hru
   rename_i s hsy
   rw [h5, Wp _ _ hsy]
  have hlt : g < w.heap.size := by
   obtain ⟨y, hy⟩ : ∃ y, l[0]? = some y := ⟨_, List.getElem?_eq_getElem (List.length_pos_iff.2 hl0)⟩
   have := World.block_lt_of_cell? w _ (hcell 0 ⟨y.toArray⟩ (by simp [List.getElem?_map, hy]))
   simpa using this
  have hmap : (l.map fun x => (⟨x.toArray⟩ : ByteArray)).map (·.data.toList) = l := by
   rw [List.map_map]; conv => rhs; rw [← List.map_id l]
   apply List.map_congr_left; intro x _; simp
  have hj := Any.strings_Join UA G5 g off c (l.map fun x => (⟨x.toArray⟩ : ByteArray)) sb w hcell hlt (by simpa using hl) (by simpa using hc) (by rw [hmap]; exact hlen)
  rw [hmap, List.length_map] at hj
  simp only [List.length_map] at *
  refine hj.mono ?_
  rintro e w' ⟨he, hb⟩
  exact key he hb
def Af (c : UInt8) : Bool := decide (48 ≤ c.toNat ∧ c.toNat ≤ 57)
def Cu (acc : Nat) : AW → Nat
 | [] => acc
 | c :: r => Cu (10 * acc + (c.toNat - 48)) r
theorem QQ (c : UInt8) (l : AW) : ∀ acc : Nat, Cu acc (l ++ [c]) = 10 * Cu acc l + (c.toNat - 48) := by
 induction l with
 | nil => intro acc; rfl
 | cons x l ih => intro acc; exact ih _
theorem YK (l : AW) : ∀ acc : Nat, acc ≤ Cu acc l := by
 induction l with
 | nil => intro acc; exact Nat.le_refl _
 | cons x l ih =>
  intro acc
  have h2 : acc ≤ 10 * acc + (x.toNat - 48) := by omega
  exact Nat.le_trans h2 (ih _)
theorem Yj : ∀ d : Fin 10, (UInt8.ofNat (48 + d.val)).toNat = 48 + d.val := by decide
theorem Qz {d : Nat} (h : d < 10) : (UInt8.ofNat (48 + d)).toNat = 48 + d := by
 have e := Yj ⟨d, h⟩
 simp only at e
 exact e
theorem WT {d : Nat} (h : d < 10) : Af (UInt8.ofNat (48 + d)) = true := by
 have e := Qz h
 unfold Af
 rw [e]
 exact decide_eq_true (by omega)
theorem Eo (u : Nat) : ∀ c ∈ Lib.decDigits u, Af c = true := by
 induction u using Nat.strongRecOn with
 | _ u ih =>
  intro c hc
  rw [Lib.decDigits] at hc
  split at hc
  ·rw [List.mem_singleton.1 hc]
   exact WT (by omega)
  ·rcases List.mem_append.1 hc with h | h
   ·exact ih _ (by omega) c h
   ·rw [List.mem_singleton.1 h]
    exact WT (by omega)
theorem UK {c : UInt8} {d : Nat} (h : c.toNat = 48 + d) (acc : Nat) : Cu acc [c] = 10 * acc + d ∧ ∀ l : AW, Cu acc (l ++ [c]) = 10 * Cu acc l + d := by
 constructor
 ·show 10 * acc + (c.toNat - 48) = _
  rw [h]; omega
 ·intro l; rw [QQ, h]; omega
theorem Oc (u : Nat) : Cu 0 (Lib.decDigits u) = u := by
 induction u using Nat.strongRecOn with
 | _ u ih =>
  rw [Lib.decDigits]
  split
  ·rename_i h0
   have e := (UK (Qz (d := u) h0) 0).1
   generalize UInt8.ofNat (48 + u) = c at e ⊢
   rw [e]; omega
  ·rename_i h0
   have e := (UK (Qz (d := u % 10) (by omega)) 0).2 (Lib.decDigits (u / 10))
   have e2 := ih (u / 10) (by omega)
   generalize UInt8.ofNat (48 + u % 10) = c at e ⊢
   rw [e, e2]; omega
theorem Me (u : Nat) : Lib.decDigits u ≠ [] := by
 intro h
 have := Lib.decDigits_length u
 rw [h] at this
 have := Lib.nDigits_pos u
 simp at *; omega
theorem O0 : ∀ (k u : Nat), u < 10 ^ (k + 1) → Lib.nDigits u ≤ k + 1
 | 0, u, h => by rw [Lib.nDigits_small (by omega)]; omega
 | k + 1, u, h => by
  by_cases c : u < 10
  ·rw [Lib.nDigits_small c]; omega
  ·rw [Lib.nDigits_big c]
   have := O0 k (u / 10) (by rw [Nat.pow_succ] at h; omega)
   omega
theorem HJ (u : Nat) : (Lib.decDigits u).length ≤ 9 ↔ u ≤ 999999999 := by
 rw [Lib.decDigits_length]
 constructor
 ·intro h
  have h1 := Lib.lt_pow_nDigits u
  have h2 : 10 ^ Lib.nDigits u ≤ 10 ^ 9 := Nat.pow_le_pow_right (by omega) h
  omega
 ·intro h
  exact O0 8 u (by omega)
theorem QD (l : AW) (hl : ∀ c ∈ l, Af c = true) : ∀ acc : Nat, Cu acc l < 1844674407370955162 → Lib.parseUint10 acc l = .ok (Cu acc l) := by
 induction l with
 | nil => intro acc _; rfl
 | cons c r ih =>
  intro acc hb
  have hc := hl c List.mem_cons_self
  unfold Af at hc
  simp only [decide_eq_true_eq] at hc
  have e : Cu acc (c :: r) = Cu (10 * acc + (c.toNat - 48)) r := rfl
  rw [e] at hb ⊢
  have hg := YK r (10 * acc + (c.toNat - 48))
  have hi := ih (fun x hx => hl x (List.mem_cons_of_mem _ hx)) (10 * acc + (c.toNat - 48)) hb
  rw [Lib.parseUint10, if_pos hc, if_neg (by omega), if_neg (by omega), Nat.mul_comm acc 10]
  exact hi
theorem UZ {u : Nat} (h : u ≤ 999999999) : Lib.parseMag (Lib.decDigits u) = .ok u := by
 unfold Lib.parseMag
 rw [if_neg (Me u), QD _ (Eo u) 0 (by rw [Oc]; omega), Oc]
theorem Q9 {n : Int} (h : -999999999 ≤ n ∧ n ≤ 999999999) : Lib.atoiAll (Lib.itoa n) = .ok n := by
 by_cases c : n < 0
 ·obtain ⟨u, rfl⟩ : ∃ u : Nat, n = -(u : Int) := ⟨n.natAbs, by omega⟩
  rw [Lib.itoa_neg u (by omega), Lib.atoiAll_minus, UZ (by omega)]
  simp [Lib.signed]; omega
 ·obtain ⟨u, rfl⟩ : ∃ u : Nat, n = (u : Int) := ⟨n.toNat, by omega⟩
  rw [Lib.itoa_nonneg]
  obtain ⟨d, l, e⟩ := List.exists_cons_of_ne_nil (Me u)
  have hd := Eo u d (by rw [e]; exact List.mem_cons_self)
  unfold Af at hd
  simp only [decide_eq_true_eq] at hd
  have hm := UZ (u := u) (by omega)
  rw [e] at hm ⊢
  rw [Lib.atoiAll_plain d l (by omega) (by omega), hm]
  simp [Lib.signless]; omega
def HN (s : AW) : Int × Bool := match Lib.atoiAll s with
 | .ok v => (v, decide (Lib.itoa v = s) && decide ((Lib.trimPrefix s [45]).length ≤ 9))
 | .range => (Lib.atoiSat s, false)
 | _ => (0, false)
theorem Q8 (n : Int) : Lib.trimPrefix (Lib.itoa n) [45] = Lib.decDigits n.natAbs := by
 by_cases c : n < 0
 ·obtain ⟨u, rfl⟩ : ∃ u : Nat, n = -(u : Int) := ⟨n.natAbs, by omega⟩
  rw [Lib.itoa_neg u (by omega)]
  simp [Lib.trimPrefix, Lib.hasPrefix]
 ·obtain ⟨u, rfl⟩ : ∃ u : Nat, n = (u : Int) := ⟨n.toNat, by omega⟩
  rw [Lib.itoa_nonneg]
  obtain ⟨d, l, e⟩ := List.exists_cons_of_ne_nil (Me u)
  have hd := Eo u d (by rw [e]; exact List.mem_cons_self)
  unfold Af at hd
  simp only [decide_eq_true_eq] at hd
  have hne : ¬ (45 : UInt8) = d := by rintro rfl; revert hd; decide
  simp [Lib.trimPrefix, Lib.hasPrefix, e, hne]
theorem SA {n : Int} (h : -999999999 ≤ n ∧ n ≤ 999999999) : HN (Lib.itoa n) = (n, true) := by
 unfold HN
 rw [Q9 h]
 simp only [Q8, decide_true, Bool.true_and]
 rw [decide_eq_true ((HJ _).2 (by omega))]
theorem XM {s : AW} (h : (HN s).2 = true) : Lib.itoa (HN s).1 = s ∧ -999999999 ≤ (HN s).1 ∧ (HN s).1 ≤ 999999999 := by
 unfold HN at h ⊢
 split at h
 ·rename_i v hv
  simp only [Bool.and_eq_true, decide_eq_true_eq] at h
  simp only [hv]
  obtain ⟨h1, h2⟩ := h
  rw [← h1, Q8, HJ] at h2
  exact ⟨h1, by omega, by omega⟩
 ·cases h
 ·cases h
def IU (s : AW) : Int × Bool :=
 let f := if s.head? = some 45 then 1 else 0
 if (s.drop f).all Af = true ∧ (s.drop f).length ≤ 9 then
  let n : Int := if f = 1 then -(Cu 0 (s.drop f) : Int) else Cu 0 (s.drop f)
  (n, decide (f < s.length) && decide (Lib.itoa n = s))
 else (0, false)
theorem Mo (n : Int) : (Lib.itoa n).drop (if (Lib.itoa n).head? = some 45 then 1 else 0) = Lib.decDigits n.natAbs ∧ ((Lib.itoa n).head? = some 45 ↔ n < 0) := by
 by_cases c : n < 0
 ·obtain ⟨u, rfl⟩ : ∃ u : Nat, n = -(u : Int) := ⟨n.natAbs, by omega⟩
  rw [Lib.itoa_neg u (by omega)]
  simp; omega
 ·obtain ⟨u, rfl⟩ : ∃ u : Nat, n = (u : Int) := ⟨n.toNat, by omega⟩
  rw [Lib.itoa_nonneg]
  obtain ⟨d, l, e⟩ := List.exists_cons_of_ne_nil (Me u)
  have hd := Eo u d (by rw [e]; exact List.mem_cons_self)
  unfold Af at hd
  simp only [decide_eq_true_eq] at hd
  have hne : ¬ d = (45 : UInt8) := by rintro rfl; revert hd; decide
  have e2 : (u : Int).natAbs = u := by omega
  rw [e2, e]
  simp [hne]
theorem KY (l : AW) (hl : ∀ c ∈ l, Af c = true) : ∀ acc : Nat, Cu acc l < (acc + 1) * 10 ^ l.length := by
 induction l with
 | nil => intro acc; show acc < _; simp
 | cons c r ih =>
  intro acc
  have hc := hl c List.mem_cons_self
  unfold Af at hc
  simp only [decide_eq_true_eq] at hc
  have h1 := ih (fun x hx => hl x (List.mem_cons_of_mem _ hx)) (10 * acc + (c.toNat - 48))
  have e : Cu acc (c :: r) = Cu (10 * acc + (c.toNat - 48)) r := rfl
  rw [e]
  refine Nat.lt_of_lt_of_le h1 ?_
  rw [List.length_cons, Nat.pow_succ, ← Nat.mul_assoc, Nat.mul_right_comm]
  exact Nat.mul_le_mul_right _ (by omega)
theorem UR (s : AW) : (IU s).2 = (HN s).2 ∧ ((HN s).2 = true → (IU s).1 = (HN s).1) := by
 have key : (HN s).2 = true → IU s = ((HN s).1, true) := by
  intro h
  obtain ⟨h1, h2, h3⟩ := XM h
  generalize (HN s).1 = n at h1 h2 h3
  subst h1
  obtain ⟨f1, f2⟩ := Mo n
  unfold IU
  simp only [f1]
  have hall : (Lib.decDigits n.natAbs).all Af = true := List.all_eq_true.2 (Eo _)
  rw [if_pos ⟨hall, (HJ _).2 (by omega)⟩, Oc]
  have hv : (if (if (Lib.itoa n).head? = some 45 then 1 else 0) = 1 then -((n.natAbs : Nat) : Int) else (n.natAbs : Int)) = n := by
   by_cases c : (Lib.itoa n).head? = some 45
   ·have := f2.1 c; simp [c]; omega
   ·have : ¬ n < 0 := fun h => c (f2.2 h)
    simp [c]; omega
  have hl : (if (Lib.itoa n).head? = some 45 then 1 else 0) < (Lib.itoa n).length := by
   have h4 := congrArg List.length f1
   rw [List.length_drop] at h4
   have := List.length_pos_iff.2 (Me n.natAbs)
   omega
  rw [hv]
  simp [hl]
 have back : (IU s).2 = true → (HN s).2 = true := by
  intro h
  unfold IU at h
  dsimp only at h
  generalize hf : (if s.head? = some 45 then 1 else 0) = f at h
  split at h
  ·rename_i hc
   have hd := List.all_eq_true.1 hc.1
   have hsm := KY (s.drop f) hd 0
   have hp : 10 ^ (s.drop f).length ≤ 10 ^ 9 := Nat.pow_le_pow_right (by omega) hc.2
   simp only [Bool.and_eq_true, decide_eq_true_eq] at h
   obtain ⟨_, h2⟩ := h
   rw [← h2, SA (by split <;> omega)]
  ·cases h
 cases h : (HN s).2 with
 | true => rw [key h]; exact ⟨rfl, fun _ => rfl⟩
 | false =>
  refine ⟨?_, fun h => by cases h⟩
  cases h2 : (IU s).2 with
  | true => rw [back h2] at h; cases h
  | false => rfl
def U7 (op x y : Int) : Int := if op = 1 then (x + y) % 10000 else if op = 2 then (x - y + 10000) % 10000 else if op = 3 then x * y % 10000 else if op = 4 then max x y else if op = 5 then min x y else x % y
def RJ (op x n : Int) : Bool := if op = 1 then decide (x < n) else if op = 2 then decide (n ≤ x) else decide (x % n = 0)
abbrev Ai := List Int
abbrev Bc := List (Int × Ai)
structure Fut where
 cur : Ai
 l : Bc
 fin : Ai
def Rl : Nat → List Int → Bc
 | _, [] => []
 | i, x :: r => (x, [((i + 1 : Nat) : Int)]) :: Rl (i + 1) r
def LA (xs : List Int) : Fut := ⟨[0], Rl 0 xs, [(xs.length : Int)]⟩
def Fv (v : List Int) : List Int := match v with
 | a :: b :: c :: r => (List.range (GS (a :: b :: c :: r))).map fun (i : Nat) => a + (i : Int) * c
 | _ => []
def EP : Nat → Ai → Bc → Ai → Bc × Ai
 | 0, cur, _, _ => ([], cur)
 | _ + 1, _, [], fin => ([], fin)
 | n + 1, _, (x, c) :: r, fin => ((x, c) :: (EP n c r fin).1, (EP n c r fin).2)
def P7 (p : Int → Bool) : Bc → Ai → Bc × Ai
 | [], fin => ([], fin)
 | (x, c) :: r, fin => if p x = true then ((x, c) :: (P7 p r fin).1, (P7 p r fin).2) else ([], c)
def Tc (p : Int → Bool) : Bc → Bc
 | [] => []
 | (x, c) :: r => if p x = true then Tc p r else (x, c) :: r
def V4 (f : Int → Int → Int) : Int → Bc → Bc
 | _, [] => []
 | n, (x, c) :: r => (f n x, c) :: V4 f (f n x) r
def UN (f : Int → Int → Int) : List Int → Int
 | [] => 0
 | x :: r => r.foldl f x
def PI (f : Int → Int → Int) (N : Nat) : List Int → Bc → Bc
 | _, [] => []
 | last, (x, c) :: r => if last.length + 1 < N then PI f N (last ++ [x]) r else (UN f ((last ++ [x]).drop (last.length + 1 - N)), c) :: PI f N ((last ++ [x]).drop (last.length + 1 - N)) r
def RW : Int → Bc → Bc
 | _, [] => []
 | last, (x, c) :: r => if x ≠ last then (x, c) :: RW x r else RW last r
def SG (xs : List Int) (fin : Ai) : Nat → Bc
 | 0 => []
 | n + 1 => xs.map (fun x => (x, fin)) ++ SG xs fin n
def Ve (n : Nat) (F : Fut) : Fut := if n = 0 then ⟨F.cur, [], F.cur⟩ else ⟨F.cur, F.l ++ SG (F.l.map (·.1)) F.fin (n - 1), F.fin⟩
def IP (k o n : Int) (F : Fut) : Fut :=
 if k = 3 then ⟨F.cur, F.l.map fun e => (U7 o e.1 n, e.2), F.fin⟩
 else if k = 4 then ⟨F.cur, F.l.filter fun e => RJ o e.1 n, F.fin⟩
 else if k = 5 then ⟨F.cur, (EP n.toNat F.cur F.l F.fin).1, (EP n.toNat F.cur F.l F.fin).2⟩
 else if k = 6 then ⟨F.cur, F.l.drop n.toNat, F.fin⟩
 else if k = 7 then ⟨F.cur, (P7 (fun x => RJ o x n) F.l F.fin).1, (P7 (fun x => RJ o x n) F.l F.fin).2⟩
 else if k = 8 then ⟨F.cur, Tc (fun x => RJ o x n) F.l, F.fin⟩
 else if k = 9 then ⟨F.cur, V4 (U7 o) n F.l, F.fin⟩
 else if k = 10 then ⟨F.cur, PI (U7 o) n.toNat [] F.l, F.fin⟩
 else if k = 11 then ⟨F.cur, RW (-1) F.l, F.fin⟩
 else Ve n.toNat F
def M3 : List Fut → Fut
 | [] => ⟨[], [], []⟩
 | F :: Fs => ⟨F.cur ++ (M3 Fs).cur, F.l.map (fun e => (e.1, e.2 ++ (M3 Fs).cur)) ++ (M3 Fs).l.map (fun e => (e.1, F.fin ++ e.2)), F.fin ++ (M3 Fs).fin⟩
def HF : Nat → List (Nat × Bc × Ai) → List Ai → Bc × List Ai
 | 0, _, cs => ([], cs)
 | _ + 1, [], cs => ([], cs)
 | m + 1, (i, [], fin) :: q, cs => HF m q (cs.set i fin)
 | m + 1, (i, (x, c) :: r, fin) :: q, cs => ((x, (cs.set i c).flatten) :: (HF m (q ++ [(i, r, fin)]) (cs.set i c)).1, (HF m (q ++ [(i, r, fin)]) (cs.set i c)).2)
def A38 (Fs : List Fut) : Nat := (Fs.map fun F => F.l.length + 1).sum
def Qv (Fs : List Fut) : Fut :=
 ⟨(Fs.map (·.cur)).flatten, (HF (A38 Fs) (Fs.zipIdx.map fun x => (x.2, x.1.l, x.1.fin)) (Fs.map (·.cur))).1, (HF (A38 Fs) (Fs.zipIdx.map fun x => (x.2, x.1.l, x.1.fin)) (Fs.map (·.cur))).2.flatten⟩
def Nh (f : Int → Int → Int) (fa fb : Ai) : Bc → Ai → Bc → Bc × Ai
 | [], cb, _ => ([], fa ++ cb)
 | (_, c) :: _, _, [] => ([], c ++ fb)
 | (x, c) :: r, _, (y, d) :: t => ((f x y, c ++ d) :: (Nh f fa fb r d t).1, (Nh f fa fb r d t).2)
def DB (fa fb : Ai) : Bc → Bc → Bc
 | [], [] => []
 | [], (y, d) :: t => (y, fa ++ d) :: DB fa fb [] t
 | (x, c) :: r, [] => (x, c ++ fb) :: DB fa fb r []
 | (x, c) :: r, (y, d) :: t => if x ≤ y then (x, c ++ d) :: DB fa fb r ((y, d) :: t) else (y, c ++ d) :: DB fa fb ((x, c) :: r) t
 termination_by a b => a.length + b.length
def Fo (k o n : Int) (v : List Int) (Fs : List Fut) : Fut :=
 if k = 1 then LA v
 else if k = 2 then LA (Fv v)
 else if k = 13 then M3 Fs
 else if k = 14 then Qv Fs
 else match Fs with
  | [F] => IP k o n F
  | [F, G] => if k = 15 then ⟨F.cur ++ G.cur, (Nh (U7 o) F.fin G.fin F.l G.cur G.l).1, (Nh (U7 o) F.fin G.fin F.l G.cur G.l).2⟩ else ⟨F.cur ++ G.cur, DB F.fin G.fin F.l G.l, F.fin ++ G.fin⟩
  | _ => ⟨[], [], []⟩
mutual
def Av : St → Fut
 | .mk k o n v p => Fo k o n v (HW p)
def HW : List St → List Fut
 | [] => []
 | s :: r => Av s :: HW r
end
theorem HI : ∀ p : List St, HW p = p.map Av
 | [] => by simp [HW]
 | s :: r => by simp [HW, HI r]
attribute [local simp] Kz De DC Kv Lp Je Jw Dj DK Fe Fi KJ JN LL KL Ig JX Ix L9 Kn K6 Kk LJ K3 Ji RM pe KK Io Iu JW JI Kf Ir L7 Jx LH J5 L8 Is DT J0 Ju Jg Ih Li Lf K5 KN Js LO Ks LC La Im Ip Ln JQ Kt Jt JF L4 DG Lv DY Kq JZ Ky LB LG Lk KH JM LE Jr LF KA JU L0 JY JB Lo JJ Ly Jl Lm Ik Jm Jf Kw DJ KO Lj JG Ld Jn Lh Kj J9 Kp Kb Lc K2 KE LR Il Lq JC L3 Km JR Lz Jd LN L2 M1 LM Lr KG Iv JO L1 LK List.mem_cons guardK CR Ez F6 Fa Lx DX DF DL Dd DP DM DN Dh D9 M0 Ki Dg KF LP JV Jp Kc K8 DR KX LV J1 JA LW LQ Fj DQ DS DH DA Lw Ja DW Ii DD L6 Db DE Ku DO DU LZ LD KR Lg Kl J7 L5 J4 RL IR IV Gt IN IS IL Cx FB FA KV FC F8 Cv CY Sc IH II F9 IK IT D0 D4 Bg BG C3 CK Ar ev get put GQ AP Cr Jc K4 Kd LI JT Jh EF part BZ HA Jy Gx isNil CA CG EL CQ C1 Kx JP J3 KI Iq IF Ij JE Jo LU Jq Jv K7 Jz KZ Iz AV.fits AV.cells ones AV.one EK CD EE E2 FV ES Ll GB Fy CH Br C5 F3 Gg AX BY TO Fc Ko Ie List.getElem?_cons_zero List.getElem?_cons_succ Dc Df Di J8 Kg Ls H9 It Kh JK KD Ke LT JH Lu Iw LY JD
theorem VV (c i : Int) : APure Tryz.prog 20 [aI c, aI i] (aF (c, i)) := by
 refine A9 Tryz.func20 A2l rfl fun n H hH => ?_
 repeat' (first | (simp -implicitDefEqProofs [c20, -getElem?_pos, aF, splice, A8, AC]) | (simp (disch := omega) only [AF]) | (with_reducible first | refine A7 ?_ ?_ ?_ | exact AB | refine SameB.upd ?_ ?_ _ | assumption | refine A3 ?_ | refine KM.of ?_ | refine AG ?_ | refine A2 ?_ | refine A5 ?_ | intro _g _hg | refine AE ?_ ?_ | intro _hc) | omega)
theorem MH (x a b : Int) : APure Tryz.prog 19 [aI x, aI a, aI b] (.bool (decide (a ≤ x) && decide (x ≤ b))) := by
 refine A9 Tryz.func19 A35 rfl fun n H hH => ?_
 repeat' (first | (simp -implicitDefEqProofs [c19, -getElem?_pos, A8]) | (simp (disch := omega) only [AF]) | (with_reducible first | refine A7 ?_ ?_ ?_ | exact AB | refine SameB.upd ?_ ?_ _ | assumption | refine A3 ?_ | refine KM.of ?_ | refine AG ?_ | intro _g _hg | refine AE ?_ ?_ | intro _hc) | omega)
def IX (x : Int) : Prop := 0 ≤ x ∧ x ≤ 9999
theorem Yk (op x y : Int) (ho : 1 ≤ op ∧ op ≤ 3) (hx : IX x) (hy : IX y) (h0 : op = 3 → 1 ≤ y) : APure Tryz.prog 108 [aI op, aI x, aI y] (.bool (RJ op x y)) := by
 obtain ⟨x0, x1⟩ := hx
 obtain ⟨y0, y1⟩ := hy
 refine A9 Tryz.func108 A0j rfl fun n H hH => ?_
 rcases (by omega : op = 1 ∨ op = 2 ∨ op = 3) with rfl | rfl | rfl
 ·repeat' (first | (simp -implicitDefEqProofs [Iy, KP, c108, -getElem?_pos, A8, RJ]) | (simp (disch := omega) only [AF]) | (with_reducible first | refine A7 ?_ ?_ ?_ | exact AB | refine SameB.upd ?_ ?_ _ | assumption | refine A3 ?_ | refine KM.of ?_ | refine AG ?_ | intro _g _hg | refine AE ?_ ?_ | intro _hc) | omega)
  try all_goals (rw [Bool.eq_iff_iff]; simp only [decide_eq_true_eq, beq_iff_eq, Bool.or_eq_true, Bool.not_eq_true', decide_eq_false_iff_not]; try omega)
 ·repeat' (first | (simp -implicitDefEqProofs [Iy, KP, c108, -getElem?_pos, A8, RJ]) | (simp (disch := omega) only [AF]) | (with_reducible first | refine A7 ?_ ?_ ?_ | exact AB | refine SameB.upd ?_ ?_ _ | assumption | refine A3 ?_ | refine KM.of ?_ | refine AG ?_ | intro _g _hg | refine AE ?_ ?_ | intro _hc) | omega)
  try all_goals (rw [Bool.eq_iff_iff]; simp only [decide_eq_true_eq, beq_iff_eq, Bool.or_eq_true, Bool.not_eq_true', decide_eq_false_iff_not]; try omega)
 ·have hy1 := h0 rfl
  have hyn : y ≠ 0 := by omega
  repeat' (first | (simp -implicitDefEqProofs [Iy, KP, c108, -getElem?_pos, A8, RJ, hyn]) | (simp (disch := omega) only [AF]) | (with_reducible first | refine A7 ?_ ?_ ?_ | exact AB | refine SameB.upd ?_ ?_ _ | assumption | refine A3 ?_ | refine KM.of ?_ | refine AG ?_ | intro _g _hg | refine AE ?_ ?_ | intro _hc) | omega)
  all_goals (rw [Bool.eq_iff_iff]; simp only [decide_eq_true_eq, beq_iff_eq, Bool.or_eq_true, Bool.not_eq_true', decide_eq_false_iff_not]; try omega)
theorem OK (k : Int) : APure Tryz.prog 44 [aI k] (.bool (Bt k)) := by
 refine A9 Tryz.func44 A1y rfl fun n H hH => ?_
 repeat' (first | (simp -implicitDefEqProofs [c44, -getElem?_pos, A8, Bt]) | (simp (disch := omega) only [AF]) | (with_reducible first | refine A7 ?_ ?_ ?_ | exact AB | refine SameB.upd ?_ ?_ _ | assumption | refine A3 ?_ | refine KM.of ?_ | refine AG ?_ | intro _g _hg | refine AE ?_ ?_ | intro _hc) | omega)
 all_goals (rw [Bool.eq_iff_iff]; simp only [decide_eq_true_eq, beq_iff_eq, Bool.or_eq_true, Bool.not_eq_true', decide_eq_false_iff_not]; try omega)
theorem HS (k : Int) : APure Tryz.prog 53 [aI k] (.bool (IG k)) := by
 refine A9 Tryz.func53 A25 rfl fun n H hH => ?_
 repeat' (first | (simp -implicitDefEqProofs [c53, -getElem?_pos, A8, IG]) | (simp (disch := omega) only [AF]) | (with_reducible first | refine A7 ?_ ?_ ?_ | exact AB | refine SameB.upd ?_ ?_ _ | assumption | refine A3 ?_ | refine KM.of ?_ | refine AG ?_ | intro _g _hg | refine AE ?_ ?_ | intro _hc) | omega)
 all_goals (rw [Bool.eq_iff_iff]; simp only [decide_eq_true_eq, beq_iff_eq, Bool.or_eq_true, Bool.not_eq_true', decide_eq_false_iff_not]; try omega)
theorem Gb (k : Int) : APure Tryz.prog 55 [aI k] (.bool (CP k)) := by
 refine A9 Tryz.func55 A2i rfl fun n H hH => ?_
 repeat' (first | (simp -implicitDefEqProofs [c55, -getElem?_pos, A8, CP]) | (simp (disch := omega) only [AF]) | (with_reducible first | refine A7 ?_ ?_ ?_ | exact AB | refine SameB.upd ?_ ?_ _ | assumption | refine A3 ?_ | refine KM.of ?_ | refine AG ?_ | intro _g _hg | refine AE ?_ ?_ | intro _hc) | omega)
 all_goals (rw [Bool.eq_iff_iff]; simp only [decide_eq_true_eq, beq_iff_eq, Bool.or_eq_true, Bool.not_eq_true', decide_eq_false_iff_not]; try omega)
theorem GI (k : Int) : APure Tryz.prog 58 [aI k] (.bool (F4 k)) := by
 refine A9 Tryz.func58 A3c rfl fun n H hH => ?_
 repeat' (first | (simp -implicitDefEqProofs [c58, -getElem?_pos, A8, F4]) | (simp (disch := omega) only [AF]) | (with_reducible first | refine A7 ?_ ?_ ?_ | exact AB | refine SameB.upd ?_ ?_ _ | assumption | refine A3 ?_ | refine KM.of ?_ | refine AG ?_ | intro _g _hg | refine AE ?_ ?_ | intro _hc) | omega)
 all_goals (rw [Bool.eq_iff_iff]; simp only [decide_eq_true_eq, beq_iff_eq, Bool.or_eq_true, Bool.not_eq_true', decide_eq_false_iff_not]; try omega)
theorem drop_at {α : Type} {l : List α} {k : Nat} {x : α} (h : l[k]? = some x) : l.drop k = x :: l.drop (k + 1) := by
 have hk := (List.getElem?_eq_some_iff.1 h).1
 rw [List.drop_eq_getElem_cons hk, (List.getElem?_eq_some_iff.1 h).2]
theorem JL {α : Type} {f : α → AV} {l : List α} {k : Nat} {x : α} (h : l[k]? = some x) : (l.map f)[k]? = some (f x) := by
 rw [List.getElem?_map, h]; rfl
theorem AQ (k o n : Int) (v : List Int) (p : List St) : encS (.mk k o n v p) = .agg [aI k, aI o, aI n, .sl 1 (v.map aI) .ro, .sl 5 (Ae p) .ro] := by rw [encS]
theorem BB (p : List St) : (Ae p).length = p.length := by rw [OI]; simp
theorem US {k : Int} {i : Nat} {v : List Int} {x : Int} (hx : v[i]? = some x) : BE k i (v.drop i) = (Fg k i x && BE k (i + 1) (v.drop (i + 1))) := by
 rw [drop_at hx, BE]
theorem S5 {k : Int} {i : Nat} {v : List Int} (h : v.length ≤ i) : BE k i (v.drop i) = true := by
 rw [List.drop_eq_nil_of_le h, BE]
theorem FE (k o m : Int) (v : List Int) (p : List St) (g n0 n1 : Nat) (H H1 : A4) (q : H1 g = some (.cells 25 [aI k, aI o, aI m, .sl 1 (v.map aI) .ro, .sl 5 (Ae p) .ro])) (hn : n0 ≤ n1) (hs : SameB n0 H H1) (hvb : v.length ≤ 140737488355328) :
  LoopK (fun Q s => aw Tryz.prog c68_L6 Q s) (Cy 0 (Bz (aw Tryz.prog c68_k1 (D1 (aI (if BE k 0 v = true then 0 else 4)) n0 H [.tmp 2])) (D1 (aI (if BE k 0 v = true then 0 else 4)) n0 H [.tmp 2]))) ⟨[(1, .ptr g 0), (3, aI k), (10, aI 0)], n1, H1⟩ := by
 refine LoopK.go (fun r s => ∃ i : Nat, i + r = v.length ∧ s = ⟨[(1, .ptr g 0), (3, aI k), (10, aI i)], n1, H1⟩ ∧ BE k 0 v = BE k i (v.drop i)) v.length ⟨0, by omega, rfl, rfl⟩ ?_
 rintro r s ⟨i, hi, rfl, hE⟩ J hJ
 by_cases hil : i < v.length
 ·obtain ⟨x, hx⟩ : ∃ x, v[i]? = some x := ⟨_, List.getElem?_eq_getElem hil⟩
  have hx' := JL (f := aI) hx
  have hil' : (i : Int) < v.length := by omega
  have hvl : (v.map aI).length = v.length := by simp
  rw [US hx] at hE
  generalize v.map aI = va at *
  have hin := fun a b => MH x a b
  by_cases hv : Fg k i x = true
  ·rw [hv, Bool.true_and] at hE
   unfold Fg at hv
   by_cases hk : k = 2
   ·subst hk
    by_cases h1 : i = 1
    ·subst h1
     have hv : (decide (0 ≤ x) && decide (x ≤ 10000)) = true := by simpa using hv
     have hin := MH x 0 10000
     rw [hv] at hin
     
     repeat' (first | (simp -implicitDefEqProofs [Ce, Cp, Ch, Cm, Ca, Cg, Bj, Bk, Bm, BO, BK, BP, BJ, BR, BQ, c68, -getElem?_pos, q, hx', hvl, hil']) | (simp (disch := omega) only [AF]) | ((with_reducible refine AJ 19 ?_); refine' AZ (hin) ?_) | (with_reducible first | refine A7 ?_ ?_ ?_ | exact AB | refine SameB.upd ?_ ?_ _ | assumption | refine A3 ?_ | refine KM.of ?_ | refine AG ?_ | refine A2 ?_ | refine A5 ?_ | intro _g _hg | refine AE ?_ ?_ | intro _hc) | omega)
     exact hJ (r - 1) _ (by omega) ⟨2, by omega, rfl, hE⟩
    ·by_cases h2 : i = 2
     ·subst h2
      have hv : (decide (1 ≤ x) && decide (x ≤ 9999)) = true := by simpa using hv
      have hin := MH x 1 9999
      rw [hv] at hin
      
      repeat' (first | (simp -implicitDefEqProofs [Ce, Cp, Ch, Cm, Ca, Cg, Bj, Bk, Bm, BO, BK, BP, BJ, BR, BQ, c68, -getElem?_pos, q, hx', hvl, hil']) | (simp (disch := omega) only [AF]) | ((with_reducible refine AJ 19 ?_); refine' AZ (hin) ?_) | (with_reducible first | refine A7 ?_ ?_ ?_ | exact AB | refine SameB.upd ?_ ?_ _ | assumption | refine A3 ?_ | refine KM.of ?_ | refine AG ?_ | refine A2 ?_ | refine A5 ?_ | intro _g _hg | refine AE ?_ ?_ | intro _hc) | omega)
      exact hJ (r - 1) _ (by omega) ⟨3, by omega, rfl, hE⟩
     ·have hv : (decide (0 ≤ x) && decide (x ≤ 9999)) = true := by simpa [h1, h2] using hv
      have hin := MH x 0 9999
      rw [hv] at hin
      have h1' : ¬ (i : Int) = 1 := by omega
      have h2' : ¬ (i : Int) = 2 := by omega
      
      repeat' (first | (simp -implicitDefEqProofs [Ce, Cp, Ch, Cm, Ca, Cg, Bj, Bk, Bm, BO, BK, BP, BJ, BR, BQ, c68, -getElem?_pos, q, hx', hvl, hil', h1', h2']) | (simp (disch := omega) only [AF]) | ((with_reducible refine AJ 19 ?_); refine' AZ (hin) ?_) | (with_reducible first | refine A7 ?_ ?_ ?_ | exact AB | refine SameB.upd ?_ ?_ _ | assumption | refine A3 ?_ | refine KM.of ?_ | refine AG ?_ | refine A2 ?_ | refine A5 ?_ | intro _g _hg | refine AE ?_ ?_ | intro _hc) | omega)
      exact hJ (r - 1) _ (by omega) ⟨i + 1, by omega, rfl, hE⟩
   ·have hv : (decide (0 ≤ x) && decide (x ≤ 9999)) = true := by simpa [hk] using hv
    have hin := MH x 0 9999
    rw [hv] at hin
    
    repeat' (first | (simp -implicitDefEqProofs [Ce, Cp, Ch, Cm, Ca, Cg, Bj, Bk, Bm, BO, BK, BP, BJ, BR, BQ, c68, -getElem?_pos, q, hx', hvl, hil', hk]) | (simp (disch := omega) only [AF]) | ((with_reducible refine AJ 19 ?_); refine' AZ (hin) ?_) | (with_reducible first | refine A7 ?_ ?_ ?_ | exact AB | refine SameB.upd ?_ ?_ _ | assumption | refine A3 ?_ | refine KM.of ?_ | refine AG ?_ | refine A2 ?_ | refine A5 ?_ | intro _g _hg | refine AE ?_ ?_ | intro _hc) | omega)
    exact hJ (r - 1) _ (by omega) ⟨i + 1, by omega, rfl, hE⟩
  ·have hv : Fg k i x = false := by simpa using hv
   rw [hv, Bool.false_and] at hE
   rw [hE]
   unfold Fg at hv
   by_cases hk : k = 2
   ·subst hk
    by_cases h1 : i = 1
    ·subst h1
     have hv : (decide (0 ≤ x) && decide (x ≤ 10000)) = false := by simpa using hv
     have hin := MH x 0 10000
     rw [hv] at hin
     
     repeat' (first | (simp -implicitDefEqProofs [Ce, Cp, Ch, Cm, Ca, Cg, Bj, Bk, Bm, BO, BK, BP, BJ, BR, BQ, c68, -getElem?_pos, q, hx', hvl, hil', A1]) | (simp (disch := omega) only [AF]) | ((with_reducible refine AJ 19 ?_); refine' AZ (hin) ?_) | (with_reducible first | refine A7 ?_ ?_ ?_ | exact AB | refine SameB.upd ?_ ?_ _ | assumption | refine A3 ?_ | refine KM.of ?_ | refine AG ?_ | refine A2 ?_ | refine A5 ?_ | intro _g _hg | refine AE ?_ ?_ | intro _hc) | omega)
    ·by_cases h2 : i = 2
     ·subst h2
      have hv : (decide (1 ≤ x) && decide (x ≤ 9999)) = false := by simpa using hv
      have hin := MH x 1 9999
      rw [hv] at hin
      
      repeat' (first | (simp -implicitDefEqProofs [Ce, Cp, Ch, Cm, Ca, Cg, Bj, Bk, Bm, BO, BK, BP, BJ, BR, BQ, c68, -getElem?_pos, q, hx', hvl, hil', A1]) | (simp (disch := omega) only [AF]) | ((with_reducible refine AJ 19 ?_); refine' AZ (hin) ?_) | (with_reducible first | refine A7 ?_ ?_ ?_ | exact AB | refine SameB.upd ?_ ?_ _ | assumption | refine A3 ?_ | refine KM.of ?_ | refine AG ?_ | refine A2 ?_ | refine A5 ?_ | intro _g _hg | refine AE ?_ ?_ | intro _hc) | omega)
     ·have hv : (decide (0 ≤ x) && decide (x ≤ 9999)) = false := by simpa [h1, h2] using hv
      have hin := MH x 0 9999
      rw [hv] at hin
      have h1' : ¬ (i : Int) = 1 := by omega
      have h2' : ¬ (i : Int) = 2 := by omega
      
      repeat' (first | (simp -implicitDefEqProofs [Ce, Cp, Ch, Cm, Ca, Cg, Bj, Bk, Bm, BO, BK, BP, BJ, BR, BQ, c68, -getElem?_pos, q, hx', hvl, hil', h1', h2', A1]) | (simp (disch := omega) only [AF]) | ((with_reducible refine AJ 19 ?_); refine' AZ (hin) ?_) | (with_reducible first | refine A7 ?_ ?_ ?_ | exact AB | refine SameB.upd ?_ ?_ _ | assumption | refine A3 ?_ | refine KM.of ?_ | refine AG ?_ | refine A2 ?_ | refine A5 ?_ | intro _g _hg | refine AE ?_ ?_ | intro _hc) | omega)
   ·have hv : (decide (0 ≤ x) && decide (x ≤ 9999)) = false := by simpa [hk] using hv
    have hin := MH x 0 9999
    rw [hv] at hin
    
    repeat' (first | (simp -implicitDefEqProofs [Ce, Cp, Ch, Cm, Ca, Cg, Bj, Bk, Bm, BO, BK, BP, BJ, BR, BQ, c68, -getElem?_pos, q, hx', hvl, hil', hk, A1]) | (simp (disch := omega) only [AF]) | ((with_reducible refine AJ 19 ?_); refine' AZ (hin) ?_) | (with_reducible first | refine A7 ?_ ?_ ?_ | exact AB | refine SameB.upd ?_ ?_ _ | assumption | refine A3 ?_ | refine KM.of ?_ | refine AG ?_ | refine A2 ?_ | refine A5 ?_ | intro _g _hg | refine AE ?_ ?_ | intro _hc) | omega)
 ·have hil' : ¬ (i : Int) < v.length := by omega
  rw [S5 (by omega)] at hE
  rw [hE]
  
  repeat' (first | (simp -implicitDefEqProofs [Ce, Cp, Ch, Cm, Ca, Cg, Bj, Bk, Bm, BO, BK, BP, BJ, BR, BQ, c68, -getElem?_pos, q, hil', A1]) | (simp (disch := omega) only [AF]) | (with_reducible first | refine A7 ?_ ?_ ?_ | exact AB | refine SameB.upd ?_ ?_ _ | assumption | refine A3 ?_ | refine KM.of ?_ | refine AG ?_ | refine A2 ?_ | refine A5 ?_ | intro _g _hg | refine AE ?_ ?_ | intro _hc) | omega)
theorem BD {a b : Int} (h : b = a) : A8 (aI a) (aI b) := by subst h; exact A1 _
set_option maxRecDepth 8000 in
theorem W7 (k o m : Int) (v : List Int) (p : List St) (hvb : v.length ≤ 140737488355328) (hk : k = 1 ∨ k = 3 ∨ k = 4 ∨ k = 5) : APure Tryz.prog 68 [encS (.mk k o m v p)] (aI (Bo (.mk k o m v p))) := by
 rw [AQ]
 have hpl := BB p
 obtain ⟨z, hz⟩ : ∃ z, Bo (.mk k o m v p) = z := ⟨_, rfl⟩
 obtain ⟨vb, hvv⟩ : ∃ b, BE k 0 v = b := ⟨_, rfl⟩
 have hgo := FE k o m v p
 rw [hz]
 rcases hk with rfl | rfl | rfl | rfl
 all_goals
  simp [Bo, Bt, ET, G9, IG, CP, F4, O6, TI, TU] at hz
  refine A9 Tryz.func68 SB rfl fun n H hH => ?_
  have hgo := fun g n1 H1 => hgo g n n1 H H1
  rw [hvv] at hgo
  repeat' (first | (simp -implicitDefEqProofs [c68, BQ, BR, BJ, BP, BK, BO, Bm, Bk, Bj, -getElem?_pos, hpl, Bt, IG, CP, F4]) | (simp (disch := omega) only [AF]) | ((with_reducible refine AJ 19 ?_); refine' AZ (MH _ _ _) ?_) | ((with_reducible refine AJ 44 ?_); refine' AZ (OK _) ?_) | ((with_reducible refine AJ 53 ?_); refine' AZ (HS _) ?_) | ((with_reducible refine AJ 55 ?_); refine' AZ (Gb _) ?_) | ((with_reducible refine AJ 58 ?_); refine' AZ (GI _) ?_) | (with_reducible first | refine A7 ?_ ?_ ?_ | exact AB | refine SameB.upd ?_ ?_ _ | assumption | refine A3 ?_ | refine KM.of ?_ | refine AG ?_ | refine A2 ?_ | refine A5 ?_ | intro _g _hg | refine AE ?_ ?_ | intro _hc) | omega)
  all_goals (try (refine BD ?_; rw [← hz]; clear hz hvv hgo; (repeat' split) <;> first | rfl | (exfalso; simp_all; done) | (exfalso; simp_all; omega) | (exfalso; grind); done))
  all_goals (try (have hzz : z = (if vb = true then 0 else 4) := (by rw [← hz, ← hvv]; clear hz hvv hgo; simp_all; try omega); (rw [hzz]; exact hgo _ _ _ (AX _ _ _) (by omega) (fun k hk => upd_ne (by omega)) hvb)))
set_option maxRecDepth 8000 in
theorem X4 (k o m : Int) (v : List Int) (p : List St) (hvb : v.length ≤ 140737488355328) (hk : k = 2 ∨ k = 6 ∨ k = 7 ∨ k = 8) : APure Tryz.prog 68 [encS (.mk k o m v p)] (aI (Bo (.mk k o m v p))) := by
 rw [AQ]
 have hpl := BB p
 obtain ⟨z, hz⟩ : ∃ z, Bo (.mk k o m v p) = z := ⟨_, rfl⟩
 obtain ⟨vb, hvv⟩ : ∃ b, BE k 0 v = b := ⟨_, rfl⟩
 have hgo := FE k o m v p
 rw [hz]
 rcases hk with rfl | rfl | rfl | rfl
 all_goals
  simp [Bo, Bt, ET, G9, IG, CP, F4, O6, TI, TU] at hz
  refine A9 Tryz.func68 SB rfl fun n H hH => ?_
  have hgo := fun g n1 H1 => hgo g n n1 H H1
  rw [hvv] at hgo
  repeat' (first | (simp -implicitDefEqProofs [c68, BQ, BR, BJ, BP, BK, BO, Bm, Bk, Bj, -getElem?_pos, hpl, Bt, IG, CP, F4]) | (simp (disch := omega) only [AF]) | ((with_reducible refine AJ 19 ?_); refine' AZ (MH _ _ _) ?_) | ((with_reducible refine AJ 44 ?_); refine' AZ (OK _) ?_) | ((with_reducible refine AJ 53 ?_); refine' AZ (HS _) ?_) | ((with_reducible refine AJ 55 ?_); refine' AZ (Gb _) ?_) | ((with_reducible refine AJ 58 ?_); refine' AZ (GI _) ?_) | (with_reducible first | refine A7 ?_ ?_ ?_ | exact AB | refine SameB.upd ?_ ?_ _ | assumption | refine A3 ?_ | refine KM.of ?_ | refine AG ?_ | refine A2 ?_ | refine A5 ?_ | intro _g _hg | refine AE ?_ ?_ | intro _hc) | omega)
  all_goals (try (refine BD ?_; rw [← hz]; clear hz hvv hgo; (repeat' split) <;> first | rfl | (exfalso; simp_all; done) | (exfalso; simp_all; omega) | (exfalso; grind); done))
  all_goals (try (have hzz : z = (if vb = true then 0 else 4) := (by rw [← hz, ← hvv]; clear hz hvv hgo; simp_all; try omega); (rw [hzz]; exact hgo _ _ _ (AX _ _ _) (by omega) (fun k hk => upd_ne (by omega)) hvb)))
set_option maxRecDepth 8000 in
theorem Wf (k o m : Int) (v : List Int) (p : List St) (hvb : v.length ≤ 140737488355328) (hk : k = 9 ∨ k = 10 ∨ k = 11 ∨ k = 12) : APure Tryz.prog 68 [encS (.mk k o m v p)] (aI (Bo (.mk k o m v p))) := by
 rw [AQ]
 have hpl := BB p
 obtain ⟨z, hz⟩ : ∃ z, Bo (.mk k o m v p) = z := ⟨_, rfl⟩
 obtain ⟨vb, hvv⟩ : ∃ b, BE k 0 v = b := ⟨_, rfl⟩
 have hgo := FE k o m v p
 rw [hz]
 rcases hk with rfl | rfl | rfl | rfl
 all_goals
  simp [Bo, Bt, ET, G9, IG, CP, F4, O6, TI, TU] at hz
  refine A9 Tryz.func68 SB rfl fun n H hH => ?_
  have hgo := fun g n1 H1 => hgo g n n1 H H1
  rw [hvv] at hgo
  repeat' (first | (simp -implicitDefEqProofs [c68, BQ, BR, BJ, BP, BK, BO, Bm, Bk, Bj, -getElem?_pos, hpl, Bt, IG, CP, F4]) | (simp (disch := omega) only [AF]) | ((with_reducible refine AJ 19 ?_); refine' AZ (MH _ _ _) ?_) | ((with_reducible refine AJ 44 ?_); refine' AZ (OK _) ?_) | ((with_reducible refine AJ 53 ?_); refine' AZ (HS _) ?_) | ((with_reducible refine AJ 55 ?_); refine' AZ (Gb _) ?_) | ((with_reducible refine AJ 58 ?_); refine' AZ (GI _) ?_) | (with_reducible first | refine A7 ?_ ?_ ?_ | exact AB | refine SameB.upd ?_ ?_ _ | assumption | refine A3 ?_ | refine KM.of ?_ | refine AG ?_ | refine A2 ?_ | refine A5 ?_ | intro _g _hg | refine AE ?_ ?_ | intro _hc) | omega)
  all_goals (try (refine BD ?_; rw [← hz]; clear hz hvv hgo; (repeat' split) <;> first | rfl | (exfalso; simp_all; done) | (exfalso; simp_all; omega) | (exfalso; grind); done))
  all_goals (try (have hzz : z = (if vb = true then 0 else 4) := (by rw [← hz, ← hvv]; clear hz hvv hgo; simp_all; try omega); (rw [hzz]; exact hgo _ _ _ (AX _ _ _) (by omega) (fun k hk => upd_ne (by omega)) hvb)))
set_option maxRecDepth 8000 in
theorem XK (k o m : Int) (v : List Int) (p : List St) (hvb : v.length ≤ 140737488355328) (hk : k = 13 ∨ k = 14 ∨ k = 15 ∨ k = 16) : APure Tryz.prog 68 [encS (.mk k o m v p)] (aI (Bo (.mk k o m v p))) := by
 rw [AQ]
 have hpl := BB p
 obtain ⟨z, hz⟩ : ∃ z, Bo (.mk k o m v p) = z := ⟨_, rfl⟩
 obtain ⟨vb, hvv⟩ : ∃ b, BE k 0 v = b := ⟨_, rfl⟩
 have hgo := FE k o m v p
 rw [hz]
 rcases hk with rfl | rfl | rfl | rfl
 all_goals
  simp [Bo, Bt, ET, G9, IG, CP, F4, O6, TI, TU] at hz
  refine A9 Tryz.func68 SB rfl fun n H hH => ?_
  have hgo := fun g n1 H1 => hgo g n n1 H H1
  rw [hvv] at hgo
  repeat' (first | (simp -implicitDefEqProofs [c68, BQ, BR, BJ, BP, BK, BO, Bm, Bk, Bj, -getElem?_pos, hpl, Bt, IG, CP, F4]) | (simp (disch := omega) only [AF]) | ((with_reducible refine AJ 19 ?_); refine' AZ (MH _ _ _) ?_) | ((with_reducible refine AJ 44 ?_); refine' AZ (OK _) ?_) | ((with_reducible refine AJ 53 ?_); refine' AZ (HS _) ?_) | ((with_reducible refine AJ 55 ?_); refine' AZ (Gb _) ?_) | ((with_reducible refine AJ 58 ?_); refine' AZ (GI _) ?_) | (with_reducible first | refine A7 ?_ ?_ ?_ | exact AB | refine SameB.upd ?_ ?_ _ | assumption | refine A3 ?_ | refine KM.of ?_ | refine AG ?_ | refine A2 ?_ | refine A5 ?_ | intro _g _hg | refine AE ?_ ?_ | intro _hc) | omega)
  all_goals (try (refine BD ?_; rw [← hz]; clear hz hvv hgo; (repeat' split) <;> first | rfl | (exfalso; simp_all; done) | (exfalso; simp_all; omega) | (exfalso; grind); done))
  all_goals (try (have hzz : z = (if vb = true then 0 else 4) := (by rw [← hz, ← hvv]; clear hz hvv hgo; simp_all; try omega); (rw [hzz]; exact hgo _ _ _ (AX _ _ _) (by omega) (fun k hk => upd_ne (by omega)) hvb)))
theorem Qr (k o m : Int) (v : List Int) (p : List St) (hvb : v.length ≤ 140737488355328) : APure Tryz.prog 68 [encS (.mk k o m v p)] (aI (Bo (.mk k o m v p))) := by
 by_cases hk : 1 ≤ k ∧ k ≤ 16
 ·rcases (by omega : (k = 1 ∨ k = 3 ∨ k = 4 ∨ k = 5) ∨ (k = 2 ∨ k = 6 ∨ k = 7 ∨ k = 8) ∨ (k = 9 ∨ k = 10 ∨ k = 11 ∨ k = 12) ∨ (k = 13 ∨ k = 14 ∨ k = 15 ∨ k = 16)) with h | h | h | h
  ·exact W7 k o m v p hvb h
  ·exact X4 k o m v p hvb h
  ·exact Wf k o m v p hvb h
  ·exact XK k o m v p hvb h
 ·have hin := MH k 1 16
  have : (decide (1 ≤ k) && decide (k ≤ 16)) = false := by simp; omega
  rw [this] at hin
  have hnc : Bo (.mk k o m v p) = 5 := by simp only [Bo]; rw [if_pos hk]
  rw [hnc, AQ]
  
  refine A9 Tryz.func68 SB rfl fun n H hH => ?_
  repeat' (first | (simp -implicitDefEqProofs [c68, -getElem?_pos, A1]) | (simp (disch := omega) only [AF]) | ((with_reducible refine AJ 19 ?_); refine' AZ (hin) ?_) | (with_reducible first | refine A7 ?_ ?_ ?_ | exact AB | refine SameB.upd ?_ ?_ _ | assumption | refine A3 ?_ | refine KM.of ?_ | refine AG ?_ | refine A2 ?_ | refine A5 ?_ | intro _g _hg | refine AE ?_ ?_ | intro _hc) | omega)
structure Shq where
 w : AW
 parts : Int
 fn : Bool
 cd : Bool
 n0 : Int
 n1 : Int
 vs : Bool
abbrev RK (x : Shq) : AV := .agg [.str x.w, aI x.parts, .bool x.fn, .bool x.cd, aI x.n0, aI x.n1, .bool x.vs]
def shqs : List Shq := [
 ⟨[118, 97, 108, 117, 101, 115], 0, false, false, 0, 0, true⟩,
 ⟨[114, 97, 110, 103, 101], 0, false, false, 0, 0, true⟩,
 ⟨[109, 97, 112], 1, true, false, 0, 0, false⟩,
 ⟨[102, 105, 108, 116, 101, 114], 1, false, true, 0, 0, false⟩,
 ⟨[116, 97, 107, 101], 1, false, false, 0, 5000, false⟩,
 ⟨[100, 114, 111, 112], 1, false, false, 0, 5000, false⟩,
 ⟨[119, 104, 105, 108, 101], 1, false, true, 0, 0, false⟩,
 ⟨[115, 107, 105, 112], 1, false, true, 0, 0, false⟩,
 ⟨[115, 99, 97, 110], 1, true, false, 0, 0, false⟩,
 ⟨[119, 105, 110, 100, 111, 119], 1, true, false, 1, 8, false⟩,
 ⟨[114, 117, 110, 115], 1, false, false, 0, 0, false⟩,
 ⟨[114, 101, 112, 101, 97, 116], 1, false, false, 0, 20, false⟩,
 ⟨[99, 104, 97, 105, 110], -1, false, false, 0, 0, false⟩,
 ⟨[116, 117, 114, 110, 115], -1, false, false, 0, 0, false⟩,
 ⟨[122, 105, 112], 2, true, false, 0, 0, false⟩,
 ⟨[109, 101, 114, 103, 101], 2, false, false, 0, 0, false⟩]
def shpMap : List (AV × AV) := [
 (aI 1, .agg [.str [118, 97, 108, 117, 101, 115], aI 0, .bool false, .bool false, aI 0, aI 0, .bool true]),
 (aI 2, .agg [.str [114, 97, 110, 103, 101], aI 0, .bool false, .bool false, aI 0, aI 0, .bool true]),
 (aI 3, .agg [.str [109, 97, 112], aI 1, .bool true, .bool false, aI 0, aI 0, .bool false]),
 (aI 4, .agg [.str [102, 105, 108, 116, 101, 114], aI 1, .bool false, .bool true, aI 0, aI 0, .bool false]),
 (aI 5, .agg [.str [116, 97, 107, 101], aI 1, .bool false, .bool false, aI 0, aI 5000, .bool false]),
 (aI 6, .agg [.str [100, 114, 111, 112], aI 1, .bool false, .bool false, aI 0, aI 5000, .bool false]),
 (aI 7, .agg [.str [119, 104, 105, 108, 101], aI 1, .bool false, .bool true, aI 0, aI 0, .bool false]),
 (aI 8, .agg [.str [115, 107, 105, 112], aI 1, .bool false, .bool true, aI 0, aI 0, .bool false]),
 (aI 9, .agg [.str [115, 99, 97, 110], aI 1, .bool true, .bool false, aI 0, aI 0, .bool false]),
 (aI 10, .agg [.str [119, 105, 110, 100, 111, 119], aI 1, .bool true, .bool false, aI 1, aI 8, .bool false]),
 (aI 11, .agg [.str [114, 117, 110, 115], aI 1, .bool false, .bool false, aI 0, aI 0, .bool false]),
 (aI 12, .agg [.str [114, 101, 112, 101, 97, 116], aI 1, .bool false, .bool false, aI 0, aI 20, .bool false]),
 (aI 13, .agg [.str [99, 104, 97, 105, 110], aI (-1), .bool false, .bool false, aI 0, aI 0, .bool false]),
 (aI 14, .agg [.str [116, 117, 114, 110, 115], aI (-1), .bool false, .bool false, aI 0, aI 0, .bool false]),
 (aI 15, .agg [.str [122, 105, 112], aI 2, .bool true, .bool false, aI 0, aI 0, .bool false]),
 (aI 16, .agg [.str [109, 101, 114, 103, 101], aI 2, .bool false, .bool false, aI 0, aI 0, .bool false])]
theorem OV (k o m : Int) (v : List Int) (p : List St) (x : Shq) : APure Tryz.prog 93 [encS (.mk k o m v p), RK x] (.bool (if x.cd = true then decide (1 ≤ o) && decide (o ≤ 3) else if x.fn = true ∧ k = 3 then decide (1 ≤ o) && decide (o ≤ 6) else if x.fn = true then decide (1 ≤ o) && decide (o ≤ 5) else true)) := by
 rw [AQ]
 obtain ⟨w, parts, fn, cd, n0, n1, vs⟩ := x
 refine A9 Tryz.func93 A2y rfl fun n H hH => ?_
 repeat' (first | (simp -implicitDefEqProofs [V9, Uw, VP, c93, -getElem?_pos, splice, A8]) | (simp (disch := omega) only [AF]) | (with_reducible first | refine A7 ?_ ?_ ?_ | exact AB | refine SameB.upd ?_ ?_ _ | assumption | refine A3 ?_ | refine KM.of ?_ | refine AG ?_ | refine A2 ?_ | refine A5 ?_ | intro _g _hg | refine AE ?_ ?_ | intro _hc) | omega)
 all_goals grind
theorem Ow (k o m : Int) (v : List Int) (p : List St) (x : Shq) : APure Tryz.prog 94 [encS (.mk k o m v p), RK x] (.bool (if 0 < x.n1 then decide (x.n0 ≤ m) && decide (m ≤ x.n1) else decide ((if (x.cd = true ∧ o = 3) ∨ (x.fn = true ∧ o = 6) then 1 else 0) ≤ m) && decide (m ≤ 9999))) := by
 rw [AQ]
 obtain ⟨w, parts, fn, cd, n0, n1, vs⟩ := x
 refine A9 Tryz.func94 A2n rfl fun n H hH => ?_
 repeat' (first | (simp -implicitDefEqProofs [Us, VU, c94, -getElem?_pos, splice, A8]) | (simp (disch := omega) only [AF]) | (with_reducible first | refine A7 ?_ ?_ ?_ | exact AB | refine SameB.upd ?_ ?_ _ | assumption | refine A3 ?_ | refine KM.of ?_ | refine AG ?_ | refine A2 ?_ | refine A5 ?_ | intro _g _hg | refine AE ?_ ?_ | intro _hc) | omega)
 all_goals grind
theorem SM (k o m : Int) (v : List Int) (p : List St) (hvb : v.length ≤ 140737488355328) (h3 : k = 2 → v.length = 3) : APure Tryz.prog 95 [encS (.mk k o m v p)] (.bool (BE k 0 v)) := by
 rw [AQ]
 refine A9 Tryz.func95 A2k rfl fun n H hH => ?_
 repeat' (first | (simp -implicitDefEqProofs [c95, -getElem?_pos, A8]) | (simp (disch := omega) only [AF]) | (with_reducible first | refine A7 ?_ ?_ ?_ | exact AB | refine SameB.upd ?_ ?_ _ | assumption | refine A3 ?_ | refine KM.of ?_ | refine AG ?_ | refine A2 ?_ | refine A5 ?_ | intro _g _hg | refine AE ?_ ?_ | intro _hc) | omega)
 refine LoopK.go (fun r s => ∃ i : Nat, i + r = v.length ∧ s = ⟨[(1, .ptr _g 0), (8, .sl 1 (v.map aI) .ro), (9, aI v.length), (10, aI i)], _g + 1, upd H _g (some (.cells 25 [aI k, aI o, aI m, .sl 1 (v.map aI) .ro, .sl 5 (Ae p) .ro]))⟩ ∧ BE k 0 v = BE k i (v.drop i)) v.length ⟨0, by omega, by simp, rfl⟩ ?_
 rintro r s ⟨i, hi, rfl, hE⟩ J hJ
 by_cases hil : i < v.length
 ·obtain ⟨x, hx⟩ : ∃ x, v[i]? = some x := ⟨_, List.getElem?_eq_getElem hil⟩
  have hx' := JL (f := aI) hx
  have hil' : (i : Int) < v.length := by omega
  have hvl : (v.map aI).length = v.length := by simp
  rw [US hx] at hE
  generalize v.map aI = va at *
  by_cases hk : k = 2
  ·have h3 := h3 hk
   subst hk
   rcases (by omega : i = 0 ∨ i = 1 ∨ i = 2) with rfl | rfl | rfl
   all_goals (repeat' (first | (simp -implicitDefEqProofs [N4, N3, NF, Mi, NJ, NG, c95, -getElem?_pos, hx', hvl, hil', A8]) | (simp (disch := omega) only [AF]) | (with_reducible first | refine A7 ?_ ?_ ?_ | exact AB | refine SameB.upd ?_ ?_ _ | assumption | refine A3 ?_ | refine KM.of ?_ | refine AG ?_ | refine A2 ?_ | refine A5 ?_ | intro _g _hg | refine AE ?_ ?_ | intro _hc) | omega))
   all_goals (first | (exact hJ (r - 1) _ (by omega) ⟨1, by omega, rfl, by rw [hE]; simp only [Fg]; grind⟩) | (exact hJ (r - 1) _ (by omega) ⟨2, by omega, rfl, by rw [hE]; simp only [Fg]; grind⟩) | (exact hJ (r - 1) _ (by omega) ⟨3, by omega, rfl, by rw [hE]; simp only [Fg]; grind⟩) | (rw [hE]; simp only [Fg]; grind) | skip)
  ·repeat' (first | (simp -implicitDefEqProofs [N4, N3, NF, Mi, NJ, NG, c95, -getElem?_pos, hx', hvl, hil', hk, A8]) | (simp (disch := omega) only [AF]) | (with_reducible first | refine A7 ?_ ?_ ?_ | exact AB | refine SameB.upd ?_ ?_ _ | assumption | refine A3 ?_ | refine KM.of ?_ | refine AG ?_ | refine A2 ?_ | refine A5 ?_ | intro _g _hg | refine AE ?_ ?_ | intro _hc) | omega)
   all_goals (first | (exact hJ (r - 1) _ (by omega) ⟨i + 1, by omega, rfl, by rw [hE]; simp only [Fg]; grind⟩) | (rw [hE]; simp only [Fg]; grind) | skip)
 ·have hil' : ¬ (i : Int) < v.length := by omega
  rw [S5 (by omega)] at hE
  rw [hE]
  repeat' (first | (simp -implicitDefEqProofs [N4, N3, NF, Mi, NJ, NG, c95, -getElem?_pos, hil', A8]) | (simp (disch := omega) only [AF]) | (with_reducible first | refine A7 ?_ ?_ ?_ | exact AB | refine SameB.upd ?_ ?_ _ | assumption | refine A3 ?_ | refine KM.of ?_ | refine AG ?_ | refine A2 ?_ | refine A5 ?_ | intro _g _hg | refine AE ?_ ?_ | intro _hc) | omega)
set_option maxRecDepth 8000 in
theorem Ex (n : Nat) (H : A4) : ACalls Tryz.prog 39 [] n H fun r n' H' => ∃ g, r = .mp g ∧ n ≤ g ∧ n' = g + 1 ∧ H' = upd H g (some (.map (some .i64) shpMap)) := by
 refine Ab Tryz.func39 A2c rfl fun hs => ?_
 repeat' (first | (simp -implicitDefEqProofs [c39, -getElem?_pos]) | (simp (disch := omega) only [AF]) | (with_reducible first | refine A7 ?_ ?_ ?_ | exact AB | assumption | refine A3 ?_ | refine KM.of ?_ | refine AG ?_ | refine YN ?_ | intro _g _hg | refine AE ?_ ?_ | intro _hc) | omega)
 simp only [M5]
 exact BI (r := .mp _) rfl (by omega) (fun k hk => by rw [upd_ne (by omega)]; exact hs k (by omega)) ⟨_, rfl, by omega, rfl, rfl⟩
set_option maxRecDepth 8000 in
theorem Y9 (k o m : Int) (v : List Int) (p : List St) (hvb : v.length ≤ 140737488355328) (hk : k = 1 ∨ k = 2 ∨ k = 3 ∨ k = 4 ∨ k = 5 ∨ k = 6 ∨ k = 7 ∨ k = 8) (g gs n : Nat) (at_ : Int) (H : A4) (hg : H g = some (.cells 70 [.mp gs, aI at_])) (hgs : H gs = some (.map (some .i64) shpMap)) : APureAt Tryz.prog 69 [.ptr g 0, encS (.mk k o m v p)] n H (aI (Bo (.mk k o m v p))) := by
 obtain ⟨z, hz⟩ : ∃ z, Bo (.mk k o m v p) = z := ⟨_, rfl⟩
 rw [hz]
 obtain ⟨x, hx, hfd⟩ : ∃ x, shqs[(k - 1).toNat]? = some x ∧ BG (.int .i64 k) shpMap = some (RK x) := by
  rcases hk with rfl | rfl | rfl | rfl | rfl | rfl | rfl | rfl <;> exact ⟨_, rfl, rfl⟩
 have ho := OV k o m v p x
 have hn := Ow k o m v p x
 have hpl := BB p
 have hva : v.length = 3 ∨ k ≠ 2 → APure Tryz.prog 95 [encS (.mk k o m v p)] (.bool (BE k 0 v)) := fun h => SM k o m v p hvb (fun e => by omega)
 rw [AQ] at ho hn hva ⊢
 rcases hk with rfl | rfl | rfl | rfl | rfl | rfl | rfl | rfl
 all_goals
  simp [Bo, Bt, ET, G9, IG, CP, F4, O6, TI, TU] at hz
  refine D2 Tryz.func69 X9 rfl fun hH => ?_
  have hgn : g < n := by
   rcases Nat.lt_or_ge g n with h | h
   ·exact h
   ·rw [hH g h] at hg; cases hg
  have hsn : gs < n := by
   rcases Nat.lt_or_ge gs n with h | h
   ·exact h
   ·rw [hH gs h] at hgs; cases hgs
  generalize shpMap = sm at *
  simp [shqs] at hx
  subst hx
  simp only [RK] at ho hn hfd
  
  repeat' (first | (simp -implicitDefEqProofs [Mc, Mt, My, NE, c69, -getElem?_pos, hg, hgs, hfd, hpl, splice]) | (simp (disch := omega) only [AF]) | ((with_reducible refine AJ 93 ?_); refine' AZ (ho) ?_) | ((with_reducible refine AJ 94 ?_); refine' AZ (hn) ?_) | ((with_reducible refine AJ 95 ?_); refine' AZ ((hva (by omega))) ?_) | (with_reducible first | refine A7 ?_ ?_ ?_ | exact AB | refine SameB.upd ?_ ?_ _ | assumption | refine A3 ?_ | refine KM.of ?_ | refine AG ?_ | refine A2 ?_ | refine A5 ?_ | intro _g _hg | refine AE ?_ ?_ | intro _hc) | omega)
  all_goals (refine BD ?_; first | grind | (rw [← hz]; clear hz; (repeat' split) <;> first | rfl | (exfalso; simp_all; done) | (exfalso; simp_all; omega) | (exfalso; grind)))
set_option maxRecDepth 8000 in
theorem YR (k o m : Int) (v : List Int) (p : List St) (hvb : v.length ≤ 140737488355328) (hk : k = 9 ∨ k = 10 ∨ k = 11 ∨ k = 12 ∨ k = 13 ∨ k = 14 ∨ k = 15 ∨ k = 16) (g gs n : Nat) (at_ : Int) (H : A4) (hg : H g = some (.cells 70 [.mp gs, aI at_])) (hgs : H gs = some (.map (some .i64) shpMap)) : APureAt Tryz.prog 69 [.ptr g 0, encS (.mk k o m v p)] n H (aI (Bo (.mk k o m v p))) := by
 obtain ⟨z, hz⟩ : ∃ z, Bo (.mk k o m v p) = z := ⟨_, rfl⟩
 rw [hz]
 obtain ⟨x, hx, hfd⟩ : ∃ x, shqs[(k - 1).toNat]? = some x ∧ BG (.int .i64 k) shpMap = some (RK x) := by
  rcases hk with rfl | rfl | rfl | rfl | rfl | rfl | rfl | rfl <;> exact ⟨_, rfl, rfl⟩
 have ho := OV k o m v p x
 have hn := Ow k o m v p x
 have hpl := BB p
 have hva : v.length = 3 ∨ k ≠ 2 → APure Tryz.prog 95 [encS (.mk k o m v p)] (.bool (BE k 0 v)) := fun h => SM k o m v p hvb (fun e => by omega)
 rw [AQ] at ho hn hva ⊢
 rcases hk with rfl | rfl | rfl | rfl | rfl | rfl | rfl | rfl
 all_goals
  simp [Bo, Bt, ET, G9, IG, CP, F4, O6, TI, TU] at hz
  refine D2 Tryz.func69 X9 rfl fun hH => ?_
  have hgn : g < n := by
   rcases Nat.lt_or_ge g n with h | h
   ·exact h
   ·rw [hH g h] at hg; cases hg
  have hsn : gs < n := by
   rcases Nat.lt_or_ge gs n with h | h
   ·exact h
   ·rw [hH gs h] at hgs; cases hgs
  generalize shpMap = sm at *
  simp [shqs] at hx
  subst hx
  simp only [RK] at ho hn hfd
  
  repeat' (first | (simp -implicitDefEqProofs [Mc, Mt, My, NE, c69, -getElem?_pos, hg, hgs, hfd, hpl, splice]) | (simp (disch := omega) only [AF]) | ((with_reducible refine AJ 93 ?_); refine' AZ (ho) ?_) | ((with_reducible refine AJ 94 ?_); refine' AZ (hn) ?_) | ((with_reducible refine AJ 95 ?_); refine' AZ ((hva (by omega))) ?_) | (with_reducible first | refine A7 ?_ ?_ ?_ | exact AB | refine SameB.upd ?_ ?_ _ | assumption | refine A3 ?_ | refine KM.of ?_ | refine AG ?_ | refine A2 ?_ | refine A5 ?_ | intro _g _hg | refine AE ?_ ?_ | intro _hc) | omega)
  all_goals (refine BD ?_; first | grind | (rw [← hz]; clear hz; (repeat' split) <;> first | rfl | (exfalso; simp_all; done) | (exfalso; simp_all; omega) | (exfalso; grind)))
end Go.Proofs.YtjdccdelcnmocaaGreatDoor
