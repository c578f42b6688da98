/- That the library texts at this seat are those that the contracts of the shelf speak of; no condition. -/
import Derived.Shelf.Strings.Fields
import Derived.Shelf.Strconv.Itoa3
import Derived.Shelf.Strings.OnBuilder
import Derived.Test.YtjdccdelcnmocaaGreatDoorProg
import Derived.Shelf.Strconv.AtoiAll
import Derived.Test.YtjdccdelcnmocaaGreatDoorMgA
import Derived.Test.YtjdccdelcnmocaaGreatDoorMgJ
import Derived.Test.YtjdccdelcnmocaaGreatDoorAdE
import Derived.Lib.AppendIntMem
import Derived.Lib.AtoiAllCases
import Derived.Lib.ItoaLen
import Derived.Lib.Split
import Derived.Lib.SplitLaws
set_option linter.all false
set_option linter.unusedSimpArgs false
set_option linter.unusedVariables false
set_option maxHeartbeats 16000000
namespace Go.Proofs.YtjdccdelcnmocaaGreatDoor
open Go.Shelf
def RE : Go.Shelf.Ren := ⟨fun | 171 => 120 | 243 => 140 | 246 => 149 | 283 => 155 | 284 => 156 | 285 => 157 | 286 => 158 | 129 => 167 | 317 => 166 | 318 => 168 | 319 => 169 | 320 => 170 | 337 => 174 | 338 => 175 | n => n, fun | 3 => 3 | 9 => 9 | 2 => 2 | 4 => 4 | 171 => 159 | 0 => 0 | 53 => 160 | 37 => 127 | 5 => 5 | 173 => 163 | 212 => 184 | 51 => 156 | 20 => 20 | 213 => 185 | 46 => 186 | 232 => 201 | 233 => 202 | n => n, fun | 17 => 3 | 18 => 6 | 19 => 7 | n => n⟩
theorem XN : Go.Proofs.LaysM.n171 Tryz.prog RE := {
 mixed := by kernel_rfl
 f129 := Tryz.func167.trans (congrArg some (by kernel_rfl))
 f171 := Tryz.func120.trans (congrArg some (by kernel_rfl))
 f243 := Tryz.func140.trans (congrArg some (by kernel_rfl))
 f246 := Tryz.func149.trans (congrArg some (by kernel_rfl))
 f283 := Tryz.func155.trans (congrArg some (by kernel_rfl))
 f284 := Tryz.func156.trans (congrArg some (by kernel_rfl))
 f285 := Tryz.func157.trans (congrArg some (by kernel_rfl))
 f286 := Tryz.func158.trans (congrArg some (by kernel_rfl))
 f317 := Tryz.func166.trans (congrArg some (by kernel_rfl))
 f318 := Tryz.func168.trans (congrArg some (by kernel_rfl))
 f319 := Tryz.func169.trans (congrArg some (by kernel_rfl))
 f320 := Tryz.func170.trans (congrArg some (by kernel_rfl))
 f337 := Tryz.func174.trans (congrArg some (by kernel_rfl))
 f338 := Tryz.func175.trans (congrArg some (by kernel_rfl))
 t0 := Tryz.underlying0
 a0 := Tryz.isAgg0
 z0 := Tryz.sizeOf0
 v0 := Tryz.zeroValue0
 t2 := Tryz.underlying2
 a2 := Tryz.isAgg2
 z2 := Tryz.sizeOf2
 v2 := Tryz.zeroValue2
 t3 := Tryz.underlying3
 a3 := Tryz.isAgg3
 z3 := Tryz.sizeOf3
 v3 := Tryz.zeroValue3
 t4 := Tryz.underlying4
 a4 := Tryz.isAgg4
 z4 := Tryz.sizeOf4
 v4 := Tryz.zeroValue4
 t5 := Tryz.underlying5
 a5 := Tryz.isAgg5
 z5 := Tryz.sizeOf5
 v5 := Tryz.zeroValue5
 t9 := Tryz.underlying9
 a9 := Tryz.isAgg9
 z9 := Tryz.sizeOf9
 v9 := Tryz.zeroValue9
 t20 := Tryz.underlying20
 a20 := Tryz.isAgg20
 z20 := Tryz.sizeOf20
 v20 := Tryz.zeroValue20
 t37 := Tryz.underlying127
 a37 := Tryz.isAgg127
 z37 := Tryz.sizeOf127
 v37 := Tryz.zeroValue127
 t46 := Tryz.underlying186
 a46 := Tryz.isAgg186
 z46 := Tryz.sizeOf186
 v46 := Tryz.zeroValue186
 t51 := Tryz.underlying156
 a51 := Tryz.isAgg156
 z51 := Tryz.sizeOf156
 v51 := Tryz.zeroValue156
 t53 := Tryz.underlying160
 a53 := Tryz.isAgg160
 z53 := Tryz.sizeOf160
 v53 := Tryz.zeroValue160
 t171 := Tryz.underlying159
 a171 := Tryz.isAgg159
 z171 := Tryz.sizeOf159
 v171 := Tryz.zeroValue159
 t173 := Tryz.underlying163
 a173 := Tryz.isAgg163
 z173 := Tryz.sizeOf163
 v173 := Tryz.zeroValue163
 t212 := Tryz.underlying184
 a212 := Tryz.isAgg184
 z212 := Tryz.sizeOf184
 v212 := Tryz.zeroValue184
 t213 := Tryz.underlying185
 a213 := Tryz.isAgg185
 z213 := Tryz.sizeOf185
 t232 := Tryz.underlying201
 a232 := Tryz.isAgg201
 z232 := Tryz.sizeOf201
 v232 := Tryz.zeroValue201
 t233 := Tryz.underlying202
 a233 := Tryz.isAgg202
 z233 := Tryz.sizeOf202
 v233 := Tryz.zeroValue202
 g17 := by kernel_rfl
 g18 := by kernel_rfl
 g19 := by kernel_rfl
 i0 := by kernel_rfl
 i2 := by kernel_rfl
 i3 := by kernel_rfl
 i4 := by kernel_rfl
 i5 := by kernel_rfl
 i9 := by kernel_rfl
 i20 := by kernel_rfl
 i37 := by kernel_rfl
 i46 := by kernel_rfl
 i51 := by kernel_rfl
 i53 := by kernel_rfl
 i171 := by kernel_rfl
 i173 := by kernel_rfl
 i212 := by kernel_rfl
 i232 := by kernel_rfl
 i233 := by kernel_rfl
 m17 := by kernel_rfl
 m18 := by kernel_rfl
 m19 := by kernel_rfl }
def Nx : Go.Shelf.Ren := ⟨fun | 156 => 83 | 165 => 121 | 166 => 122 | 169 => 123 | 240 => 141 | 241 => 142 | 276 => 150 | 277 => 151 | n => n, fun | 31 => 87 | 9 => 9 | 3 => 3 | 4 => 4 | 0 => 0 | 20 => 20 | 72 => 129 | 76 => 133 | 70 => 126 | 37 => 127 | 75 => 132 | 127 => 143 | 164 => 149 | 5 => 5 | 80 => 112 | n => n, fun | n => n⟩
theorem Ub : Go.Proofs.Lays.n156 Tryz.prog Nx := {
 mixed := by kernel_rfl
 f156 := Tryz.func83.trans (congrArg some (by kernel_rfl))
 f165 := Tryz.func121.trans (congrArg some (by kernel_rfl))
 f166 := Tryz.func122.trans (congrArg some (by kernel_rfl))
 f169 := Tryz.func123.trans (congrArg some (by kernel_rfl))
 f240 := Tryz.func141.trans (congrArg some (by kernel_rfl))
 f241 := Tryz.func142.trans (congrArg some (by kernel_rfl))
 f276 := Tryz.func150.trans (congrArg some (by kernel_rfl))
 f277 := Tryz.func151.trans (congrArg some (by kernel_rfl))
 t0 := Tryz.underlying0
 a0 := Tryz.isAgg0
 z0 := Tryz.sizeOf0
 v0 := Tryz.zeroValue0
 t3 := Tryz.underlying3
 a3 := Tryz.isAgg3
 z3 := Tryz.sizeOf3
 v3 := Tryz.zeroValue3
 t4 := Tryz.underlying4
 a4 := Tryz.isAgg4
 z4 := Tryz.sizeOf4
 v4 := Tryz.zeroValue4
 t9 := Tryz.underlying9
 a9 := Tryz.isAgg9
 z9 := Tryz.sizeOf9
 v9 := Tryz.zeroValue9
 t20 := Tryz.underlying20
 a20 := Tryz.isAgg20
 z20 := Tryz.sizeOf20
 v20 := Tryz.zeroValue20
 t31 := Tryz.underlying87
 a31 := Tryz.isAgg87
 z31 := Tryz.sizeOf87
 v31 := Tryz.zeroValue87
 t37 := Tryz.underlying127
 a37 := Tryz.isAgg127
 z37 := Tryz.sizeOf127
 v37 := Tryz.zeroValue127
 t70 := Tryz.underlying126
 a70 := Tryz.isAgg126
 z70 := Tryz.sizeOf126
 v70 := Tryz.zeroValue126
 t72 := Tryz.underlying129
 a72 := Tryz.isAgg129
 z72 := Tryz.sizeOf129
 v72 := Tryz.zeroValue129
 t75 := Tryz.underlying132
 a75 := Tryz.isAgg132
 z75 := Tryz.sizeOf132
 v75 := Tryz.zeroValue132
 t76 := Tryz.underlying133
 a76 := Tryz.isAgg133
 z76 := Tryz.sizeOf133
 v76 := Tryz.zeroValue133
 t127 := Tryz.underlying143
 a127 := Tryz.isAgg143
 z127 := Tryz.sizeOf143
 v127 := Tryz.zeroValue143
 t164 := Tryz.underlying149
 a164 := Tryz.isAgg149
 z164 := Tryz.sizeOf149
 v164 := Tryz.zeroValue149 }
theorem Gl : Builder.Extra Tryz.prog Nx := {
 sizeBuilder := by kernel_rfl
 liesBuilder := by kernel_rfl
 t5 := Tryz.underlying5
 a5 := Tryz.isAgg5
 z5 := Tryz.sizeOf5
 v5 := Tryz.zeroValue5
 infoByte := by kernel_rfl
 cellsByte := by kernel_rfl
 sizeByte := by kernel_rfl
 neB5 := by decide }
def SU : Go.Shelf.Ren := ⟨fun | 157 => 139 | 229 => 147 | 199 => 148 | 261 => 154 | 311 => 164 | 312 => 165 | n => n, fun | 9 => 9 | 31 => 87 | 3 => 3 | 5 => 5 | 4 => 4 | 119 => 145 | 0 => 0 | 40 => 147 | 152 => 153 | 21 => 21 | 154 => 155 | 51 => 156 | 141 => 158 | 196 => 174 | 193 => 171 | 198 => 177 | 49 => 175 | 194 => 172 | 201 => 180 | 226 => 194 | 46 => 186 | 227 => 195 | n => n, fun | 0 => 0 | 6 => 1 | n => n⟩
theorem ZM : Go.Proofs.Lays.n157 Tryz.prog SU := {
 mixed := by kernel_rfl
 f157 := Tryz.func139.trans (congrArg some (by kernel_rfl))
 f199 := Tryz.func148.trans (congrArg some (by kernel_rfl))
 f229 := Tryz.func147.trans (congrArg some (by kernel_rfl))
 f261 := Tryz.func154.trans (congrArg some (by kernel_rfl))
 f311 := Tryz.func164.trans (congrArg some (by kernel_rfl))
 f312 := Tryz.func165.trans (congrArg some (by kernel_rfl))
 t0 := Tryz.underlying0
 a0 := Tryz.isAgg0
 z0 := Tryz.sizeOf0
 v0 := Tryz.zeroValue0
 t3 := Tryz.underlying3
 a3 := Tryz.isAgg3
 z3 := Tryz.sizeOf3
 v3 := Tryz.zeroValue3
 t4 := Tryz.underlying4
 a4 := Tryz.isAgg4
 z4 := Tryz.sizeOf4
 v4 := Tryz.zeroValue4
 t5 := Tryz.underlying5
 a5 := Tryz.isAgg5
 z5 := Tryz.sizeOf5
 v5 := Tryz.zeroValue5
 t9 := Tryz.underlying9
 a9 := Tryz.isAgg9
 z9 := Tryz.sizeOf9
 v9 := Tryz.zeroValue9
 t21 := Tryz.underlying21
 a21 := Tryz.isAgg21
 z21 := Tryz.sizeOf21
 v21 := Tryz.zeroValue21
 t31 := Tryz.underlying87
 a31 := Tryz.isAgg87
 z31 := Tryz.sizeOf87
 v31 := Tryz.zeroValue87
 t40 := Tryz.underlying147
 a40 := Tryz.isAgg147
 z40 := Tryz.sizeOf147
 v40 := Tryz.zeroValue147
 t46 := Tryz.underlying186
 a46 := Tryz.isAgg186
 z46 := Tryz.sizeOf186
 v46 := Tryz.zeroValue186
 t49 := Tryz.underlying175
 a49 := Tryz.isAgg175
 z49 := Tryz.sizeOf175
 v49 := Tryz.zeroValue175
 t51 := Tryz.underlying156
 a51 := Tryz.isAgg156
 z51 := Tryz.sizeOf156
 v51 := Tryz.zeroValue156
 t119 := Tryz.underlying145
 a119 := Tryz.isAgg145
 z119 := Tryz.sizeOf145
 t141 := Tryz.underlying158
 a141 := Tryz.isAgg158
 z141 := Tryz.sizeOf158
 v141 := Tryz.zeroValue158
 t152 := Tryz.underlying153
 a152 := Tryz.isAgg153
 z152 := Tryz.sizeOf153
 v152 := Tryz.zeroValue153
 t154 := Tryz.underlying155
 a154 := Tryz.isAgg155
 z154 := Tryz.sizeOf155
 v154 := Tryz.zeroValue155
 t193 := Tryz.underlying171
 a193 := Tryz.isAgg171
 z193 := Tryz.sizeOf171
 v193 := Tryz.zeroValue171
 t194 := Tryz.underlying172
 a194 := Tryz.isAgg172
 z194 := Tryz.sizeOf172
 v194 := Tryz.zeroValue172
 t196 := Tryz.underlying174
 a196 := Tryz.isAgg174
 z196 := Tryz.sizeOf174
 v196 := Tryz.zeroValue174
 t198 := Tryz.underlying177
 a198 := Tryz.isAgg177
 z198 := Tryz.sizeOf177
 v198 := Tryz.zeroValue177
 t201 := Tryz.underlying180
 a201 := Tryz.isAgg180
 z201 := Tryz.sizeOf180
 v201 := Tryz.zeroValue180
 t226 := Tryz.underlying194
 a226 := Tryz.isAgg194
 z226 := Tryz.sizeOf194
 v226 := Tryz.zeroValue194
 t227 := Tryz.underlying195
 a227 := Tryz.isAgg195
 z227 := Tryz.sizeOf195
 v227 := Tryz.zeroValue195
 g0 := by kernel_rfl
 g6 := by kernel_rfl }
open Go.Shelf
def Re : Go.Shelf.Ren := ⟨fun | 172 => 144 | 244 => 152 | 245 => 153 | 247 => 159 | 279 => 160 | 280 => 161 | 281 => 162 | 282 => 163 | 287 => 171 | 316 => 172 | 171 => 120 | 205 => 173 | 321 => 176 | 322 => 177 | 243 => 140 | 246 => 149 | 283 => 155 | 284 => 156 | 285 => 157 | 286 => 158 | 129 => 167 | 317 => 166 | 318 => 168 | 319 => 169 | 320 => 170 | 337 => 174 | 338 => 175 | n => n, fun | 9 => 9 | 3 => 3 | 75 => 132 | 76 => 133 | 4 => 4 | 5 => 5 | 167 => 165 | 37 => 127 | 0 => 0 | 85 => 166 | 2 => 2 | 168 => 168 | 53 => 160 | 175 => 188 | 46 => 186 | 210 => 192 | 127 => 143 | 145 => 200 | 143 => 198 | 21 => 21 | 171 => 159 | 173 => 163 | 212 => 184 | 51 => 156 | 20 => 20 | 213 => 185 | 232 => 201 | 233 => 202 | 80 => 112 | n => n, fun | 15 => 4 | 16 => 5 | 17 => 3 | 18 => 6 | 19 => 7 | n => n⟩
theorem PY : Go.Proofs.LaysC.n172 Tryz.prog Re := {
 mixed := by kernel_rfl
 f129 := Tryz.func167.trans (congrArg some (by kernel_rfl))
 f171 := Tryz.func120.trans (congrArg some (by kernel_rfl))
 f172 := Tryz.func144.trans (congrArg some (by kernel_rfl))
 f205 := Tryz.func173.trans (congrArg some (by kernel_rfl))
 f243 := Tryz.func140.trans (congrArg some (by kernel_rfl))
 f244 := Tryz.func152.trans (congrArg some (by kernel_rfl))
 f245 := Tryz.func153.trans (congrArg some (by kernel_rfl))
 f246 := Tryz.func149.trans (congrArg some (by kernel_rfl))
 f247 := Tryz.func159.trans (congrArg some (by kernel_rfl))
 f279 := Tryz.func160.trans (congrArg some (by kernel_rfl))
 f280 := Tryz.func161.trans (congrArg some (by kernel_rfl))
 f281 := Tryz.func162.trans (congrArg some (by kernel_rfl))
 f282 := Tryz.func163.trans (congrArg some (by kernel_rfl))
 f283 := Tryz.func155.trans (congrArg some (by kernel_rfl))
 f284 := Tryz.func156.trans (congrArg some (by kernel_rfl))
 f285 := Tryz.func157.trans (congrArg some (by kernel_rfl))
 f286 := Tryz.func158.trans (congrArg some (by kernel_rfl))
 f287 := Tryz.func171.trans (congrArg some (by kernel_rfl))
 f316 := Tryz.func172.trans (congrArg some (by kernel_rfl))
 f317 := Tryz.func166.trans (congrArg some (by kernel_rfl))
 f318 := Tryz.func168.trans (congrArg some (by kernel_rfl))
 f319 := Tryz.func169.trans (congrArg some (by kernel_rfl))
 f320 := Tryz.func170.trans (congrArg some (by kernel_rfl))
 f321 := Tryz.func176.trans (congrArg some (by kernel_rfl))
 f322 := Tryz.func177.trans (congrArg some (by kernel_rfl))
 f337 := Tryz.func174.trans (congrArg some (by kernel_rfl))
 f338 := Tryz.func175.trans (congrArg some (by kernel_rfl))
 t0 := Tryz.underlying0
 a0 := Tryz.isAgg0
 z0 := Tryz.sizeOf0
 v0 := Tryz.zeroValue0
 t2 := Tryz.underlying2
 a2 := Tryz.isAgg2
 z2 := Tryz.sizeOf2
 v2 := Tryz.zeroValue2
 t3 := Tryz.underlying3
 a3 := Tryz.isAgg3
 z3 := Tryz.sizeOf3
 v3 := Tryz.zeroValue3
 t4 := Tryz.underlying4
 a4 := Tryz.isAgg4
 z4 := Tryz.sizeOf4
 v4 := Tryz.zeroValue4
 t5 := Tryz.underlying5
 a5 := Tryz.isAgg5
 z5 := Tryz.sizeOf5
 v5 := Tryz.zeroValue5
 t9 := Tryz.underlying9
 a9 := Tryz.isAgg9
 z9 := Tryz.sizeOf9
 v9 := Tryz.zeroValue9
 t20 := Tryz.underlying20
 a20 := Tryz.isAgg20
 z20 := Tryz.sizeOf20
 v20 := Tryz.zeroValue20
 t21 := Tryz.underlying21
 a21 := Tryz.isAgg21
 z21 := Tryz.sizeOf21
 v21 := Tryz.zeroValue21
 t37 := Tryz.underlying127
 a37 := Tryz.isAgg127
 z37 := Tryz.sizeOf127
 v37 := Tryz.zeroValue127
 t46 := Tryz.underlying186
 a46 := Tryz.isAgg186
 z46 := Tryz.sizeOf186
 v46 := Tryz.zeroValue186
 t51 := Tryz.underlying156
 a51 := Tryz.isAgg156
 z51 := Tryz.sizeOf156
 v51 := Tryz.zeroValue156
 t53 := Tryz.underlying160
 a53 := Tryz.isAgg160
 z53 := Tryz.sizeOf160
 v53 := Tryz.zeroValue160
 t75 := Tryz.underlying132
 a75 := Tryz.isAgg132
 z75 := Tryz.sizeOf132
 v75 := Tryz.zeroValue132
 t76 := Tryz.underlying133
 a76 := Tryz.isAgg133
 z76 := Tryz.sizeOf133
 v76 := Tryz.zeroValue133
 t85 := Tryz.underlying166
 a85 := Tryz.isAgg166
 z85 := Tryz.sizeOf166
 v85 := Tryz.zeroValue166
 t127 := Tryz.underlying143
 a127 := Tryz.isAgg143
 z127 := Tryz.sizeOf143
 v127 := Tryz.zeroValue143
 t143 := Tryz.underlying198
 a143 := Tryz.isAgg198
 z143 := Tryz.sizeOf198
 v143 := Tryz.zeroValue198
 t145 := Tryz.underlying200
 a145 := Tryz.isAgg200
 z145 := Tryz.sizeOf200
 v145 := Tryz.zeroValue200
 t167 := Tryz.underlying165
 a167 := Tryz.isAgg165
 z167 := Tryz.sizeOf165
 v167 := Tryz.zeroValue165
 t168 := Tryz.underlying168
 a168 := Tryz.isAgg168
 z168 := Tryz.sizeOf168
 v168 := Tryz.zeroValue168
 t171 := Tryz.underlying159
 a171 := Tryz.isAgg159
 z171 := Tryz.sizeOf159
 v171 := Tryz.zeroValue159
 t173 := Tryz.underlying163
 a173 := Tryz.isAgg163
 z173 := Tryz.sizeOf163
 v173 := Tryz.zeroValue163
 t175 := Tryz.underlying188
 a175 := Tryz.isAgg188
 z175 := Tryz.sizeOf188
 v175 := Tryz.zeroValue188
 t210 := Tryz.underlying192
 a210 := Tryz.isAgg192
 z210 := Tryz.sizeOf192
 v210 := Tryz.zeroValue192
 t212 := Tryz.underlying184
 a212 := Tryz.isAgg184
 z212 := Tryz.sizeOf184
 v212 := Tryz.zeroValue184
 t213 := Tryz.underlying185
 a213 := Tryz.isAgg185
 z213 := Tryz.sizeOf185
 t232 := Tryz.underlying201
 a232 := Tryz.isAgg201
 z232 := Tryz.sizeOf201
 v232 := Tryz.zeroValue201
 t233 := Tryz.underlying202
 a233 := Tryz.isAgg202
 z233 := Tryz.sizeOf202
 v233 := Tryz.zeroValue202
 g15 := by kernel_rfl
 g16 := by kernel_rfl
 g17 := by kernel_rfl
 g18 := by kernel_rfl
 g19 := by kernel_rfl
 t80 := Tryz.underlying112
 a80 := Tryz.isAgg112
 z80 := Tryz.sizeOf112
 v80 := Tryz.zeroValue112
 i0 := by kernel_rfl
 i2 := by kernel_rfl
 i3 := by kernel_rfl
 i4 := by kernel_rfl
 i5 := by kernel_rfl
 i9 := by kernel_rfl
 i20 := by kernel_rfl
 i21 := by kernel_rfl
 i37 := by kernel_rfl
 i46 := by kernel_rfl
 i51 := by kernel_rfl
 i53 := by kernel_rfl
 i75 := by kernel_rfl
 i76 := by kernel_rfl
 i80 := by kernel_rfl
 i85 := by kernel_rfl
 i127 := by kernel_rfl
 i143 := by kernel_rfl
 i145 := by kernel_rfl
 i167 := by kernel_rfl
 i168 := by kernel_rfl
 i171 := by kernel_rfl
 i173 := by kernel_rfl
 i175 := by kernel_rfl
 i210 := by kernel_rfl
 i212 := by kernel_rfl
 i232 := by kernel_rfl
 i233 := by kernel_rfl
 m15 := by kernel_rfl
 m16 := by kernel_rfl
 m17 := by kernel_rfl
 m18 := by kernel_rfl
 m19 := by kernel_rfl
 c0 := by kernel_rfl
 c2 := by kernel_rfl
 c3 := by kernel_rfl
 c4 := by kernel_rfl
 c5 := by kernel_rfl
 c9 := by kernel_rfl
 c20 := by kernel_rfl
 c21 := by kernel_rfl
 c37 := by kernel_rfl
 c46 := by kernel_rfl
 c51 := by kernel_rfl
 c53 := by kernel_rfl
 c75 := by kernel_rfl
 c76 := by kernel_rfl
 c80 := by kernel_rfl
 c85 := by kernel_rfl
 c127 := by kernel_rfl
 c143 := by kernel_rfl
 c145 := by kernel_rfl
 c167 := by kernel_rfl
 c168 := by kernel_rfl
 c171 := by kernel_rfl
 c173 := by kernel_rfl
 c175 := by kernel_rfl
 c210 := by kernel_rfl
 c212 := by kernel_rfl
 c213 := by kernel_rfl
 c232 := by kernel_rfl
 c233 := by kernel_rfl }
abbrev Ad := List UInt8
abbrev aI (n : Int) : AV := .int .i64 n
abbrev aF (f : Int × Int) : AV := .agg [.int .i64 f.1, .int .i64 f.2]
abbrev OO (l : List Int) : AV := .sl 1 (l.map aI) .ro
inductive St where
 | mk (k o n : Int) (v : List Int) (p : List St)
def St.k : St → Int | .mk k _ _ _ _ => k
def St.o : St → Int | .mk _ o _ _ _ => o
def St.n : St → Int | .mk _ _ n _ _ => n
def St.v : St → List Int | .mk _ _ _ v _ => v
def St.p : St → List St | .mk _ _ _ _ p => p
mutual
theorem St.ind {Q : St → Prop} (h : ∀ k o n v p, (∀ s ∈ p, Q s) → Q (.mk k o n v p)) : ∀ s, Q s
 | .mk k o n v p => h k o n v p (St.indL h p)
theorem St.indL {Q : St → Prop} (h : ∀ k o n v p, (∀ s ∈ p, Q s) → Q (.mk k o n v p)) : ∀ p : List St, ∀ s ∈ p, Q s
 | [], s, hs => by cases hs
 | x :: r, s, hs => by
  rcases List.mem_cons.1 hs with e | hs
  ·rw [e]; exact St.ind h x
  ·exact St.indL h r s hs
end
mutual
def encS : St → AV
 | .mk k o n v p => .agg [aI k, aI o, aI n, OO v, .sl 5 (Ac p) .ro]
def Ac : List St → List AV
 | [] => []
 | s :: r => encS s :: Ac r
end
theorem K5 : ∀ p : List St, Ac p = p.map encS
 | [] => by simp [Ac]
 | s :: r => by simp [Ac, K5 r]
mutual
def Bk : St → Nat
 | .mk _ _ _ _ p => CU p + 1
def CU : List St → Nat
 | [] => 0
 | s :: r => Bk s + CU r
end
theorem Xz (s : St) : 0 < Bk s := by cases s; simp [Bk]
def DA (k : Int) : Bool := decide (k = 1) || decide (k = 2)
def Gb (k : Int) : Bool := decide (k = 13) || decide (k = 14)
def Jc (k : Int) : Bool := decide (k = 15) || decide (k = 16)
def Pu (k : Int) : Bool := decide (k = 3) || decide (k = 9) || decide (k = 10) || decide (k = 15)
def Cz (k : Int) : Bool := decide (k = 4) || decide (k = 7) || decide (k = 8)
def Iv (k : Int) : Bool := decide (k = 5) || decide (k = 6) || decide (k = 12)
def OF (k : Int) : Bool := (Pu k && decide (k ≠ 15)) || Cz k || Iv k
def OR (k o : Int) : Int := if k = 10 then 1 else if (k = 3 ∧ o = 6) ∨ (Cz k = true ∧ o = 3) then 1 else 0
def OM (k : Int) : Int := if k = 12 then 20 else if k = 5 ∨ k = 6 then 5000 else if k = 10 then 8 else 9999
def GS (k : Int) (i : Nat) (x : Int) : Bool := decide ((if k = 2 ∧ i = 2 then 1 else 0) ≤ x) && decide (x ≤ if k = 2 ∧ i = 1 then 10000 else 9999)
def BH (k : Int) : Nat → List Int → Bool
 | _, [] => true
 | i, x :: r => GS k i x && BH k (i + 1) r
def C0 : St → Int
 | .mk k o n v p =>
  if ¬ (1 ≤ k ∧ k ≤ 16) then 5
  else if (DA k = true ∧ p.length ≠ 0) ∨ (Gb k = true ∧ p.length = 0) ∨ (Jc k = true ∧ p.length ≠ 2) ∨ (DA k = false ∧ Gb k = false ∧ Jc k = false ∧ p.length ≠ 1) ∨ (k = 2 ∧ v.length ≠ 3) then 9
  else if (DA k = false ∧ v.length ≠ 0) ∨ (OF k = false ∧ n ≠ 0) ∨ (Pu k = false ∧ Cz k = false ∧ o ≠ 0) then 6
  else if (Pu k = true ∧ ¬ (1 ≤ o ∧ o ≤ 5) ∧ ¬ (k = 3 ∧ o = 6)) ∨ (Cz k = true ∧ ¬ (1 ≤ o ∧ o ≤ 3)) then 4
  else if OF k = true ∧ ¬ (OR k o ≤ n ∧ n ≤ OM k) then 4
  else if BH k 0 v = true then 0 else 4
mutual
def EE : St → Nat → Nat × Int
 | .mk k o n v p, i => if 60 ≤ i then (i, 2) else if C0 (.mk k o n v p) ≠ 0 then (i, C0 (.mk k o n v p)) else JC p (i + 1)
def JC : List St → Nat → Nat × Int
 | [], i => (i, 0)
 | s :: r, i => if (EE s i).2 ≠ 0 then EE s i else JC r (EE s i).1
end
def HU : List Int → Nat
 | a :: b :: c :: _ => ((b - a + c - 1) / c).toNat
 | _ => 0
def DT (k n : Int) (v : List Int) (bs : List Nat) : Nat :=
 if k = 1 then v.length else if k = 2 then HU v else if k = 5 then min n.toNat (bs.getD 0 0) else if k = 12 then n.toNat * bs.getD 0 0 else if k = 15 then min (bs.getD 0 0) (bs.getD 1 0) else bs.sum
mutual
def Aa : St → Nat
 | .mk k _ n v p => DT k n v (OI p)
def OI : List St → List Nat
 | [] => []
 | s :: r => Aa s :: OI r
end
theorem HZ : ∀ p : List St, OI p = p.map Aa
 | [] => by simp [OI]
 | s :: r => by simp [OI, HZ r]
mutual
def ED : St → Nat → Nat × Int
 | .mk k o n v p, i => ((GV p (i + 1)).1, if 5000 < Aa (.mk k o n v p) then (i : Int) else (GV p (i + 1)).2)
def GV : List St → Nat → Nat × Int
 | [], i => (i, -1)
 | s :: r, i => ((GV r (ED s i).1).1, if (ED s i).2 < 0 then (GV r (ED s i).1).2 else (ED s i).2)
end
def Dj (s : St) : Int × Int := if (EE s 0).2 ≠ 0 then ((EE s 0).2, ((EE s 0).1 : Int)) else if 0 ≤ (ED s 0).2 then (14, (ED s 0).2) else (0, 0)
mutual
def Nz : St → Prop
 | .mk k o n v p => C0 (.mk k o n v p) = 0 ∧ okP p
def okP : List St → Prop
 | [] => True
 | s :: r => Nz s ∧ okP r
end
mutual
def Rk : St → Prop
 | .mk k o n v p => Aa (.mk k o n v p) ≤ 5000 ∧ smP p
def smP : List St → Prop
 | [] => True
 | s :: r => Rk s ∧ smP r
end
theorem FQ : ∀ {p : List St}, okP p → ∀ s ∈ p, Nz s
 | [], _, s, h => by cases h
 | x :: r, h, s, hs => by
  rcases List.mem_cons.1 hs with e | hs
  ·rw [e]; exact h.1
  ·exact FQ h.2 s hs
theorem IY : ∀ {p : List St}, smP p → ∀ s ∈ p, Rk s
 | [], _, s, h => by cases h
 | x :: r, h, s, hs => by
  rcases List.mem_cons.1 hs with e | hs
  ·rw [e]; exact h.1
  ·exact IY h.2 s hs
mutual
theorem Nj : ∀ (s : St) (i : Nat), (EE s i).2 = 0 → Nz s ∧ (EE s i).1 = i + Bk s ∧ (EE s i).1 ≤ 60
 | .mk k o n v p, i, h => by
  simp only [EE] at h ⊢
  split at h
  ·cases h
  ·split at h
   ·rename_i h1; exact absurd h h1
   ·rename_i h0 h1
    rw [if_neg h0, if_neg h1]
    obtain ⟨h2, h3, h4⟩ := V5 p (i + 1) (by omega) h
    exact ⟨⟨by omega, h2⟩, by rw [h3]; simp only [Bk]; omega, h4⟩
theorem V5 : ∀ (p : List St) (i : Nat), i ≤ 60 → (JC p i).2 = 0 → okP p ∧ (JC p i).1 = i + CU p ∧ (JC p i).1 ≤ 60
 | [], i, hi, _ => ⟨trivial, rfl, hi⟩
 | s :: r, i, hi, h => by
  simp only [JC] at h ⊢
  split at h
  ·rename_i h1; exact absurd h h1
  ·rename_i h1
   rw [if_neg h1]
   obtain ⟨h2, h3, h6⟩ := Nj s i (by omega)
   obtain ⟨h4, h5, h7⟩ := V5 r _ h6 h
   exact ⟨⟨h2, h4⟩, by rw [h5, h3]; simp only [CU]; omega, h7⟩
end
mutual
theorem P8 : ∀ (s : St) (i : Nat), (ED s i).1 = i + Bk s
 | .mk k o n v p, i => by simp only [ED, K7 p, Bk]; omega
theorem K7 : ∀ (p : List St) (i : Nat), (GV p i).1 = i + CU p
 | [], i => rfl
 | s :: r, i => by simp only [GV, K7 r, P8 s, CU]; omega
end
mutual
theorem ML : ∀ (s : St) (i : Nat), -1 ≤ (ED s i).2 ∧ ((ED s i).2 < 0 ↔ Rk s)
 | .mk k o n v p, i => by
  have ih := VC p (i + 1)
  simp only [ED, Rk]
  split
  ·refine ⟨by omega, ⟨fun h => by omega, fun h => by omega⟩⟩
  ·exact ⟨ih.1, ⟨fun h => ⟨by omega, ih.2.1 h⟩, fun h => ih.2.2 h.2⟩⟩
theorem VC : ∀ (p : List St) (i : Nat), -1 ≤ (GV p i).2 ∧ ((GV p i).2 < 0 ↔ smP p)
 | [], i => by simp [GV, smP]
 | s :: r, i => by
  have h1 := ML s i
  have h2 := VC r (ED s i).1
  simp only [GV, smP]
  split
  ·rename_i h; exact ⟨h2.1, ⟨fun h' => ⟨h1.2.1 h, h2.2.1 h'⟩, fun h' => h2.2.2 h'.2⟩⟩
  ·rename_i h; exact ⟨h1.1, ⟨fun h' => absurd h' h, fun h' => absurd (h1.2.2 h'.1) h⟩⟩
end
theorem Ih {s : St} (h : (Dj s).1 = 0) : Dj s = (0, 0) ∧ Nz s ∧ Rk s ∧ Bk s ≤ 60 := by
 unfold Dj at h ⊢
 split at h
 ·rename_i h1; exact absurd h h1
 ·rename_i h1
  rw [if_neg h1]
  split at h
  ·cases h
  ·rename_i h2
   rw [if_neg h2]
   obtain ⟨h3, h4, h5⟩ := Nj s 0 (by omega)
   exact ⟨rfl, h3, (ML s 0).2.1 (by omega), by omega⟩
open Go.RowKit
theorem Lk {P : Program} {w0 w w' : World} {G : Gh} {n : Nat} {H : A2} (h0 : Rel0 P w0 G n H w) (hb : Below w.heap.size w w') : Rel0 P w0 G n H w' := by
 have hbl : ∀ g, g < w.heap.size → w'.heap[g]? = w.heap[g]? := fun g hg => hb.block g hg
 refine ⟨h0.ext.tr hb, h0.lo, Nat.le_trans h0.hi hb.size, fun b o v hv => ?_, fun g e c hg => ?_, h0.capLo, fun g ob hob => ?_⟩
 ·have hc := h0.seal_ b o v hv
  have hlt : b < w.heap.size := World.block_lt_of_cell? _ _ hc
  rw [hb.cell (p := ⟨b, o, none⟩) hlt]; exact hc
 ·obtain ⟨cur, fz, h1, h2⟩ := h0.caps g e c hg
  refine ⟨cur, fz, ?_, h2⟩
  rw [hbl g (Array.getElem?_eq_some_iff.1 h1).1]; exact h1
 ·obtain ⟨h1, h2, h3⟩ := h0.objs g ob hob
  have hlt : g < w.heap.size := Nat.lt_of_lt_of_le h2 h0.hi
  exact ⟨h1, h2, h3.keep (hbl g hlt) (fun _ => rfl) rfl (Gh.Le.rfl_ G) (MapsKeep.lt hbl)⟩
theorem QP {P : Program} {f : Nat} {args : List AV} {v : AV} (h : ∀ (G : Gh) (vs : List Value), RepL G vs args → ∃ u : Value, (∀ G', Rep G' u v) ∧ ∀ w : World, Laid w → Calls P f vs.toArray w fun e w' => e = .returned u ∧ Below w.heap.size w w') : APure P f args v := by
 intro n H hs w0 G w vs hl h0 hrep
 obtain ⟨u, hu, hc⟩ := h G vs hrep
 refine (hc w (hl.ext h0.ext)).mono ?_
 rintro e w' ⟨rfl, hb⟩
 exact ⟨u, v, G, n, H, rfl, ⟨rfl, rfl, rfl⟩, hu G, Gh.Le.rfl_ _, Nat.le_refl _, Lk h0 hb⟩
theorem Y1 (s : ByteArray) (l : List UInt8) (h : s.data.toList = l) : s = ⟨l.toArray⟩ := by cases s; subst h; simp
theorem TK (n : Int) (h : -9223372036854775808 ≤ n ∧ n ≤ 9223372036854775807) : APure Tryz.prog 120 [.int .i64 n] (.str (Lib.itoa n)) := by
 refine QP fun G vs hr => ⟨.string ⟨(Lib.itoa n).toArray⟩, fun _ => .str (by simp), fun w hl => ?_⟩
 cases hr with | cons h1 h2 =>
 cases h2; cases h1
 refine (Any.strconv_Itoa XN n h.1 h.2 w (Xl (by kernel_rfl) hl.pow)).mono ?_
 rintro e w' ⟨rfl, k, os, rfl⟩
 exact ⟨rfl, Lib.below_grow _ _ (Nat.le_refl _) _ _⟩
theorem Kd (l : List Ad) : AX (l.map AV.str) = l.map AV.str := by
 induction l with
 | nil => rfl
 | cons x l ih => simp only [List.map_cons, AX, List.flatMap_cons, AV.cells, List.singleton_append] at ih ⊢; rw [ih]
theorem Vi {G : Gh} (l : List Ad) : RepL G (l.map fun x => Value.string ⟨x.toArray⟩) (l.map AV.str) := by
 induction l with
 | nil => exact .nil
 | cons x l ih => exact .cons (.str (by simp)) ih
theorem T3 (s : Ad) (hs : s.length < 4294967281) (ha : ∀ b ∈ s, b.toNat < 128) (hk : (Lib.fields s).length ≤ 1000000) : APure Tryz.prog 139 [.str s] (.sl 1 ((Lib.fields s).map AV.str) .ro) := by
 intro n H hH w0 G w vs hl h0 hrep
 cases hrep with | cons h1 h2 =>
 cases h2; cases h1
 rename_i sb hsb
 subst hsb
 refine (Any.strings_Fields ZM (by kernel_rfl) (by kernel_rfl) sb w (by rw [Lib.size_eq]; exact hs) (fun j b hj => ha b (List.mem_of_getElem? hj)) (Xl (by kernel_rfl) (hl.ext h0.ext).spc)).mono ?_
 rintro e w' ⟨rfl, rfl⟩
 have hrel := h0.newRow (w' := w.alloc (.cells ((Lib.fields sb.data.toList).map fun l => Value.string ⟨l.toArray⟩).toArray 9)) (cur := ((Lib.fields sb.data.toList).map fun l => Value.string ⟨l.toArray⟩).toArray) (e := 9) (fz := (0, 0)) (vs := (Lib.fields sb.data.toList).map fun l => Value.string ⟨l.toArray⟩) (c := none) (ob := none) rfl rfl rfl rfl
  (fun j u hu => by simpa using hu) (fun e' c' hc => by cases hc) (.inl rfl)
 have hle := h0.addLe ((Lib.fields sb.data.toList).map fun l => Value.string ⟨l.toArray⟩) none
 have hhi := h0.hi
 refine ⟨_, _, _, n, H, rfl, ⟨rfl, rfl, rfl⟩, .slro (vs := (Lib.fields sb.data.toList).map fun l => Value.string ⟨l.toArray⟩) ?_ (Gh.add_sealed _ _ _) ?_ (by simp), hle, Nat.le_refl _, hrel.less h0.lo (by omega) hH ?_⟩
 ·rw [Kd]; exact Vi _
 ·refine ⟨by simp, by simp only [maxLen]; omega, by decide, fun x hx => ?_, fun x hx => ?_⟩
  ·obtain ⟨y, _, rfl⟩ := List.mem_map.1 hx; rfl
  ·rw [Kd] at hx; obtain ⟨y, _, rfl⟩ := List.mem_map.1 hx; rfl
 ·intro k hk'
  rw [upd_ne (by omega)]
abbrev aSs (l : List Ad) : AV := .sl 1 (l.map AV.str) .ro
theorem A3a (l : List Ad) (sep : Ad) (hl : l.length ≤ 140737488355328) (hlen : (Lib.join l sep).length ≤ 140737488355328) : APure Tryz.prog 83 [aSs l, .str sep] (.str (Lib.join l sep)) := by
 intro n H hH w0 G w vs hl0 h0 hrep
 cases hrep with | cons h1 h2 =>
 cases h2 with | cons h3 h4 =>
 cases h4; cases h3
 rename_i sb hsb
 subst hsb
 obtain ⟨A, c, rfl, hc, hm, hA⟩ := h1.slOut
 have key : ∀ {W : World} {e : Ending}, e = .returned (.string ⟨(Lib.join l sb.data.toList).toArray⟩) → Below w.heap.size w W → ∃ (v : Value) (r : AV) (G' : Gh) (n' : Nat) (H' : A2), e = .returned v ∧ (r = .str (Lib.join l sb.data.toList) ∧ n' = n ∧ H' = H) ∧ Rep G' v r ∧ G.Le G' ∧ n ≤ n' ∧ Rel0 Tryz.prog w0 G' n' H' W := fun he hb =>
  ⟨_, _, G, n, H, he, ⟨rfl, rfl, rfl⟩, .str (by simp), Gh.Le.rfl_ _, Nat.le_refl _, Lk h0 hb⟩
 by_cases hl0 : l = []
 ·subst hl0
  refine (Any.strings_Join_none Ub Gl A c sb w).mono ?_
  rintro e w' ⟨he, rfl⟩
  exact key (by rw [he]; rfl) (Below.refl _ _)
 ·obtain ⟨g, off, us, rfl, hr, hs, ho⟩ := hA (by simpa using hl0)
  rw [Kd] at hr
  have hcell : ∀ (j : Nat) (x : ByteArray), (l.map fun x => (⟨x.toArray⟩ : ByteArray))[j]? = some x → w.cell? ⟨g, off + j, none⟩ = some (.string x) := by
   intro j x hj
   obtain ⟨y, hy, rfl⟩ : ∃ y, l[j]? = some y ∧ (⟨y.toArray⟩ : ByteArray) = x := by simpa [List.getElem?_map] using hj
   obtain ⟨u, hu, hru⟩ := hr.at (i := j) (x := .str y) (by simp [List.getElem?_map, hy])
   have h5 := h0.seal_ _ _ _ (hs j u hu)
   cases hru
   rename_i s hsy
   rw [h5, Y1 _ _ hsy]
  have hlt : g < w.heap.size := by
   obtain ⟨y, hy⟩ : ∃ y, l[0]? = some y := ⟨_, List.getElem?_eq_getElem (List.length_pos_iff.2 hl0)⟩
   have := World.block_lt_of_cell? w _ (hcell 0 ⟨y.toArray⟩ (by simp [List.getElem?_map, hy]))
   simpa using this
  have hmap : (l.map fun x => (⟨x.toArray⟩ : ByteArray)).map (·.data.toList) = l := by
   rw [List.map_map]; conv => rhs; rw [← List.map_id l]
   apply List.map_congr_left; intro x _; simp
  have hj := Any.strings_Join Ub Gl g off c (l.map fun x => (⟨x.toArray⟩ : ByteArray)) sb w hcell hlt (by simpa using hl) (by simpa using hc) (by rw [hmap]; exact hlen)
  rw [hmap, List.length_map] at hj
  simp only [List.length_map] at *
  refine hj.mono ?_
  rintro e w' ⟨he, hb⟩
  exact key he hb
def Ap (c : UInt8) : Bool := decide (48 ≤ c.toNat ∧ c.toNat ≤ 57)
def HB (acc : Nat) : Ad → Nat
 | [] => acc
 | c :: r => HB (10 * acc + (c.toNat - 48)) r
theorem WX (c : UInt8) (l : Ad) : ∀ acc : Nat, HB acc (l ++ [c]) = 10 * HB acc l + (c.toNat - 48) := by
 induction l with
 | nil => intro acc; rfl
 | cons x l ih => intro acc; exact ih _
theorem ZL (l : Ad) : ∀ acc : Nat, acc ≤ HB acc l := by
 induction l with
 | nil => intro acc; exact Nat.le_refl _
 | cons x l ih =>
  intro acc
  have h2 : acc ≤ 10 * acc + (x.toNat - 48) := by omega
  exact Nat.le_trans h2 (ih _)
theorem Yv : ∀ d : Fin 10, (UInt8.ofNat (48 + d.val)).toNat = 48 + d.val := by decide
theorem Qx {d : Nat} (h : d < 10) : (UInt8.ofNat (48 + d)).toNat = 48 + d := by
 have e := Yv ⟨d, h⟩
 simp only at e
 exact e
theorem Xg {d : Nat} (h : d < 10) : Ap (UInt8.ofNat (48 + d)) = true := by
 have e := Qx h
 unfold Ap
 rw [e]
 exact decide_eq_true (by omega)
theorem JJ (u : Nat) : ∀ c ∈ Lib.decDigits u, Ap c = true := by
 induction u using Nat.strongRecOn with
 | _ u ih =>
  intro c hc
  rw [Lib.decDigits] at hc
  split at hc
  ·rw [List.mem_singleton.1 hc]
   exact Xg (by omega)
  ·rcases List.mem_append.1 hc with h | h
   ·exact ih _ (by omega) c h
   ·rw [List.mem_singleton.1 h]
    exact Xg (by omega)
theorem Uc {c : UInt8} {d : Nat} (h : c.toNat = 48 + d) (acc : Nat) : HB acc [c] = 10 * acc + d ∧ ∀ l : Ad, HB acc (l ++ [c]) = 10 * HB acc l + d := by
 constructor
 ·show 10 * acc + (c.toNat - 48) = _
  rw [h]; omega
 ·intro l; rw [WX, h]; omega
theorem Sj (u : Nat) : HB 0 (Lib.decDigits u) = u := by
 induction u using Nat.strongRecOn with
 | _ u ih =>
  rw [Lib.decDigits]
  split
  ·rename_i h0
   have e := (Uc (Qx (d := u) h0) 0).1
   generalize UInt8.ofNat (48 + u) = c at e ⊢
   rw [e]; omega
  ·rename_i h0
   have e := (Uc (Qx (d := u % 10) (by omega)) 0).2 (Lib.decDigits (u / 10))
   have e2 := ih (u / 10) (by omega)
   generalize UInt8.ofNat (48 + u % 10) = c at e ⊢
   rw [e, e2]; omega
theorem Tt (u : Nat) : Lib.decDigits u ≠ [] := by
 intro h
 have := Lib.decDigits_length u
 rw [h] at this
 have := Lib.nDigits_pos u
 simp at *; omega
theorem PX : ∀ (k u : Nat), u < 10 ^ (k + 1) → Lib.nDigits u ≤ k + 1
 | 0, u, h => by rw [Lib.nDigits_small (by omega)]; omega
 | k + 1, u, h => by
  by_cases c : u < 10
  ·rw [Lib.nDigits_small c]; omega
  ·rw [Lib.nDigits_big c]
   have := PX k (u / 10) (by rw [Nat.pow_succ] at h; omega)
   omega
theorem YT (u : Nat) : (Lib.decDigits u).length ≤ 9 ↔ u ≤ 999999999 := by
 rw [Lib.decDigits_length]
 constructor
 ·intro h
  have h1 := Lib.lt_pow_nDigits u
  have h2 : 10 ^ Lib.nDigits u ≤ 10 ^ 9 := Nat.pow_le_pow_right (by omega) h
  omega
 ·intro h
  exact PX 8 u (by omega)
theorem QJ (l : Ad) (hl : ∀ c ∈ l, Ap c = true) : ∀ acc : Nat, HB acc l < 1844674407370955162 → Lib.parseUint10 acc l = .ok (HB acc l) := by
 induction l with
 | nil => intro acc _; rfl
 | cons c r ih =>
  intro acc hb
  have hc := hl c List.mem_cons_self
  unfold Ap at hc
  simp only [decide_eq_true_eq] at hc
  have e : HB acc (c :: r) = HB (10 * acc + (c.toNat - 48)) r := rfl
  rw [e] at hb ⊢
  have hg := ZL r (10 * acc + (c.toNat - 48))
  have hi := ih (fun x hx => hl x (List.mem_cons_of_mem _ hx)) (10 * acc + (c.toNat - 48)) hb
  rw [Lib.parseUint10, if_pos hc, if_neg (by omega), if_neg (by omega), Nat.mul_comm acc 10]
  exact hi
theorem V3 {u : Nat} (h : u ≤ 999999999) : Lib.parseMag (Lib.decDigits u) = .ok u := by
 unfold Lib.parseMag
 rw [if_neg (Tt u), QJ _ (JJ u) 0 (by rw [Sj]; omega), Sj]
theorem WL {n : Int} (h : -999999999 ≤ n ∧ n ≤ 999999999) : Lib.atoiAll (Lib.itoa n) = .ok n := by
 by_cases c : n < 0
 ·obtain ⟨u, rfl⟩ : ∃ u : Nat, n = -(u : Int) := ⟨n.natAbs, by omega⟩
  rw [Lib.itoa_neg u (by omega), Lib.atoiAll_minus, V3 (by omega)]
  simp [Lib.signed]; omega
 ·obtain ⟨u, rfl⟩ : ∃ u : Nat, n = (u : Int) := ⟨n.toNat, by omega⟩
  rw [Lib.itoa_nonneg]
  obtain ⟨d, l, e⟩ := List.exists_cons_of_ne_nil (Tt u)
  have hd := JJ u d (by rw [e]; exact List.mem_cons_self)
  unfold Ap at hd
  simp only [decide_eq_true_eq] at hd
  have hm := V3 (u := u) (by omega)
  rw [e] at hm ⊢
  rw [Lib.atoiAll_plain d l (by omega) (by omega), hm]
  simp [Lib.signless]; omega
theorem Tn (l : Ad) (hl : ∀ c ∈ l, Ap c = true) : ∀ acc : Nat, HB acc l < (acc + 1) * 10 ^ l.length := by
 induction l with
 | nil => intro acc; show acc < _; simp
 | cons c r ih =>
  intro acc
  have hc := hl c List.mem_cons_self
  unfold Ap at hc
  simp only [decide_eq_true_eq] at hc
  have h1 := ih (fun x hx => hl x (List.mem_cons_of_mem _ hx)) (10 * acc + (c.toNat - 48))
  have e : HB acc (c :: r) = HB (10 * acc + (c.toNat - 48)) r := rfl
  rw [e]
  refine Nat.lt_of_lt_of_le h1 ?_
  rw [List.length_cons, Nat.pow_succ, ← Nat.mul_assoc, Nat.mul_right_comm]
  exact Nat.mul_le_mul_right _ (by omega)
def EU (op x y : Int) : Int := if op = 1 then (x + y) % 10000 else if op = 2 then (x - y + 10000) % 10000 else if op = 3 then x * y % 10000 else if op = 4 then max x y else if op = 5 then min x y else x % y
def HS (op x n : Int) : Bool := if op = 1 then decide (x < n) else if op = 2 then decide (n ≤ x) else decide (x % n = 0)
abbrev AZ := List Int
abbrev As := List (Int × AZ)
structure Fut where
 cur : AZ
 l : As
 fin : AZ
def T5 : Nat → List Int → As
 | _, [] => []
 | i, x :: r => (x, [((i + 1 : Nat) : Int)]) :: T5 (i + 1) r
def I6 (xs : List Int) : Fut := ⟨[0], T5 0 xs, [(xs.length : Int)]⟩
def GX (v : List Int) : List Int := match v with
 | a :: b :: c :: r => (List.range (HU (a :: b :: c :: r))).map fun (i : Nat) => a + (i : Int) * c
 | _ => []
def ET : Nat → AZ → As → AZ → As × AZ
 | 0, cur, _, _ => ([], cur)
 | _ + 1, _, [], fin => ([], fin)
 | n + 1, _, (x, c) :: r, fin => ((x, c) :: (ET n c r fin).1, (ET n c r fin).2)
def Fi (p : Int → Bool) : As → AZ → As × AZ
 | [], fin => ([], fin)
 | (x, c) :: r, fin => if p x = true then ((x, c) :: (Fi p r fin).1, (Fi p r fin).2) else ([], c)
def JK (p : Int → Bool) : As → As
 | [] => []
 | (x, c) :: r => if p x = true then JK p r else (x, c) :: r
def OY (f : Int → Int → Int) : Int → As → As
 | _, [] => []
 | n, (x, c) :: r => (f n x, c) :: OY f (f n x) r
def PE (f : Int → Int → Int) : List Int → Int
 | [] => 0
 | x :: r => r.foldl f x
def GU (f : Int → Int → Int) (N : Nat) : List Int → As → As
 | _, [] => []
 | last, (x, c) :: r => if last.length + 1 < N then GU f N (last ++ [x]) r else (PE f ((last ++ [x]).drop (last.length + 1 - N)), c) :: GU f N ((last ++ [x]).drop (last.length + 1 - N)) r
def Iy : Int → As → As
 | _, [] => []
 | last, (x, c) :: r => if x ≠ last then (x, c) :: Iy x r else Iy last r
def Fd (xs : List Int) (fin : AZ) : Nat → As
 | 0 => []
 | n + 1 => xs.map (fun x => (x, fin)) ++ Fd xs fin n
def Sc (n : Nat) (F : Fut) : Fut := if n = 0 then ⟨F.cur, [], F.cur⟩ else ⟨F.cur, F.l ++ Fd (F.l.map (·.1)) F.fin (n - 1), F.fin⟩
def DU (k o n : Int) (F : Fut) : Fut :=
 if k = 3 then ⟨F.cur, F.l.map fun e => (EU o e.1 n, e.2), F.fin⟩
 else if k = 4 then ⟨F.cur, F.l.filter fun e => HS o e.1 n, F.fin⟩
 else if k = 5 then ⟨F.cur, (ET n.toNat F.cur F.l F.fin).1, (ET n.toNat F.cur F.l F.fin).2⟩
 else if k = 6 then ⟨F.cur, F.l.drop n.toNat, F.fin⟩
 else if k = 7 then ⟨F.cur, (Fi (fun x => HS o x n) F.l F.fin).1, (Fi (fun x => HS o x n) F.l F.fin).2⟩
 else if k = 8 then ⟨F.cur, JK (fun x => HS o x n) F.l, F.fin⟩
 else if k = 9 then ⟨F.cur, OY (EU o) n F.l, F.fin⟩
 else if k = 10 then ⟨F.cur, GU (EU o) n.toNat [] F.l, F.fin⟩
 else if k = 11 then ⟨F.cur, Iy (-1) F.l, F.fin⟩
 else Sc n.toNat F
def Fb : List Fut → Fut
 | [] => ⟨[], [], []⟩
 | F :: Fs => ⟨F.cur ++ (Fb Fs).cur, F.l.map (fun e => (e.1, e.2 ++ (Fb Fs).cur)) ++ (Fb Fs).l.map (fun e => (e.1, F.fin ++ e.2)), F.fin ++ (Fb Fs).fin⟩
def ES : Nat → List (Nat × As × AZ) → List AZ → As × List AZ
 | 0, _, cs => ([], cs)
 | _ + 1, [], cs => ([], cs)
 | m + 1, (i, [], fin) :: q, cs => ES m q (cs.set i fin)
 | m + 1, (i, (x, c) :: r, fin) :: q, cs => ((x, (cs.set i c).flatten) :: (ES m (q ++ [(i, r, fin)]) (cs.set i c)).1, (ES m (q ++ [(i, r, fin)]) (cs.set i c)).2)
def Tj (Fs : List Fut) : Nat := (Fs.map fun F => F.l.length + 1).sum
def Ix (Fs : List Fut) : Fut :=
 ⟨(Fs.map (·.cur)).flatten, (ES (Tj Fs) (Fs.zipIdx.map fun x => (x.2, x.1.l, x.1.fin)) (Fs.map (·.cur))).1, (ES (Tj Fs) (Fs.zipIdx.map fun x => (x.2, x.1.l, x.1.fin)) (Fs.map (·.cur))).2.flatten⟩
def HQ (f : Int → Int → Int) (fa fb : AZ) : As → AZ → As → As × AZ
 | [], cb, _ => ([], fa ++ cb)
 | (_, c) :: _, _, [] => ([], c ++ fb)
 | (x, c) :: r, _, (y, d) :: t => ((f x y, c ++ d) :: (HQ f fa fb r d t).1, (HQ f fa fb r d t).2)
def CH (fa fb : AZ) : As → As → As
 | [], [] => []
 | [], (y, d) :: t => (y, fa ++ d) :: CH fa fb [] t
 | (x, c) :: r, [] => (x, c ++ fb) :: CH fa fb r []
 | (x, c) :: r, (y, d) :: t => if x ≤ y then (x, c ++ d) :: CH fa fb r ((y, d) :: t) else (y, c ++ d) :: CH fa fb ((x, c) :: r) t
 termination_by a b => a.length + b.length
def F9 (k o n : Int) (v : List Int) (Fs : List Fut) : Fut :=
 if k = 1 then I6 v
 else if k = 2 then I6 (GX v)
 else if k = 13 then Fb Fs
 else if k = 14 then Ix Fs
 else match Fs with
  | [F] => DU k o n F
  | [F, G] => if k = 15 then ⟨F.cur ++ G.cur, (HQ (EU o) F.fin G.fin F.l G.cur G.l).1, (HQ (EU o) F.fin G.fin F.l G.cur G.l).2⟩ else ⟨F.cur ++ G.cur, CH F.fin G.fin F.l G.l, F.fin ++ G.fin⟩
  | _ => ⟨[], [], []⟩
mutual
def Ag : St → Fut
 | .mk k o n v p => F9 k o n v (I0 p)
def I0 : List St → List Fut
 | [] => []
 | s :: r => Ag s :: I0 r
end
theorem GL : ∀ p : List St, I0 p = p.map Ag
 | [] => by simp [I0]
 | s :: r => by simp [I0, GL r]
attribute [local simp] Nr F6 Ej Lh Ke MA LY F0 Eg HW HP NA KJ Mo MQ Ml MY LL L9 N3 KY MH MN Nf Nu T7 pe Ki LQ Kx Ng Kw LB Lq Nv LZ NX Nn LI LF FP Mq Ku Mb Kp N6 MX KD Mg Mh M7 Kg Kl KZ NM LC Lc K9 LN NY NC N7 FB M6 Ei Lt N5 Nc Mx N9 KQ LJ Nt KX NQ MM NU MS L4 Nq MW Lx LE Md LD Mt L3 Ka NO Kf Eu NG Mr MD Lv LR NS NL Mv KO Kb KA NI Ma KH Lr KF N1 Mw LW NK M1 Mp LH Mj L8 LX MR MG Nh N2 LG NN List.mem_cons guardK Df Fh GG HG LO Ek EW FD FE Ep Eb F1 EY FM Mz Me Ew KT KP Nm Mn NF Kz Em Mf Ni N8 Ns KK Kj H8 Ef F8 Ex Ev M5 LU En Ms FI M3 F2 Ey MU Er FJ NP MP Lw LP L1 LT N0 Lm T8 Ji Jj ID Jk Jo Jd EL Gi Ge Ky Gm Gc EK Dd UH JV Jg GZ K4 K2 EI EJ Bv Bb Ck DF AI ev get put I1 AO Dv Lu Ko Lo MZ Nk KI FU part Bo I4 Lf I7 isNil D9 DC FT DW Cu L0 ME My MJ LV K0 MK Km KG Na KN NV Ld NZ MC K8 AV.fits AV.cells ones AV.one FZ D6 FV EV Gp Ff M4 Hg HJ D8 Bm CA EZ Hz AK Bl Vy HI MO M9 List.getElem?_cons_zero List.getElem?_cons_succ El EX FC Nb Lj Mc IJ L6 LM Kv Lp Mk L5 N4 MV KL Kt M2
theorem XW (c i : Int) : APure Tryz.prog 20 [aI c, aI i] (aF (c, i)) := by
 refine AD Tryz.func20 A57 rfl fun n H hH => ?_
 repeat' (first | (simp -implicitDefEqProofs [c20, -getElem?_pos, aF, splice, AL, AT]) | (simp (disch := omega) only [AB]) | (with_reducible first | refine A5 ?_ ?_ ?_ | exact A7 | refine SameB.upd ?_ ?_ _ | assumption | refine A0 ?_ | refine KM.of ?_ | refine AA ?_ | refine A1 ?_ | refine A3 ?_ | intro _g _hg | refine A9 ?_ ?_ | intro _hc) | omega)
theorem JQ (x a b : Int) : APure Tryz.prog 19 [aI x, aI a, aI b] (.bool (decide (a ≤ x) && decide (x ≤ b))) := by
 refine AD Tryz.func19 A4i rfl fun n H hH => ?_
 repeat' (first | (simp -implicitDefEqProofs [c19, -getElem?_pos, AL]) | (simp (disch := omega) only [AB]) | (with_reducible first | refine A5 ?_ ?_ ?_ | exact A7 | refine SameB.upd ?_ ?_ _ | assumption | refine A0 ?_ | refine KM.of ?_ | refine AA ?_ | intro _g _hg | refine A9 ?_ ?_ | intro _hc) | omega)
def Az (x : Int) : Prop := 0 ≤ x ∧ x ≤ 9999
theorem A12 {x y : Int} (hx : Az x) (hy : Az y) : 0 ≤ x * y ∧ x * y ≤ 99980001 := by
 obtain ⟨x0, x1⟩ := hx
 obtain ⟨y0, y1⟩ := hy
 refine ⟨Int.mul_nonneg x0 y0, ?_⟩
 calc x * y ≤ 9999 * y := Int.mul_le_mul_of_nonneg_right x1 y0
  _ ≤ 9999 * 9999 := Int.mul_le_mul_of_nonneg_left y1 (by decide)
theorem OK (op x y : Int) (ho : 1 ≤ op ∧ op ≤ 6) (hx : Az x) (hy : Az y) (h0 : op = 6 → 1 ≤ y) : APure Tryz.prog 102 [aI op, aI x, aI y] (aI (EU op x y)) := by
 have hm := A12 hx hy
 obtain ⟨x0, x1⟩ := hx
 obtain ⟨y0, y1⟩ := hy
 refine AD Tryz.func102 A27 rfl fun n H hH => ?_
 rcases (by omega : op = 1 ∨ op = 2 ∨ op = 3 ∨ op = 4 ∨ op = 5 ∨ op = 6) with rfl | rfl | rfl | rfl | rfl | rfl
 ·repeat' (first | (simp -implicitDefEqProofs [FO, F3, FL, Es, F7, c102, -getElem?_pos, AL, EU]) | (simp (disch := omega) only [AB]) | (with_reducible first | refine A5 ?_ ?_ ?_ | exact A7 | refine SameB.upd ?_ ?_ _ | assumption | refine A0 ?_ | refine KM.of ?_ | refine AA ?_ | intro _g _hg | refine A9 ?_ ?_ | intro _hc) | omega)
 ·repeat' (first | (simp -implicitDefEqProofs [FO, F3, FL, Es, F7, c102, -getElem?_pos, AL, EU]) | (simp (disch := omega) only [AB]) | (with_reducible first | refine A5 ?_ ?_ ?_ | exact A7 | refine SameB.upd ?_ ?_ _ | assumption | refine A0 ?_ | refine KM.of ?_ | refine AA ?_ | intro _g _hg | refine A9 ?_ ?_ | intro _hc) | omega)
 ·have hw : IntKind.i64.wrap (x * y) = x * y := IntWalk.i64_in _ (by omega)
  have ht : (x * y).tmod 10000 = x * y % 10000 := Int.tmod_eq_emod_of_nonneg hm.1
  repeat' (first | (simp -implicitDefEqProofs [FO, F3, FL, Es, F7, c102, -getElem?_pos, AL, EU, hw, ht]) | (simp (disch := omega) only [AB]) | (with_reducible first | refine A5 ?_ ?_ ?_ | exact A7 | refine SameB.upd ?_ ?_ _ | assumption | refine A0 ?_ | refine KM.of ?_ | refine AA ?_ | intro _g _hg | refine A9 ?_ ?_ | intro _hc) | omega)
 ·repeat' (first | (simp -implicitDefEqProofs [FO, F3, FL, Es, F7, c102, -getElem?_pos, AL, EU]) | (simp (disch := omega) only [AB]) | (with_reducible first | refine A5 ?_ ?_ ?_ | exact A7 | refine SameB.upd ?_ ?_ _ | assumption | refine A0 ?_ | refine KM.of ?_ | refine AA ?_ | intro _g _hg | refine A9 ?_ ?_ | intro _hc) | omega)
 ·repeat' (first | (simp -implicitDefEqProofs [FO, F3, FL, Es, F7, c102, -getElem?_pos, AL, EU]) | (simp (disch := omega) only [AB]) | (with_reducible first | refine A5 ?_ ?_ ?_ | exact A7 | refine SameB.upd ?_ ?_ _ | assumption | refine A0 ?_ | refine KM.of ?_ | refine AA ?_ | intro _g _hg | refine A9 ?_ ?_ | intro _hc) | omega)
 ·have hy1 := h0 rfl
  have hyn : y ≠ 0 := by omega
  repeat' (first | (simp -implicitDefEqProofs [FO, F3, FL, Es, F7, c102, -getElem?_pos, AL, EU, hyn]) | (simp (disch := omega) only [AB]) | (with_reducible first | refine A5 ?_ ?_ ?_ | exact A7 | refine SameB.upd ?_ ?_ _ | assumption | refine A0 ?_ | refine KM.of ?_ | refine AA ?_ | intro _g _hg | refine A9 ?_ ?_ | intro _hc) | omega)
theorem Qq (op x y : Int) (ho : 1 ≤ op ∧ op ≤ 3) (hx : Az x) (hy : Az y) (h0 : op = 3 → 1 ≤ y) : APure Tryz.prog 108 [aI op, aI x, aI y] (.bool (HS op x y)) := by
 obtain ⟨x0, x1⟩ := hx
 obtain ⟨y0, y1⟩ := hy
 refine AD Tryz.func108 A18 rfl fun n H hH => ?_
 rcases (by omega : op = 1 ∨ op = 2 ∨ op = 3) with rfl | rfl | rfl
 ·repeat' (first | (simp -implicitDefEqProofs [JL, JI, c108, -getElem?_pos, AL, HS]) | (simp (disch := omega) only [AB]) | (with_reducible first | refine A5 ?_ ?_ ?_ | exact A7 | refine SameB.upd ?_ ?_ _ | assumption | refine A0 ?_ | refine KM.of ?_ | refine AA ?_ | intro _g _hg | refine A9 ?_ ?_ | intro _hc) | omega)
  try all_goals (rw [Bool.eq_iff_iff]; simp only [decide_eq_true_eq, beq_iff_eq, Bool.or_eq_true, Bool.not_eq_true', decide_eq_false_iff_not]; try omega)
 ·repeat' (first | (simp -implicitDefEqProofs [JL, JI, c108, -getElem?_pos, AL, HS]) | (simp (disch := omega) only [AB]) | (with_reducible first | refine A5 ?_ ?_ ?_ | exact A7 | refine SameB.upd ?_ ?_ _ | assumption | refine A0 ?_ | refine KM.of ?_ | refine AA ?_ | intro _g _hg | refine A9 ?_ ?_ | intro _hc) | omega)
  try all_goals (rw [Bool.eq_iff_iff]; simp only [decide_eq_true_eq, beq_iff_eq, Bool.or_eq_true, Bool.not_eq_true', decide_eq_false_iff_not]; try omega)
 ·have hy1 := h0 rfl
  have hyn : y ≠ 0 := by omega
  repeat' (first | (simp -implicitDefEqProofs [JL, JI, c108, -getElem?_pos, AL, HS, hyn]) | (simp (disch := omega) only [AB]) | (with_reducible first | refine A5 ?_ ?_ ?_ | exact A7 | refine SameB.upd ?_ ?_ _ | assumption | refine A0 ?_ | refine KM.of ?_ | refine AA ?_ | intro _g _hg | refine A9 ?_ ?_ | intro _hc) | omega)
  all_goals (rw [Bool.eq_iff_iff]; simp only [decide_eq_true_eq, beq_iff_eq, Bool.or_eq_true, Bool.not_eq_true', decide_eq_false_iff_not]; try omega)
theorem Rg (k : Int) : APure Tryz.prog 44 [aI k] (.bool (DA k)) := by
 refine AD Tryz.func44 A50 rfl fun n H hH => ?_
 repeat' (first | (simp -implicitDefEqProofs [c44, -getElem?_pos, AL, DA]) | (simp (disch := omega) only [AB]) | (with_reducible first | refine A5 ?_ ?_ ?_ | exact A7 | refine SameB.upd ?_ ?_ _ | assumption | refine A0 ?_ | refine KM.of ?_ | refine AA ?_ | intro _g _hg | refine A9 ?_ ?_ | intro _hc) | omega)
 all_goals (rw [Bool.eq_iff_iff]; simp only [decide_eq_true_eq, beq_iff_eq, Bool.or_eq_true, Bool.not_eq_true', decide_eq_false_iff_not]; try omega)
theorem IE (k : Int) : APure Tryz.prog 53 [aI k] (.bool (Pu k)) := by
 refine AD Tryz.func53 A5g rfl fun n H hH => ?_
 repeat' (first | (simp -implicitDefEqProofs [c53, -getElem?_pos, AL, Pu]) | (simp (disch := omega) only [AB]) | (with_reducible first | refine A5 ?_ ?_ ?_ | exact A7 | refine SameB.upd ?_ ?_ _ | assumption | refine A0 ?_ | refine KM.of ?_ | refine AA ?_ | intro _g _hg | refine A9 ?_ ?_ | intro _hc) | omega)
 all_goals (rw [Bool.eq_iff_iff]; simp only [decide_eq_true_eq, beq_iff_eq, Bool.or_eq_true, Bool.not_eq_true', decide_eq_false_iff_not]; try omega)
theorem HD (k : Int) : APure Tryz.prog 55 [aI k] (.bool (Cz k)) := by
 refine AD Tryz.func55 A4m rfl fun n H hH => ?_
 repeat' (first | (simp -implicitDefEqProofs [c55, -getElem?_pos, AL, Cz]) | (simp (disch := omega) only [AB]) | (with_reducible first | refine A5 ?_ ?_ ?_ | exact A7 | refine SameB.upd ?_ ?_ _ | assumption | refine A0 ?_ | refine KM.of ?_ | refine AA ?_ | intro _g _hg | refine A9 ?_ ?_ | intro _hc) | omega)
 all_goals (rw [Bool.eq_iff_iff]; simp only [decide_eq_true_eq, beq_iff_eq, Bool.or_eq_true, Bool.not_eq_true', decide_eq_false_iff_not]; try omega)
theorem Ha (k : Int) : APure Tryz.prog 58 [aI k] (.bool (Iv k)) := by
 refine AD Tryz.func58 A4l rfl fun n H hH => ?_
 repeat' (first | (simp -implicitDefEqProofs [c58, -getElem?_pos, AL, Iv]) | (simp (disch := omega) only [AB]) | (with_reducible first | refine A5 ?_ ?_ ?_ | exact A7 | refine SameB.upd ?_ ?_ _ | assumption | refine A0 ?_ | refine KM.of ?_ | refine AA ?_ | intro _g _hg | refine A9 ?_ ?_ | intro _hc) | omega)
 all_goals (rw [Bool.eq_iff_iff]; simp only [decide_eq_true_eq, beq_iff_eq, Bool.or_eq_true, Bool.not_eq_true', decide_eq_false_iff_not]; try omega)
theorem drop_at {α : Type} {l : List α} {k : Nat} {x : α} (h : l[k]? = some x) : l.drop k = x :: l.drop (k + 1) := by
 have hk := (List.getElem?_eq_some_iff.1 h).1
 rw [List.drop_eq_getElem_cons hk, (List.getElem?_eq_some_iff.1 h).2]
theorem Ho {α : Type} {f : α → AV} {l : List α} {k : Nat} {x : α} (h : l[k]? = some x) : (l.map f)[k]? = some (f x) := by
 rw [List.getElem?_map, h]; rfl
theorem AP (k o n : Int) (v : List Int) (p : List St) : encS (.mk k o n v p) = .agg [aI k, aI o, aI n, .sl 1 (v.map aI) .ro, .sl 5 (Ac p) .ro] := by rw [encS]
theorem BJ (p : List St) : (Ac p).length = p.length := by rw [K5]; simp
theorem Ur {k : Int} {i : Nat} {v : List Int} {x : Int} (hx : v[i]? = some x) : BH k i (v.drop i) = (GS k i x && BH k (i + 1) (v.drop (i + 1))) := by
 rw [drop_at hx, BH]
theorem SF {k : Int} {i : Nat} {v : List Int} (h : v.length ≤ i) : BH k i (v.drop i) = true := by
 rw [List.drop_eq_nil_of_le h, BH]
theorem Fj (k o m : Int) (v : List Int) (p : List St) (g n0 n1 : Nat) (H H1 : A2) (q : H1 g = some (.cells 25 [aI k, aI o, aI m, .sl 1 (v.map aI) .ro, .sl 5 (Ac p) .ro])) (hn : n0 ≤ n1) (hs : SameB n0 H H1) (hvb : v.length ≤ 140737488355328) :
  LoopK (fun Q s => aw Tryz.prog c68_L6 Q s) (Dk 0 (EF (aw Tryz.prog c68_k1 (OG (aI (if BH k 0 v = true then 0 else 4)) n0 H [.tmp 2])) (OG (aI (if BH k 0 v = true then 0 else 4)) n0 H [.tmp 2]))) ⟨[(1, .ptr g 0), (3, aI k), (10, aI 0)], n1, H1⟩ := by
 refine LoopK.go (fun r s => ∃ i : Nat, i + r = v.length ∧ s = ⟨[(1, .ptr g 0), (3, aI k), (10, aI i)], n1, H1⟩ ∧ BH k 0 v = BH k i (v.drop i)) v.length ⟨0, by omega, rfl, rfl⟩ ?_
 rintro r s ⟨i, hi, rfl, hE⟩ J hJ
 by_cases hil : i < v.length
 ·obtain ⟨x, hx⟩ : ∃ x, v[i]? = some x := ⟨_, List.getElem?_eq_getElem hil⟩
  have hx' := Ho (f := aI) hx
  have hil' : (i : Int) < v.length := by omega
  have hvl : (v.map aI).length = v.length := by simp
  rw [Ur hx] at hE
  generalize v.map aI = va at *
  have hin := fun a b => JQ x a b
  by_cases hv : GS k i x = true
  ·rw [hv, Bool.true_and] at hE
   unfold GS at hv
   by_cases hk : k = 2
   ·subst hk
    by_cases h1 : i = 1
    ·subst h1
     have hv : (decide (0 ≤ x) && decide (x ≤ 10000)) = true := by simpa using hv
     have hin := JQ x 0 10000
     rw [hv] at hin
     
     repeat' (first | (simp -implicitDefEqProofs [DN, DP, DJ, DR, DK, DL, Bs, Bt, Br, BS, BT, BQ, BZ, BV, BW, c68, -getElem?_pos, q, hx', hvl, hil']) | (simp (disch := omega) only [AB]) | ((with_reducible refine AN 19 ?_); refine' AQ (hin) ?_) | (with_reducible first | refine A5 ?_ ?_ ?_ | exact A7 | refine SameB.upd ?_ ?_ _ | assumption | refine A0 ?_ | refine KM.of ?_ | refine AA ?_ | refine A1 ?_ | refine A3 ?_ | intro _g _hg | refine A9 ?_ ?_ | intro _hc) | omega)
     exact hJ (r - 1) _ (by omega) ⟨2, by omega, rfl, hE⟩
    ·by_cases h2 : i = 2
     ·subst h2
      have hv : (decide (1 ≤ x) && decide (x ≤ 9999)) = true := by simpa using hv
      have hin := JQ x 1 9999
      rw [hv] at hin
      
      repeat' (first | (simp -implicitDefEqProofs [DN, DP, DJ, DR, DK, DL, Bs, Bt, Br, BS, BT, BQ, BZ, BV, BW, c68, -getElem?_pos, q, hx', hvl, hil']) | (simp (disch := omega) only [AB]) | ((with_reducible refine AN 19 ?_); refine' AQ (hin) ?_) | (with_reducible first | refine A5 ?_ ?_ ?_ | exact A7 | refine SameB.upd ?_ ?_ _ | assumption | refine A0 ?_ | refine KM.of ?_ | refine AA ?_ | refine A1 ?_ | refine A3 ?_ | intro _g _hg | refine A9 ?_ ?_ | intro _hc) | omega)
      exact hJ (r - 1) _ (by omega) ⟨3, by omega, rfl, hE⟩
     ·have hv : (decide (0 ≤ x) && decide (x ≤ 9999)) = true := by simpa [h1, h2] using hv
      have hin := JQ x 0 9999
      rw [hv] at hin
      have h1' : ¬ (i : Int) = 1 := by omega
      have h2' : ¬ (i : Int) = 2 := by omega
      
      repeat' (first | (simp -implicitDefEqProofs [DN, DP, DJ, DR, DK, DL, Bs, Bt, Br, BS, BT, BQ, BZ, BV, BW, c68, -getElem?_pos, q, hx', hvl, hil', h1', h2']) | (simp (disch := omega) only [AB]) | ((with_reducible refine AN 19 ?_); refine' AQ (hin) ?_) | (with_reducible first | refine A5 ?_ ?_ ?_ | exact A7 | refine SameB.upd ?_ ?_ _ | assumption | refine A0 ?_ | refine KM.of ?_ | refine AA ?_ | refine A1 ?_ | refine A3 ?_ | intro _g _hg | refine A9 ?_ ?_ | intro _hc) | omega)
      exact hJ (r - 1) _ (by omega) ⟨i + 1, by omega, rfl, hE⟩
   ·have hv : (decide (0 ≤ x) && decide (x ≤ 9999)) = true := by simpa [hk] using hv
    have hin := JQ x 0 9999
    rw [hv] at hin
    
    repeat' (first | (simp -implicitDefEqProofs [DN, DP, DJ, DR, DK, DL, Bs, Bt, Br, BS, BT, BQ, BZ, BV, BW, c68, -getElem?_pos, q, hx', hvl, hil', hk]) | (simp (disch := omega) only [AB]) | ((with_reducible refine AN 19 ?_); refine' AQ (hin) ?_) | (with_reducible first | refine A5 ?_ ?_ ?_ | exact A7 | refine SameB.upd ?_ ?_ _ | assumption | refine A0 ?_ | refine KM.of ?_ | refine AA ?_ | refine A1 ?_ | refine A3 ?_ | intro _g _hg | refine A9 ?_ ?_ | intro _hc) | omega)
    exact hJ (r - 1) _ (by omega) ⟨i + 1, by omega, rfl, hE⟩
  ·have hv : GS k i x = false := by simpa using hv
   rw [hv, Bool.false_and] at hE
   rw [hE]
   unfold GS at hv
   by_cases hk : k = 2
   ·subst hk
    by_cases h1 : i = 1
    ·subst h1
     have hv : (decide (0 ≤ x) && decide (x ≤ 10000)) = false := by simpa using hv
     have hin := JQ x 0 10000
     rw [hv] at hin
     
     repeat' (first | (simp -implicitDefEqProofs [DN, DP, DJ, DR, DK, DL, Bs, Bt, Br, BS, BT, BQ, BZ, BV, BW, c68, -getElem?_pos, q, hx', hvl, hil', A6]) | (simp (disch := omega) only [AB]) | ((with_reducible refine AN 19 ?_); refine' AQ (hin) ?_) | (with_reducible first | refine A5 ?_ ?_ ?_ | exact A7 | refine SameB.upd ?_ ?_ _ | assumption | refine A0 ?_ | refine KM.of ?_ | refine AA ?_ | refine A1 ?_ | refine A3 ?_ | intro _g _hg | refine A9 ?_ ?_ | intro _hc) | omega)
    ·by_cases h2 : i = 2
     ·subst h2
      have hv : (decide (1 ≤ x) && decide (x ≤ 9999)) = false := by simpa using hv
      have hin := JQ x 1 9999
      rw [hv] at hin
      
      repeat' (first | (simp -implicitDefEqProofs [DN, DP, DJ, DR, DK, DL, Bs, Bt, Br, BS, BT, BQ, BZ, BV, BW, c68, -getElem?_pos, q, hx', hvl, hil', A6]) | (simp (disch := omega) only [AB]) | ((with_reducible refine AN 19 ?_); refine' AQ (hin) ?_) | (with_reducible first | refine A5 ?_ ?_ ?_ | exact A7 | refine SameB.upd ?_ ?_ _ | assumption | refine A0 ?_ | refine KM.of ?_ | refine AA ?_ | refine A1 ?_ | refine A3 ?_ | intro _g _hg | refine A9 ?_ ?_ | intro _hc) | omega)
     ·have hv : (decide (0 ≤ x) && decide (x ≤ 9999)) = false := by simpa [h1, h2] using hv
      have hin := JQ x 0 9999
      rw [hv] at hin
      have h1' : ¬ (i : Int) = 1 := by omega
      have h2' : ¬ (i : Int) = 2 := by omega
      
      repeat' (first | (simp -implicitDefEqProofs [DN, DP, DJ, DR, DK, DL, Bs, Bt, Br, BS, BT, BQ, BZ, BV, BW, c68, -getElem?_pos, q, hx', hvl, hil', h1', h2', A6]) | (simp (disch := omega) only [AB]) | ((with_reducible refine AN 19 ?_); refine' AQ (hin) ?_) | (with_reducible first | refine A5 ?_ ?_ ?_ | exact A7 | refine SameB.upd ?_ ?_ _ | assumption | refine A0 ?_ | refine KM.of ?_ | refine AA ?_ | refine A1 ?_ | refine A3 ?_ | intro _g _hg | refine A9 ?_ ?_ | intro _hc) | omega)
   ·have hv : (decide (0 ≤ x) && decide (x ≤ 9999)) = false := by simpa [hk] using hv
    have hin := JQ x 0 9999
    rw [hv] at hin
    
    repeat' (first | (simp -implicitDefEqProofs [DN, DP, DJ, DR, DK, DL, Bs, Bt, Br, BS, BT, BQ, BZ, BV, BW, c68, -getElem?_pos, q, hx', hvl, hil', hk, A6]) | (simp (disch := omega) only [AB]) | ((with_reducible refine AN 19 ?_); refine' AQ (hin) ?_) | (with_reducible first | refine A5 ?_ ?_ ?_ | exact A7 | refine SameB.upd ?_ ?_ _ | assumption | refine A0 ?_ | refine KM.of ?_ | refine AA ?_ | refine A1 ?_ | refine A3 ?_ | intro _g _hg | refine A9 ?_ ?_ | intro _hc) | omega)
 ·have hil' : ¬ (i : Int) < v.length := by omega
  rw [SF (by omega)] at hE
  rw [hE]
  
  repeat' (first | (simp -implicitDefEqProofs [DN, DP, DJ, DR, DK, DL, Bs, Bt, Br, BS, BT, BQ, BZ, BV, BW, c68, -getElem?_pos, q, hil', A6]) | (simp (disch := omega) only [AB]) | (with_reducible first | refine A5 ?_ ?_ ?_ | exact A7 | refine SameB.upd ?_ ?_ _ | assumption | refine A0 ?_ | refine KM.of ?_ | refine AA ?_ | refine A1 ?_ | refine A3 ?_ | intro _g _hg | refine A9 ?_ ?_ | intro _hc) | omega)
theorem BG {a b : Int} (h : b = a) : AL (aI a) (aI b) := by subst h; exact A6 _
set_option maxRecDepth 8000 in
theorem YD (k o m : Int) (v : List Int) (p : List St) (hvb : v.length ≤ 140737488355328) (hk : k = 1 ∨ k = 3 ∨ k = 4 ∨ k = 5) : APure Tryz.prog 68 [encS (.mk k o m v p)] (aI (C0 (.mk k o m v p))) := by
 rw [AP]
 have hpl := BJ p
 obtain ⟨z, hz⟩ : ∃ z, C0 (.mk k o m v p) = z := ⟨_, rfl⟩
 obtain ⟨vb, hvv⟩ : ∃ b, BH k 0 v = b := ⟨_, rfl⟩
 have hgo := Fj k o m v p
 rw [hz]
 rcases hk with rfl | rfl | rfl | rfl
 all_goals
  simp [C0, DA, Gb, Jc, Pu, Cz, Iv, OF, OR, OM] at hz
  refine AD Tryz.func68 Rs rfl fun n H hH => ?_
  have hgo := fun g n1 H1 => hgo g n n1 H H1
  rw [hvv] at hgo
  repeat' (first | (simp -implicitDefEqProofs [c68, BW, BV, BZ, BQ, BT, BS, Br, Bt, Bs, -getElem?_pos, hpl, DA, Pu, Cz, Iv]) | (simp (disch := omega) only [AB]) | ((with_reducible refine AN 19 ?_); refine' AQ (JQ _ _ _) ?_) | ((with_reducible refine AN 44 ?_); refine' AQ (Rg _) ?_) | ((with_reducible refine AN 53 ?_); refine' AQ (IE _) ?_) | ((with_reducible refine AN 55 ?_); refine' AQ (HD _) ?_) | ((with_reducible refine AN 58 ?_); refine' AQ (Ha _) ?_) | (with_reducible first | refine A5 ?_ ?_ ?_ | exact A7 | refine SameB.upd ?_ ?_ _ | assumption | refine A0 ?_ | refine KM.of ?_ | refine AA ?_ | refine A1 ?_ | refine A3 ?_ | intro _g _hg | refine A9 ?_ ?_ | intro _hc) | omega)
  all_goals (try (refine BG ?_; rw [← hz]; clear hz hvv hgo; (repeat' split) <;> first | rfl | (exfalso; simp_all; done) | (exfalso; simp_all; omega) | (exfalso; grind); done))
  all_goals (try (have hzz : z = (if vb = true then 0 else 4) := (by rw [← hz, ← hvv]; clear hz hvv hgo; simp_all; try omega); (rw [hzz]; exact hgo _ _ _ (AK _ _ _) (by omega) (fun k hk => upd_ne (by omega)) hvb)))
set_option maxRecDepth 8000 in
theorem XK (k o m : Int) (v : List Int) (p : List St) (hvb : v.length ≤ 140737488355328) (hk : k = 2 ∨ k = 6 ∨ k = 7 ∨ k = 8) : APure Tryz.prog 68 [encS (.mk k o m v p)] (aI (C0 (.mk k o m v p))) := by
 rw [AP]
 have hpl := BJ p
 obtain ⟨z, hz⟩ : ∃ z, C0 (.mk k o m v p) = z := ⟨_, rfl⟩
 obtain ⟨vb, hvv⟩ : ∃ b, BH k 0 v = b := ⟨_, rfl⟩
 have hgo := Fj k o m v p
 rw [hz]
 rcases hk with rfl | rfl | rfl | rfl
 all_goals
  simp [C0, DA, Gb, Jc, Pu, Cz, Iv, OF, OR, OM] at hz
  refine AD Tryz.func68 Rs rfl fun n H hH => ?_
  have hgo := fun g n1 H1 => hgo g n n1 H H1
  rw [hvv] at hgo
  repeat' (first | (simp -implicitDefEqProofs [c68, BW, BV, BZ, BQ, BT, BS, Br, Bt, Bs, -getElem?_pos, hpl, DA, Pu, Cz, Iv]) | (simp (disch := omega) only [AB]) | ((with_reducible refine AN 19 ?_); refine' AQ (JQ _ _ _) ?_) | ((with_reducible refine AN 44 ?_); refine' AQ (Rg _) ?_) | ((with_reducible refine AN 53 ?_); refine' AQ (IE _) ?_) | ((with_reducible refine AN 55 ?_); refine' AQ (HD _) ?_) | ((with_reducible refine AN 58 ?_); refine' AQ (Ha _) ?_) | (with_reducible first | refine A5 ?_ ?_ ?_ | exact A7 | refine SameB.upd ?_ ?_ _ | assumption | refine A0 ?_ | refine KM.of ?_ | refine AA ?_ | refine A1 ?_ | refine A3 ?_ | intro _g _hg | refine A9 ?_ ?_ | intro _hc) | omega)
  all_goals (try (refine BG ?_; rw [← hz]; clear hz hvv hgo; (repeat' split) <;> first | rfl | (exfalso; simp_all; done) | (exfalso; simp_all; omega) | (exfalso; grind); done))
  all_goals (try (have hzz : z = (if vb = true then 0 else 4) := (by rw [← hz, ← hvv]; clear hz hvv hgo; simp_all; try omega); (rw [hzz]; exact hgo _ _ _ (AK _ _ _) (by omega) (fun k hk => upd_ne (by omega)) hvb)))
set_option maxRecDepth 8000 in
theorem Xb (k o m : Int) (v : List Int) (p : List St) (hvb : v.length ≤ 140737488355328) (hk : k = 9 ∨ k = 10 ∨ k = 11 ∨ k = 12) : APure Tryz.prog 68 [encS (.mk k o m v p)] (aI (C0 (.mk k o m v p))) := by
 rw [AP]
 have hpl := BJ p
 obtain ⟨z, hz⟩ : ∃ z, C0 (.mk k o m v p) = z := ⟨_, rfl⟩
 obtain ⟨vb, hvv⟩ : ∃ b, BH k 0 v = b := ⟨_, rfl⟩
 have hgo := Fj k o m v p
 rw [hz]
 rcases hk with rfl | rfl | rfl | rfl
 all_goals
  simp [C0, DA, Gb, Jc, Pu, Cz, Iv, OF, OR, OM] at hz
  refine AD Tryz.func68 Rs rfl fun n H hH => ?_
  have hgo := fun g n1 H1 => hgo g n n1 H H1
  rw [hvv] at hgo
  repeat' (first | (simp -implicitDefEqProofs [c68, BW, BV, BZ, BQ, BT, BS, Br, Bt, Bs, -getElem?_pos, hpl, DA, Pu, Cz, Iv]) | (simp (disch := omega) only [AB]) | ((with_reducible refine AN 19 ?_); refine' AQ (JQ _ _ _) ?_) | ((with_reducible refine AN 44 ?_); refine' AQ (Rg _) ?_) | ((with_reducible refine AN 53 ?_); refine' AQ (IE _) ?_) | ((with_reducible refine AN 55 ?_); refine' AQ (HD _) ?_) | ((with_reducible refine AN 58 ?_); refine' AQ (Ha _) ?_) | (with_reducible first | refine A5 ?_ ?_ ?_ | exact A7 | refine SameB.upd ?_ ?_ _ | assumption | refine A0 ?_ | refine KM.of ?_ | refine AA ?_ | refine A1 ?_ | refine A3 ?_ | intro _g _hg | refine A9 ?_ ?_ | intro _hc) | omega)
  all_goals (try (refine BG ?_; rw [← hz]; clear hz hvv hgo; (repeat' split) <;> first | rfl | (exfalso; simp_all; done) | (exfalso; simp_all; omega) | (exfalso; grind); done))
  all_goals (try (have hzz : z = (if vb = true then 0 else 4) := (by rw [← hz, ← hvv]; clear hz hvv hgo; simp_all; try omega); (rw [hzz]; exact hgo _ _ _ (AK _ _ _) (by omega) (fun k hk => upd_ne (by omega)) hvb)))
set_option maxRecDepth 8000 in
theorem YC (k o m : Int) (v : List Int) (p : List St) (hvb : v.length ≤ 140737488355328) (hk : k = 13 ∨ k = 14 ∨ k = 15 ∨ k = 16) : APure Tryz.prog 68 [encS (.mk k o m v p)] (aI (C0 (.mk k o m v p))) := by
 rw [AP]
 have hpl := BJ p
 obtain ⟨z, hz⟩ : ∃ z, C0 (.mk k o m v p) = z := ⟨_, rfl⟩
 obtain ⟨vb, hvv⟩ : ∃ b, BH k 0 v = b := ⟨_, rfl⟩
 have hgo := Fj k o m v p
 rw [hz]
 rcases hk with rfl | rfl | rfl | rfl
 all_goals
  simp [C0, DA, Gb, Jc, Pu, Cz, Iv, OF, OR, OM] at hz
  refine AD Tryz.func68 Rs rfl fun n H hH => ?_
  have hgo := fun g n1 H1 => hgo g n n1 H H1
  rw [hvv] at hgo
  repeat' (first | (simp -implicitDefEqProofs [c68, BW, BV, BZ, BQ, BT, BS, Br, Bt, Bs, -getElem?_pos, hpl, DA, Pu, Cz, Iv]) | (simp (disch := omega) only [AB]) | ((with_reducible refine AN 19 ?_); refine' AQ (JQ _ _ _) ?_) | ((with_reducible refine AN 44 ?_); refine' AQ (Rg _) ?_) | ((with_reducible refine AN 53 ?_); refine' AQ (IE _) ?_) | ((with_reducible refine AN 55 ?_); refine' AQ (HD _) ?_) | ((with_reducible refine AN 58 ?_); refine' AQ (Ha _) ?_) | (with_reducible first | refine A5 ?_ ?_ ?_ | exact A7 | refine SameB.upd ?_ ?_ _ | assumption | refine A0 ?_ | refine KM.of ?_ | refine AA ?_ | refine A1 ?_ | refine A3 ?_ | intro _g _hg | refine A9 ?_ ?_ | intro _hc) | omega)
  all_goals (try (refine BG ?_; rw [← hz]; clear hz hvv hgo; (repeat' split) <;> first | rfl | (exfalso; simp_all; done) | (exfalso; simp_all; omega) | (exfalso; grind); done))
  all_goals (try (have hzz : z = (if vb = true then 0 else 4) := (by rw [← hz, ← hvv]; clear hz hvv hgo; simp_all; try omega); (rw [hzz]; exact hgo _ _ _ (AK _ _ _) (by omega) (fun k hk => upd_ne (by omega)) hvb)))
theorem RG (k o m : Int) (v : List Int) (p : List St) (hvb : v.length ≤ 140737488355328) : APure Tryz.prog 68 [encS (.mk k o m v p)] (aI (C0 (.mk k o m v p))) := by
 by_cases hk : 1 ≤ k ∧ k ≤ 16
 ·rcases (by omega : (k = 1 ∨ k = 3 ∨ k = 4 ∨ k = 5) ∨ (k = 2 ∨ k = 6 ∨ k = 7 ∨ k = 8) ∨ (k = 9 ∨ k = 10 ∨ k = 11 ∨ k = 12) ∨ (k = 13 ∨ k = 14 ∨ k = 15 ∨ k = 16)) with h | h | h | h
  ·exact YD k o m v p hvb h
  ·exact XK k o m v p hvb h
  ·exact Xb k o m v p hvb h
  ·exact YC k o m v p hvb h
 ·have hin := JQ k 1 16
  have : (decide (1 ≤ k) && decide (k ≤ 16)) = false := by simp; omega
  rw [this] at hin
  have hnc : C0 (.mk k o m v p) = 5 := by simp only [C0]; rw [if_pos hk]
  rw [hnc, AP]
  
  refine AD Tryz.func68 Rs rfl fun n H hH => ?_
  repeat' (first | (simp -implicitDefEqProofs [c68, -getElem?_pos, A6]) | (simp (disch := omega) only [AB]) | ((with_reducible refine AN 19 ?_); refine' AQ (hin) ?_) | (with_reducible first | refine A5 ?_ ?_ ?_ | exact A7 | refine SameB.upd ?_ ?_ _ | assumption | refine A0 ?_ | refine KM.of ?_ | refine AA ?_ | refine A1 ?_ | refine A3 ?_ | intro _g _hg | refine A9 ?_ ?_ | intro _hc) | omega)
structure Shq where
 w : Ad
 parts : Int
 fn : Bool
 cd : Bool
 n0 : Int
 n1 : Int
 vs : Bool
abbrev Ri (x : Shq) : AV := .agg [.str x.w, aI x.parts, .bool x.fn, .bool x.cd, aI x.n0, aI x.n1, .bool x.vs]
def shqs : List Shq := [
 ⟨[118, 97, 108, 117, 101, 115], 0, false, false, 0, 0, true⟩,
 ⟨[114, 97, 110, 103, 101], 0, false, false, 0, 0, true⟩,
 ⟨[109, 97, 112], 1, true, false, 0, 0, false⟩,
 ⟨[102, 105, 108, 116, 101, 114], 1, false, true, 0, 0, false⟩,
 ⟨[116, 97, 107, 101], 1, false, false, 0, 5000, false⟩,
 ⟨[100, 114, 111, 112], 1, false, false, 0, 5000, false⟩,
 ⟨[119, 104, 105, 108, 101], 1, false, true, 0, 0, false⟩,
 ⟨[115, 107, 105, 112], 1, false, true, 0, 0, false⟩,
 ⟨[115, 99, 97, 110], 1, true, false, 0, 0, false⟩,
 ⟨[119, 105, 110, 100, 111, 119], 1, true, false, 1, 8, false⟩,
 ⟨[114, 117, 110, 115], 1, false, false, 0, 0, false⟩,
 ⟨[114, 101, 112, 101, 97, 116], 1, false, false, 0, 20, false⟩,
 ⟨[99, 104, 97, 105, 110], -1, false, false, 0, 0, false⟩,
 ⟨[116, 117, 114, 110, 115], -1, false, false, 0, 0, false⟩,
 ⟨[122, 105, 112], 2, true, false, 0, 0, false⟩,
 ⟨[109, 101, 114, 103, 101], 2, false, false, 0, 0, false⟩]
def shpMap : List (AV × AV) := [
 (aI 1, .agg [.str [118, 97, 108, 117, 101, 115], aI 0, .bool false, .bool false, aI 0, aI 0, .bool true]),
 (aI 2, .agg [.str [114, 97, 110, 103, 101], aI 0, .bool false, .bool false, aI 0, aI 0, .bool true]),
 (aI 3, .agg [.str [109, 97, 112], aI 1, .bool true, .bool false, aI 0, aI 0, .bool false]),
 (aI 4, .agg [.str [102, 105, 108, 116, 101, 114], aI 1, .bool false, .bool true, aI 0, aI 0, .bool false]),
 (aI 5, .agg [.str [116, 97, 107, 101], aI 1, .bool false, .bool false, aI 0, aI 5000, .bool false]),
 (aI 6, .agg [.str [100, 114, 111, 112], aI 1, .bool false, .bool false, aI 0, aI 5000, .bool false]),
 (aI 7, .agg [.str [119, 104, 105, 108, 101], aI 1, .bool false, .bool true, aI 0, aI 0, .bool false]),
 (aI 8, .agg [.str [115, 107, 105, 112], aI 1, .bool false, .bool true, aI 0, aI 0, .bool false]),
 (aI 9, .agg [.str [115, 99, 97, 110], aI 1, .bool true, .bool false, aI 0, aI 0, .bool false]),
 (aI 10, .agg [.str [119, 105, 110, 100, 111, 119], aI 1, .bool true, .bool false, aI 1, aI 8, .bool false]),
 (aI 11, .agg [.str [114, 117, 110, 115], aI 1, .bool false, .bool false, aI 0, aI 0, .bool false]),
 (aI 12, .agg [.str [114, 101, 112, 101, 97, 116], aI 1, .bool false, .bool false, aI 0, aI 20, .bool false]),
 (aI 13, .agg [.str [99, 104, 97, 105, 110], aI (-1), .bool false, .bool false, aI 0, aI 0, .bool false]),
 (aI 14, .agg [.str [116, 117, 114, 110, 115], aI (-1), .bool false, .bool false, aI 0, aI 0, .bool false]),
 (aI 15, .agg [.str [122, 105, 112], aI 2, .bool true, .bool false, aI 0, aI 0, .bool false]),
 (aI 16, .agg [.str [109, 101, 114, 103, 101], aI 2, .bool false, .bool false, aI 0, aI 0, .bool false])]
theorem PI (k o m : Int) (v : List Int) (p : List St) (x : Shq) : APure Tryz.prog 93 [encS (.mk k o m v p), Ri x] (.bool (if x.cd = true then decide (1 ≤ o) && decide (o ≤ 3) else if x.fn = true ∧ k = 3 then decide (1 ≤ o) && decide (o ≤ 6) else if x.fn = true then decide (1 ≤ o) && decide (o ≤ 5) else true)) := by
 rw [AP]
 obtain ⟨w, parts, fn, cd, n0, n1, vs⟩ := x
 refine AD Tryz.func93 A54 rfl fun n H hH => ?_
 repeat' (first | (simp -implicitDefEqProofs [Vw, W8, Wf, c93, -getElem?_pos, splice, AL]) | (simp (disch := omega) only [AB]) | (with_reducible first | refine A5 ?_ ?_ ?_ | exact A7 | refine SameB.upd ?_ ?_ _ | assumption | refine A0 ?_ | refine KM.of ?_ | refine AA ?_ | refine A1 ?_ | refine A3 ?_ | intro _g _hg | refine A9 ?_ ?_ | intro _hc) | omega)
 all_goals grind
theorem OW (k o m : Int) (v : List Int) (p : List St) (x : Shq) : APure Tryz.prog 94 [encS (.mk k o m v p), Ri x] (.bool (if 0 < x.n1 then decide (x.n0 ≤ m) && decide (m ≤ x.n1) else decide ((if (x.cd = true ∧ o = 3) ∨ (x.fn = true ∧ o = 6) then 1 else 0) ≤ m) && decide (m ≤ 9999))) := by
 rw [AP]
 obtain ⟨w, parts, fn, cd, n0, n1, vs⟩ := x
 refine AD Tryz.func94 A4r rfl fun n H hH => ?_
 repeat' (first | (simp -implicitDefEqProofs [Vr, W5, c94, -getElem?_pos, splice, AL]) | (simp (disch := omega) only [AB]) | (with_reducible first | refine A5 ?_ ?_ ?_ | exact A7 | refine SameB.upd ?_ ?_ _ | assumption | refine A0 ?_ | refine KM.of ?_ | refine AA ?_ | refine A1 ?_ | refine A3 ?_ | intro _g _hg | refine A9 ?_ ?_ | intro _hc) | omega)
 all_goals grind
theorem Rx (k o m : Int) (v : List Int) (p : List St) (hvb : v.length ≤ 140737488355328) (h3 : k = 2 → v.length = 3) : APure Tryz.prog 95 [encS (.mk k o m v p)] (.bool (BH k 0 v)) := by
 rw [AP]
 refine AD Tryz.func95 A4a rfl fun n H hH => ?_
 repeat' (first | (simp -implicitDefEqProofs [c95, -getElem?_pos, AL]) | (simp (disch := omega) only [AB]) | (with_reducible first | refine A5 ?_ ?_ ?_ | exact A7 | refine SameB.upd ?_ ?_ _ | assumption | refine A0 ?_ | refine KM.of ?_ | refine AA ?_ | refine A1 ?_ | refine A3 ?_ | intro _g _hg | refine A9 ?_ ?_ | intro _hc) | omega)
 refine LoopK.go (fun r s => ∃ i : Nat, i + r = v.length ∧ s = ⟨[(1, .ptr _g 0), (8, .sl 1 (v.map aI) .ro), (9, aI v.length), (10, aI i)], _g + 1, upd H _g (some (.cells 25 [aI k, aI o, aI m, .sl 1 (v.map aI) .ro, .sl 5 (Ac p) .ro]))⟩ ∧ BH k 0 v = BH k i (v.drop i)) v.length ⟨0, by omega, by simp, rfl⟩ ?_
 rintro r s ⟨i, hi, rfl, hE⟩ J hJ
 by_cases hil : i < v.length
 ·obtain ⟨x, hx⟩ : ∃ x, v[i]? = some x := ⟨_, List.getElem?_eq_getElem hil⟩
  have hx' := Ho (f := aI) hx
  have hil' : (i : Int) < v.length := by omega
  have hvl : (v.map aI).length = v.length := by simp
  rw [Ur hx] at hE
  generalize v.map aI = va at *
  by_cases hk : k = 2
  ·have h3 := h3 hk
   subst hk
   rcases (by omega : i = 0 ∨ i = 1 ∨ i = 2) with rfl | rfl | rfl
   all_goals (repeat' (first | (simp -implicitDefEqProofs [Li, NJ, Nd, Nl, MB, Kh, c95, -getElem?_pos, hx', hvl, hil', AL]) | (simp (disch := omega) only [AB]) | (with_reducible first | refine A5 ?_ ?_ ?_ | exact A7 | refine SameB.upd ?_ ?_ _ | assumption | refine A0 ?_ | refine KM.of ?_ | refine AA ?_ | refine A1 ?_ | refine A3 ?_ | intro _g _hg | refine A9 ?_ ?_ | intro _hc) | omega))
   all_goals (first | (exact hJ (r - 1) _ (by omega) ⟨1, by omega, rfl, by rw [hE]; simp only [GS]; grind⟩) | (exact hJ (r - 1) _ (by omega) ⟨2, by omega, rfl, by rw [hE]; simp only [GS]; grind⟩) | (exact hJ (r - 1) _ (by omega) ⟨3, by omega, rfl, by rw [hE]; simp only [GS]; grind⟩) | (rw [hE]; simp only [GS]; grind) | skip)
  ·repeat' (first | (simp -implicitDefEqProofs [Li, NJ, Nd, Nl, MB, Kh, c95, -getElem?_pos, hx', hvl, hil', hk, AL]) | (simp (disch := omega) only [AB]) | (with_reducible first | refine A5 ?_ ?_ ?_ | exact A7 | refine SameB.upd ?_ ?_ _ | assumption | refine A0 ?_ | refine KM.of ?_ | refine AA ?_ | refine A1 ?_ | refine A3 ?_ | intro _g _hg | refine A9 ?_ ?_ | intro _hc) | omega)
   all_goals (first | (exact hJ (r - 1) _ (by omega) ⟨i + 1, by omega, rfl, by rw [hE]; simp only [GS]; grind⟩) | (rw [hE]; simp only [GS]; grind) | skip)
 ·have hil' : ¬ (i : Int) < v.length := by omega
  rw [SF (by omega)] at hE
  rw [hE]
  repeat' (first | (simp -implicitDefEqProofs [Li, NJ, Nd, Nl, MB, Kh, c95, -getElem?_pos, hil', AL]) | (simp (disch := omega) only [AB]) | (with_reducible first | refine A5 ?_ ?_ ?_ | exact A7 | refine SameB.upd ?_ ?_ _ | assumption | refine A0 ?_ | refine KM.of ?_ | refine AA ?_ | refine A1 ?_ | refine A3 ?_ | intro _g _hg | refine A9 ?_ ?_ | intro _hc) | omega)
set_option maxRecDepth 8000 in
theorem FW (n : Nat) (H : A2) : ACalls Tryz.prog 39 [] n H fun r n' H' => ∃ g, r = .mp g ∧ n ≤ g ∧ n' = g + 1 ∧ H' = upd H g (some (.map (some .i64) shpMap)) := by
 refine A8 Tryz.func39 A46 rfl fun hs => ?_
 repeat' (first | (simp -implicitDefEqProofs [c39, -getElem?_pos]) | (simp (disch := omega) only [AB]) | (with_reducible first | refine A5 ?_ ?_ ?_ | exact A7 | assumption | refine A0 ?_ | refine KM.of ?_ | refine AA ?_ | refine Yy ?_ | intro _g _hg | refine A9 ?_ ?_ | intro _hc) | omega)
 simp only [Jx]
 exact AH (r := .mp _) rfl (by omega) (fun k hk => by rw [upd_ne (by omega)]; exact hs k (by omega)) ⟨_, rfl, by omega, rfl, rfl⟩
set_option maxRecDepth 8000 in
theorem A05 (k o m : Int) (v : List Int) (p : List St) (hvb : v.length ≤ 140737488355328) (hk : k = 1 ∨ k = 2 ∨ k = 3 ∨ k = 4 ∨ k = 5 ∨ k = 6 ∨ k = 7 ∨ k = 8) (g gs n : Nat) (at_ : Int) (H : A2) (hg : H g = some (.cells 70 [.mp gs, aI at_])) (hgs : H gs = some (.map (some .i64) shpMap)) : APureAt Tryz.prog 69 [.ptr g 0, encS (.mk k o m v p)] n H (aI (C0 (.mk k o m v p))) := by
 obtain ⟨z, hz⟩ : ∃ z, C0 (.mk k o m v p) = z := ⟨_, rfl⟩
 rw [hz]
 obtain ⟨x, hx, hfd⟩ : ∃ x, shqs[(k - 1).toNat]? = some x ∧ Bb (.int .i64 k) shpMap = some (Ri x) := by
  rcases hk with rfl | rfl | rfl | rfl | rfl | rfl | rfl | rfl <;> exact ⟨_, rfl, rfl⟩
 have ho := PI k o m v p x
 have hn := OW k o m v p x
 have hpl := BJ p
 have hva : v.length = 3 ∨ k ≠ 2 → APure Tryz.prog 95 [encS (.mk k o m v p)] (.bool (BH k 0 v)) := fun h => Rx k o m v p hvb (fun e => by omega)
 rw [AP] at ho hn hva ⊢
 rcases hk with rfl | rfl | rfl | rfl | rfl | rfl | rfl | rfl
 all_goals
  simp [C0, DA, Gb, Jc, Pu, Cz, Iv, OF, OR, OM] at hz
  refine Bp Tryz.func69 XO rfl fun hH => ?_
  have hgn : g < n := by
   rcases Nat.lt_or_ge g n with h | h
   ·exact h
   ·rw [hH g h] at hg; cases hg
  have hsn : gs < n := by
   rcases Nat.lt_or_ge gs n with h | h
   ·exact h
   ·rw [hH gs h] at hgs; cases hgs
  generalize shpMap = sm at *
  simp [shqs] at hx
  subst hx
  simp only [Ri] at ho hn hfd
  
  repeat' (first | (simp -implicitDefEqProofs [NE, ND, NH, Ln, c69, -getElem?_pos, hg, hgs, hfd, hpl, splice]) | (simp (disch := omega) only [AB]) | ((with_reducible refine AN 93 ?_); refine' AQ (ho) ?_) | ((with_reducible refine AN 94 ?_); refine' AQ (hn) ?_) | ((with_reducible refine AN 95 ?_); refine' AQ ((hva (by omega))) ?_) | (with_reducible first | refine A5 ?_ ?_ ?_ | exact A7 | refine SameB.upd ?_ ?_ _ | assumption | refine A0 ?_ | refine KM.of ?_ | refine AA ?_ | refine A1 ?_ | refine A3 ?_ | intro _g _hg | refine A9 ?_ ?_ | intro _hc) | omega)
  all_goals (refine BG ?_; first | grind | (rw [← hz]; clear hz; (repeat' split) <;> first | rfl | (exfalso; simp_all; done) | (exfalso; simp_all; omega) | (exfalso; grind)))
set_option maxRecDepth 8000 in
theorem Z7 (k o m : Int) (v : List Int) (p : List St) (hvb : v.length ≤ 140737488355328) (hk : k = 9 ∨ k = 10 ∨ k = 11 ∨ k = 12 ∨ k = 13 ∨ k = 14 ∨ k = 15 ∨ k = 16) (g gs n : Nat) (at_ : Int) (H : A2) (hg : H g = some (.cells 70 [.mp gs, aI at_])) (hgs : H gs = some (.map (some .i64) shpMap)) : APureAt Tryz.prog 69 [.ptr g 0, encS (.mk k o m v p)] n H (aI (C0 (.mk k o m v p))) := by
 obtain ⟨z, hz⟩ : ∃ z, C0 (.mk k o m v p) = z := ⟨_, rfl⟩
 rw [hz]
 obtain ⟨x, hx, hfd⟩ : ∃ x, shqs[(k - 1).toNat]? = some x ∧ Bb (.int .i64 k) shpMap = some (Ri x) := by
  rcases hk with rfl | rfl | rfl | rfl | rfl | rfl | rfl | rfl <;> exact ⟨_, rfl, rfl⟩
 have ho := PI k o m v p x
 have hn := OW k o m v p x
 have hpl := BJ p
 have hva : v.length = 3 ∨ k ≠ 2 → APure Tryz.prog 95 [encS (.mk k o m v p)] (.bool (BH k 0 v)) := fun h => Rx k o m v p hvb (fun e => by omega)
 rw [AP] at ho hn hva ⊢
 rcases hk with rfl | rfl | rfl | rfl | rfl | rfl | rfl | rfl
 all_goals
  simp [C0, DA, Gb, Jc, Pu, Cz, Iv, OF, OR, OM] at hz
  refine Bp Tryz.func69 XO rfl fun hH => ?_
  have hgn : g < n := by
   rcases Nat.lt_or_ge g n with h | h
   ·exact h
   ·rw [hH g h] at hg; cases hg
  have hsn : gs < n := by
   rcases Nat.lt_or_ge gs n with h | h
   ·exact h
   ·rw [hH gs h] at hgs; cases hgs
  generalize shpMap = sm at *
  simp [shqs] at hx
  subst hx
  simp only [Ri] at ho hn hfd
  
  repeat' (first | (simp -implicitDefEqProofs [NE, ND, NH, Ln, c69, -getElem?_pos, hg, hgs, hfd, hpl, splice]) | (simp (disch := omega) only [AB]) | ((with_reducible refine AN 93 ?_); refine' AQ (ho) ?_) | ((with_reducible refine AN 94 ?_); refine' AQ (hn) ?_) | ((with_reducible refine AN 95 ?_); refine' AQ ((hva (by omega))) ?_) | (with_reducible first | refine A5 ?_ ?_ ?_ | exact A7 | refine SameB.upd ?_ ?_ _ | assumption | refine A0 ?_ | refine KM.of ?_ | refine AA ?_ | refine A1 ?_ | refine A3 ?_ | intro _g _hg | refine A9 ?_ ?_ | intro _hc) | omega)
  all_goals (refine BG ?_; first | grind | (rw [← hz]; clear hz; (repeat' split) <;> first | rfl | (exfalso; simp_all; done) | (exfalso; simp_all; omega) | (exfalso; grind)))
end Go.Proofs.YtjdccdelcnmocaaGreatDoor
