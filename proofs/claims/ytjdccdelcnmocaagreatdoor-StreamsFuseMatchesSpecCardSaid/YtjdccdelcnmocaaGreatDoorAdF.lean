/- The code of some functions on plain data, by program, and that it is what the program's text gives; no condition. -/
import Derived.Test.YtjdccdelcnmocaaGreatDoorAdE
import Derived.Test.YtjdccdelcnmocaaGreatDoorProg
import Derived.KernelRfl
set_option linter.all false
set_option linter.unusedSimpArgs false
set_option linter.unusedVariables false
namespace Go.Proofs.YtjdccdelcnmocaaGreatDoor
theorem Vp {P : Program} {c d : ACode} (h : c = d) {Q : AExit → AS → Prop} {e : Ai} {n : Nat} {H : A6} : aw P c Q ⟨e, n, H⟩ = aw P d Q ⟨e, n, H⟩ := by rw [h]
def c132_k1 : ACode := .kp [0, 1] (.seq (.reg [zL 6 0,zE 7 .sub 6 1,zU 0 7]) (.kp [1] (.seq (.reg [zL 8 1,⟨some 9, .callv (.t 8) [], none⟩,zX 10 9 0,zX 11 9 1,zM 2 10,zM 3 11]) (.ret))))
def QI {Q e n H} := @Vp Tryz.prog _ _ c132_k1.eq_1 Q e n H
def c132 : AFun := { nargs := 2, nt := 12, res := [.tmp 2, .tmp 3], code := .seq (.reg [zI 2 0,zB 3 false]) (.kp [0, 1] (.seq (.seq (.reg [zL 4 0,zE 5 .eql 4 0]) (.kp [0, 1, 5] (.cond (.t 5) (.seq (.reg [zI 2 0,zB 3 false]) (.ret)) (.skip)))) (c132_k1))) }
theorem Wg : (Bw Tryz.prog F2 Tryz.f132).map (fun x => (x.nargs, x.nt, x.res, x.code)) = some (c132.nargs, c132.nt, c132.res, bare c132.code) := by kernel_rfl
def c92_k1 : ACode := .kp [0] (.seq (.reg [⟨some 5, .bsl 3 none [], none⟩,zM 6 0,⟨some 7, .app 3 1 8 (.t 5) (.t 6), none⟩,zM 2 7]) (.ret))
def Kz {Q e n H} := @Vp Tryz.prog _ _ c92_k1.eq_1 Q e n H
def c92 : AFun := { nargs := 1, nt := 8, res := [.tmp 2], code := .seq (.reg [⟨some 2, .mv (.c (.sl 0 [] .nil)), none⟩]) (.kp [0] (.seq (.seq (.reg [zM 3 0,⟨some 4, .eqn false (.t 3), none⟩]) (.kp [0, 4] (.cond (.t 4) (.seq (.reg [⟨some 2, .mv (.c (.sl 0 [] .nil)), none⟩]) (.ret)) (.skip)))) (c92_k1))) }
theorem XB : (Bw Tryz.prog F2 Tryz.f92).map (fun x => (x.nargs, x.nt, x.res, x.code)) = some (c92.nargs, c92.nt, c92.res, bare c92.code) := by kernel_rfl
theorem Ap {P : Program} {c d : ACode} (h : c = d) {Q : AExit → AS → Prop} {e : Ai} {n : Nat} {H : A6} : aw P c Q ⟨e, n, H⟩ = aw P d Q ⟨e, n, H⟩ := by rw [h]
def c35_k1 : ACode := .kp [2, 3] (.seq (.reg [zG 39 5 3,zS 5 2 39]) (.ret))
def SL {Q e n H} := @Ap Tryz.prog _ _ c35_k1.eq_1 Q e n H
def c35_k2 : ACode := .kp [2, 3] (.block 3 (.reg [zG 35 5 3,zV 36 67 35,zM 34 36,zX 37 34 0,zX 38 34 1,zS 5 3 37,zM 5 38]))
def Se {Q e n H} := @Ap Tryz.prog _ _ c35_k2.eq_1 Q e n H
def c35_L3 : ACode := .ke [2, 3, 5] (.seq (.seq (.reg [zM 33 5]) (.kp [2, 3, 33] (.cond (.t 33) (.skip) (.exit 2)))) (c35_k2))
def Kt {Q e n H} := @Ap Tryz.prog _ _ c35_L3.eq_1 Q e n H
def c35_k4 : ACode := .kp [2, 3] (.seq (.seq (.reg [zB 5 true]) (.kp [2, 3, 5] (.block 2 (.kp [2, 3, 5] (.loop c35_L3))))) (c35_k1))
def S9 {Q e n H} := @Ap Tryz.prog _ _ c35_k4.eq_1 Q e n H
def c35_k5 : ACode := .kp [1, 2, 3, 4] (.reg [zM 20 4,zE 21 .add 20 1,zM 4 21])
def Sn {Q e n H} := @Ap Tryz.prog _ _ c35_k5.eq_1 Q e n H
def c35_k6 : ACode := .kp [1, 2, 3, 4] (.seq (.block 1 (.regD .plain [] [zF 22 3 4,zL 23 22,zF 24 1 4,zL 25 24,zM 26 4,⟨some 27, .iaddr 5 (some 5) (.t 25) (.t 26), none⟩,zG 28 5 27,zV 29 35 28,⟨some 30, .bsl 25 (some 5) [(.t 29)], none⟩,⟨some 31, .app 25 5 72 (.t 23) (.t 30), none⟩,zF 32 3 4,zU 32 31])) (c35_k5))
def Su {Q e n H} := @Ap Tryz.prog _ _ c35_k6.eq_1 Q e n H
def c35_L7 : ACode := .ke [1, 2, 3, 4] (.seq (.seq (.reg [zM 15 4,zF 16 1 4,zL 17 16,zY 18 17,zD 19 .lss 15 18]) (.kp [1, 2, 3, 4, 19] (.cond (.t 19) (.skip) (.exit 0)))) (c35_k6))
def Kw {Q e n H} := @Ap Tryz.prog _ _ c35_L7.eq_1 Q e n H
def c35 : AFun := { nargs := 1, nt := 40, res := [.cell 2 (some 5)], code := .seq (.reg [zH 1 25 5 0,⟨some 2, .alloc 25 [(.int .i64 0), (.int .i64 0), (.int .i64 0), (.sl 0 [] .nil), (.sl 0 [] .nil)], none⟩]) (.kp [1, 2] (.seq (.reg [zF 6 1 0,zL 7 6,zF 8 1 1,zL 9 8,zF 10 1 2,zL 11 10,zF 12 1 3,zL 13 12,⟨some 14, .build [(.int .i64 0), (.int .i64 0), (.int .i64 0), (.sl 0 [] .nil), (.sl 0 [] .nil)] [(0, none, (.t 7)), (1, none, (.t 9)), (2, none, (.t 11)), (3, none, (.t 13))], none⟩,⟨some 3, .alloc 25 [(.int .i64 0), (.int .i64 0), (.int .i64 0), (.sl 0 [] .nil), (.sl 0 [] .nil)], none⟩,zS 5 3 14]) (.kp [1, 2, 3] (.seq (.seq (.reg [zI 4 0]) (.kp [1, 2, 3, 4] (.block 0 (.kp [1, 2, 3, 4] (.loop c35_L7))))) (c35_k4))))) }
theorem XK : (Bw Tryz.prog F2 Tryz.f35).map (fun x => (x.nargs, x.nt, x.res, x.code)) = some (c35.nargs, c35.nt, c35.res, bare c35.code) := by kernel_rfl
def c67_k1 : ACode := .kp [1, 2] (.seq (.reg [zG 222 5 1,zS 5 2 222,zB 3 false]) (.ret))
def Ab {Q e n H} := @Ap Tryz.prog _ _ c67_k1.eq_1 Q e n H
def c67_k2 : ACode := .kp [1, 2, 8] (.seq (.regD .late [2] [zG 214 5 8,zF 215 8 4,zL 216 215,zY 217 216,zF 218 1 4,zL 219 218,zY 220 219,zD 221 .neq 217 220,zS 5 2 214,zM 3 221]) (.ret))
def AY {Q e n H} := @Ap Tryz.prog _ _ c67_k2.eq_1 Q e n H
def c67_k3 : ACode := .kp [1, 2, 4, 8, 9] (.reg [zM 184 9,zE 185 .add 184 1,zM 9 185])
def AU {Q e n H} := @Ap Tryz.prog _ _ c67_k3.eq_1 Q e n H
def c67_k4 : ACode := .kp [1, 2, 4, 8, 9] (.seq (.block 1 (.seq (.reg [zF 186 1 4,zL 187 186,zM 188 9,⟨some 189, .iaddr 5 (some 5) (.t 187) (.t 188), none⟩,zF 190 189 0,zL 191 190,zM 192 4,zD 193 .eql 191 192]) (.kp [1, 2, 4, 8, 9, 193] (.cond (.t 193) (.reg [zF 194 8 4,zL 195 194,zF 196 1 4,zL 197 196,zM 198 9,⟨some 199, .iaddr 5 (some 5) (.t 197) (.t 198), none⟩,zF 200 199 4,zL 201 200,⟨some 202, .app 25 5 72 (.t 195) (.t 201), none⟩,zF 203 8 4,zU 203 202]) (.regD .plain [] [zF 204 8 4,zL 205 204,zF 206 1 4,zL 207 206,zM 208 9,⟨some 209, .iaddr 5 (some 5) (.t 207) (.t 208), none⟩,zG 210 5 209,⟨some 211, .bsl 25 (some 5) [(.t 210)], none⟩,⟨some 212, .app 25 5 72 (.t 205) (.t 211), none⟩,zF 213 8 4,zU 213 212]))))) (c67_k3))
def AW {Q e n H} := @Ap Tryz.prog _ _ c67_k4.eq_1 Q e n H
def c67_L5 : ACode := .ke [1, 2, 4, 8, 9] (.seq (.seq (.reg [zM 179 9,zF 180 1 4,zL 181 180,zY 182 181,zD 183 .lss 179 182]) (.kp [1, 2, 4, 8, 9, 183] (.cond (.t 183) (.skip) (.exit 0)))) (c67_k4))
def AT {Q e n H} := @Ap Tryz.prog _ _ c67_L5.eq_1 Q e n H
def c67_t6 : ACode := .kp [1, 2, 4] (.seq (.reg [zM 177 4,⟨some 178, .build [(.int .i64 0), (.int .i64 0), (.int .i64 0), (.sl 0 [] .nil), (.sl 0 [] .nil)] [(0, none, (.t 177))], none⟩,⟨some 8, .alloc 25 [(.int .i64 0), (.int .i64 0), (.int .i64 0), (.sl 0 [] .nil), (.sl 0 [] .nil)], none⟩,zS 5 8 178]) (.kp [1, 2, 4, 8] (.seq (.seq (.reg [zI 9 0]) (.kp [1, 2, 4, 8, 9] (.block 0 (.kp [1, 2, 4, 8, 9] (.loop c67_L5))))) (c67_k2))))
def AX {Q e n H} := @Ap Tryz.prog _ _ c67_t6.eq_1 Q e n H
def c67_k7 : ACode := .kp [1, 2, 4] (.seq (.seq (.reg [zM 175 4,zE 176 .eql 175 13]) (.kp [1, 2, 4, 176] (.cond (.t 176) (c67_t6) (.skip)))) (c67_k1))
def AZ {Q e n H} := @Ap Tryz.prog _ _ c67_k7.eq_1 Q e n H
def c67_k8 : ACode := .kp [1, 2, 4, 6, 7] (.seq (.reg [zM 166 7,zE 167 .geq 166 0]) (.kp [1, 2, 4, 6, 7, 167] (.cond (.t 167) (.seq (.reg [zM 168 4,zF 169 1 1,zL 170 169,zM 171 7,zF 172 6 4,zL 173 172,⟨some 174, .build [(.int .i64 0), (.int .i64 0), (.int .i64 0), (.sl 0 [] .nil), (.sl 0 [] .nil)] [(0, none, (.t 168)), (1, none, (.t 170)), (2, none, (.t 171)), (4, none, (.t 173))], none⟩,zS 5 2 174,zB 3 true]) (.ret)) (.skip))))
def Aa {Q e n H} := @Ap Tryz.prog _ _ c67_k8.eq_1 Q e n H
def c67_t9 : ACode := .kp [1, 2, 4, 6] (.seq (.reg [zF 157 1 2,zL 158 157,zF 159 6 2,zL 160 159,zD 161 .add 158 160,zM 7 161]) (.kp [1, 2, 4, 6, 7] (.seq (.reg [zM 162 7,zE 163 .gtr 162 5000]) (.kp [1, 2, 4, 6, 7, 163] (.cond (.t 163) (.reg [zI 7 5000]) (.skip))))))
def Ac {Q e n H} := @Ap Tryz.prog _ _ c67_t9.eq_1 Q e n H
def c67_e10 : ACode := .kp [1, 2, 4, 6, 7] (.seq (.reg [zM 164 4,zE 165 .eql 164 11]) (.kp [1, 2, 4, 6, 7, 165] (.cond (.t 165) (.reg [zI 7 0]) (.skip))))
def AO {Q e n H} := @Ap Tryz.prog _ _ c67_e10.eq_1 Q e n H
def c67_t11 : ACode := .kp [1, 2, 4, 6] (.seq (.reg [zF 139 1 2,zL 140 139,zM 7 140]) (.kp [1, 2, 4, 6, 7] (.seq (.segs [⟨none, [zF 141 6 2,zL 142 141,zM 143 7,zD 144 .lss 142 143,zM 145 4,zE 146 .eql 145 5,zM 147 146], none⟩,⟨some (147, false), [zF 148 1 1,zL 149 148,zE 150 .eql 149 1], some (151, 150)⟩,⟨none, [⟨some 152, .eqb false (.t 144) (.t 151), none⟩], none⟩]) (.kp [1, 2, 4, 6, 7, 152] (.cond (.t 152) (.reg [zF 153 6 2,zL 154 153,zM 7 154]) (.skip))))))
def AP {Q e n H} := @Ap Tryz.prog _ _ c67_t11.eq_1 Q e n H
def c67_e12 : ACode := .kp [1, 2, 4, 6, 7] (.seq (.reg [zM 155 4,zE 156 .eql 155 6]) (.kp [1, 2, 4, 6, 7, 156] (.cond (.t 156) (c67_t9) (c67_e10))))
def AR {Q e n H} := @Ap Tryz.prog _ _ c67_e12.eq_1 Q e n H
def c67_e13 : ACode := .kp [1, 2, 4, 6, 7] (.seq (.segs [⟨none, [zM 128 4,zE 129 .eql 128 4,zM 130 129], none⟩,⟨some (130, true), [zF 131 1 1,zL 132 131,zE 133 .neq 132 3], some (134, 133)⟩,⟨none, [zM 135 134], none⟩,⟨some (135, false), [zM 136 4,zE 137 .eql 136 5], some (138, 137)⟩]) (.kp [1, 2, 4, 6, 7, 138] (.cond (.t 138) (c67_t11) (c67_e12))))
def AQ {Q e n H} := @Ap Tryz.prog _ _ c67_e13.eq_1 Q e n H
def c67_t14 : ACode := .kp [1, 2, 4] (.seq (.reg [zF 105 1 4,zL 106 105,⟨some 107, .iaddr 5 (some 5) (.t 106) (.c (.int .i64 0)), none⟩,zG 108 5 107,⟨some 6, .alloc 25 [(.int .i64 0), (.int .i64 0), (.int .i64 0), (.sl 0 [] .nil), (.sl 0 [] .nil)], none⟩,zS 5 6 108]) (.kp [1, 2, 4, 6] (.seq (.reg [zI 7 (-1)]) (.kp [1, 2, 4, 6, 7] (.seq (.seq (.segs [⟨none, [zM 109 4,zE 110 .eql 109 3,zM 111 110], none⟩,⟨some (111, true), [zF 112 1 1,zL 113 112,zE 114 .neq 113 2], some (115, 114)⟩,⟨none, [zM 116 115], none⟩,⟨some (116, true), [zF 117 1 1,zL 118 117,zE 119 .neq 118 6], some (120, 119)⟩]) (.kp [1, 2, 4, 6, 7, 120] (.cond (.t 120) (.reg [zF 121 1 1,zL 122 121,zF 123 1 2,zL 124 123,zF 125 6 2,zL 126 125,⟨some 127, .callp 80 [(.t 122), (.t 124), (.t 126)], none⟩,zM 7 127]) (c67_e13)))) (c67_k8))))))
def AN {Q e n H} := @Ap Tryz.prog _ _ c67_t14.eq_1 Q e n H
def c67_k15 : ACode := .kp [1, 2, 4, 5] (.seq (.seq (.segs [⟨none, [zM 85 5,zM 86 85], none⟩,⟨some (86, true), [zF 87 1 4,zL 88 87,⟨some 89, .iaddr 5 (some 5) (.t 88) (.c (.int .i64 0)), none⟩,zF 90 89 0,zL 91 90,zM 92 4,zD 93 .eql 91 92], some (94, 93)⟩,⟨none, [zM 95 94], none⟩,⟨some (95, true), [zF 96 1 4,zL 97 96,⟨some 98, .iaddr 5 (some 5) (.t 97) (.c (.int .i64 0)), none⟩,zF 99 98 1,zL 100 99,zF 101 1 1,zL 102 101,zD 103 .eql 100 102], some (104, 103)⟩]) (.kp [1, 2, 4, 104] (.cond (.t 104) (c67_t14) (.skip)))) (c67_k7))
def AL {Q e n H} := @Ap Tryz.prog _ _ c67_k15.eq_1 Q e n H
def c67 : AFun := { nargs := 1, nt := 223, res := [.cell 2 (some 5), .tmp 3], code := .seq (.reg [zH 1 25 5 0,⟨some 2, .alloc 25 [(.int .i64 0), (.int .i64 0), (.int .i64 0), (.sl 0 [] .nil), (.sl 0 [] .nil)], none⟩,zB 3 false]) (.kp [1, 2] (.seq (.reg [zF 10 1 0,zL 11 10,zM 4 11]) (.kp [1, 2, 4] (.seq (.reg [zF 12 1 4,zL 13 12,zY 14 13,zE 15 .eql 14 1,zM 5 15]) (.kp [1, 2, 4, 5] (.seq (.seq (.segs [⟨none, [zM 16 4,zE 17 .eql 16 3,zM 18 17], none⟩,⟨some (18, true), [zF 19 1 1,zL 20 19,zE 21 .eql 20 1,zM 22 21], none⟩,⟨some (22, true), [zF 23 1 2,zL 24 23,zE 25 .eql 24 0], none⟩,⟨some (18, true), [zP 26 22 25,zM 27 26], none⟩,⟨some (27, false), [zF 28 1 1,zL 29 28,zE 30 .eql 29 3,zM 31 30], none⟩,⟨some (31, true), [zF 32 1 2,zL 33 32,zE 34 .eql 33 1], none⟩,⟨some (27, false), [zP 35 31 34], none⟩,⟨some (18, true), [zO 36 27 35], some (37, 36)⟩,⟨none, [zM 38 37], none⟩,⟨some (38, false), [zM 39 4,zE 40 .eql 39 6,zM 41 40], none⟩,⟨some (41, true), [zF 42 1 2,zL 43 42,zE 44 .eql 43 0], none⟩,⟨some (38, false), [zP 45 41 44], some (46, 45)⟩,⟨none, [zM 47 46], none⟩,⟨some (47, false), [zM 48 4,zE 49 .eql 48 12,zM 50 49], none⟩,⟨some (50, true), [zF 51 1 2,zL 52 51,zE 53 .eql 52 1], none⟩,⟨some (47, false), [zP 54 50 53], some (55, 54)⟩,⟨none, [zM 56 55], none⟩,⟨some (56, false), [zM 57 4,zE 58 .eql 57 13,zM 59 58], none⟩,⟨some (59, false), [zM 60 4,zE 61 .eql 60 14], none⟩,⟨some (56, false), [zO 62 59 61,zM 63 62], none⟩,⟨some (63, true), [zM 64 5], none⟩,⟨some (56, false), [zP 65 63 64], some (66, 65)⟩,⟨none, [zM 67 66], none⟩,⟨some (67, false), [zM 68 4,zE 69 .eql 68 5,zM 70 69], none⟩,⟨some (70, true), [zF 71 1 2,zL 72 71,zF 73 1 4,zL 74 73,⟨some 75, .iaddr 5 (some 5) (.t 74) (.c (.int .i64 0)), none⟩,zG 76 5 75,zV 77 17 76,zD 78 .gtr 72 77], none⟩,⟨some (67, false), [zP 79 70 78], some (80, 79)⟩]) (.kp [1, 2, 4, 5, 80] (.cond (.t 80) (.seq (.reg [zF 81 1 4,zL 82 81,⟨some 83, .iaddr 5 (some 5) (.t 82) (.c (.int .i64 0)), none⟩,zG 84 5 83,zS 5 2 84,zB 3 true]) (.ret)) (.skip)))) (c67_k15))))))) }
theorem Ar : (Bw Tryz.prog F2 Tryz.f67).map (fun x => (x.nargs, x.nt, x.res, x.code)) = some (c67.nargs, c67.nt, c67.res, bare c67.code) := by kernel_rfl
def c66_k1 : ACode := .kp [1, 2, 3] (.seq (.reg [zM 23 3,zF 24 1 4,zU 24 23]) (.kp [1, 2] (.seq (.reg [zG 25 5 1,zS 5 2 25]) (.ret))))
def Kc {Q e n H} := @Ap Tryz.prog _ _ c66_k1.eq_1 Q e n H
def c66_k2 : ACode := .kp [1, 2, 3, 11, 12, 13] (.reg [zE 22 .add 13 1,zM 13 22])
def KL {Q e n H} := @Ap Tryz.prog _ _ c66_k2.eq_1 Q e n H
def c66_k3 : ACode := .kp [1, 2, 3, 11, 12, 13] (.seq (.block 1 (.seq (.reg [⟨some 15, .iaddr 5 (some 5) (.t 11) (.t 13), none⟩,zG 16 5 15,⟨some 5, .alloc 25 [(.int .i64 0), (.int .i64 0), (.int .i64 0), (.sl 0 [] .nil), (.sl 0 [] .nil)], none⟩,zS 5 5 16]) (.kp [1, 2, 3, 5, 11, 12, 13] (.reg [zM 17 3,zG 18 5 5,⟨some 19, .call 66 [(.t 18)], none⟩,⟨some 20, .bsl 25 (some 5) [(.t 19)], none⟩,⟨some 21, .app 25 5 72 (.t 17) (.t 20), none⟩,zM 3 21])))) (c66_k2))
def SO {Q e n H} := @Ap Tryz.prog _ _ c66_k3.eq_1 Q e n H
def c66_L4 : ACode := .ke [1, 2, 3, 11, 12, 13] (.seq (.reg [zD 14 .lss 13 12]) (.kp [1, 2, 3, 11, 12, 13, 14] (.seq (.cond (.t 14) (.skip) (.exit 0)) (c66_k3))))
def Hy {Q e n H} := @Ap Tryz.prog _ _ c66_L4.eq_1 Q e n H
def c66 : AFun := { nargs := 1, nt := 26, res := [.cell 2 (some 5)], code := .seq (.reg [zH 1 25 5 0,⟨some 2, .alloc 25 [(.int .i64 0), (.int .i64 0), (.int .i64 0), (.sl 0 [] .nil), (.sl 0 [] .nil)], none⟩]) (.kp [1, 2] (.seq (.reg [zF 6 1 3,zL 7 6,⟨some 8, .call 92 [(.t 7)], none⟩,zF 9 1 3,zU 9 8]) (.kp [1, 2] (.seq (.reg [⟨some 3, .mv (.c (.sl 0 [] .nil)), none⟩]) (.kp [1, 2, 3] (.seq (.seq (.reg [zF 10 1 4,zL 11 10,zY 12 11,zI 13 0]) (.kp [1, 2, 3, 11, 12, 13] (.block 0 (.kp [1, 2, 3, 11, 12, 13] (.loop c66_L4))))) (c66_k1))))))) }
theorem Wv : (Bw Tryz.prog F2 Tryz.f66).map (fun x => (x.nargs, x.nt, x.res, x.code)) = some (c66.nargs, c66.nt, c66.res, bare c66.code) := by kernel_rfl
def c65_k1 : ACode := .gh (.kp [1, 2] (.seq (.reg [zG 41 5 1,zS 5 2 41]) (.ret)))
def Sz {Q e n H} := @Ap Tryz.prog _ _ c65_k1.eq_1 Q e n H
def c65_k2 : ACode := .kp [1, 2, 5, 26, 27, 28] (.reg [zE 40 .add 28 1,zM 28 40])
def IR {Q e n H} := @Ap Tryz.prog _ _ c65_k2.eq_1 Q e n H
def c65_k3 : ACode := .kp [1, 2, 5, 26, 27, 28] (.seq (.block 5 (.seq (.reg [zJ 30 1 26 28,zL 31 30,zM 7 31]) (.kp [1, 2, 5, 7, 26, 27, 28] (.seq (.reg [zM 33 7,zG 34 5 1,⟨some 35, .callv (.t 33) [(.t 34)], none⟩,zM 32 35,zX 36 32 0,zX 37 32 1,⟨some 8, .alloc 25 [(.int .i64 0), (.int .i64 0), (.int .i64 0), (.sl 0 [] .nil), (.sl 0 [] .nil)], none⟩,zS 5 8 36,zM 9 37]) (.kp [1, 2, 5, 8, 9, 26, 27, 28] (.seq (.reg [zM 38 9]) (.kp [1, 2, 5, 8, 26, 27, 28, 38] (.cond (.t 38) (.seq (.reg [zG 39 5 8,zS 5 1 39,zB 5 true]) (.exit 4)) (.skip))))))))) (c65_k2))
def Dy {Q e n H} := @Ap Tryz.prog _ _ c65_k3.eq_1 Q e n H
def c65_L4 : ACode := .ke [1, 2, 5, 26, 27, 28] (.seq (.reg [zD 29 .lss 28 27]) (.kp [1, 2, 5, 26, 27, 28, 29] (.seq (.cond (.t 29) (.skip) (.exit 4)) (c65_k3))))
def DS {Q e n H} := @Ap Tryz.prog _ _ c65_L4.eq_1 Q e n H
def c65_k5 : ACode := .kp [1, 2] (.block 3 (.seq (.reg [zB 5 false]) (.kp [1, 2, 5] (.seq (.reg [⟨some 26, .bsl 98 none [(.c (.fn 89 [] [])), (.c (.fn 90 [] [])), (.c (.fn 91 [] []))], none⟩,zY 27 26,zI 28 0]) (.kp [1, 2, 5, 26, 27, 28] (.block 4 (.kp [1, 2, 5, 26, 27, 28] (.loop c65_L4))))))))
def KU {Q e n H} := @Ap Tryz.prog _ _ c65_k5.eq_1 Q e n H
def c65_L6 : ACode := .ke [1, 2, 5] (.seq (.seq (.reg [zM 25 5]) (.kp [1, 2, 25] (.cond (.t 25) (.skip) (.exit 2)))) (c65_k5))
def IA {Q e n H} := @Ap Tryz.prog _ _ c65_L6.eq_1 Q e n H
def OP : ACode := .gh (.kp [1, 2] (.seq (.seq (.reg [zB 5 true]) (.kp [1, 2, 5] (.block 2 (.kp [1, 2, 5] (.loop c65_L6))))) (c65_k1)))
def c65_k8 : ACode := .kp [1, 2, 11, 12, 13] (.reg [zE 24 .add 13 1,zM 13 24])
def SY {Q e n H} := @Ap Tryz.prog _ _ c65_k8.eq_1 Q e n H
def c65_k9 : ACode := .kp [1, 2, 11, 12, 13] (.seq (.block 1 (.seq (.reg [zM 15 13,⟨some 16, .iaddr 5 (some 5) (.t 11) (.t 13), none⟩,zG 17 5 16,⟨some 4, .alloc 25 [(.int .i64 0), (.int .i64 0), (.int .i64 0), (.sl 0 [] .nil), (.sl 0 [] .nil)], none⟩,zM 3 15,zS 5 4 17]) (.kp [1, 2, 3, 4, 11, 12, 13] (.regD .plain [] [zF 18 1 4,zL 19 18,zM 20 3,zG 21 5 4,⟨some 22, .call 65 [(.t 21)], none⟩,⟨some 23, .iaddr 5 (some 5) (.t 19) (.t 20), none⟩,zS 5 23 22])))) (c65_k8))
def Ss {Q e n H} := @Ap Tryz.prog _ _ c65_k9.eq_1 Q e n H
def c65_L10 : ACode := .ke [1, 2, 11, 12, 13] (.seq (.reg [zD 14 .lss 13 12]) (.kp [1, 2, 11, 12, 13, 14] (.seq (.cond (.t 14) (.skip) (.exit 0)) (c65_k9))))
def Gw {Q e n H} := @Ap Tryz.prog _ _ c65_L10.eq_1 Q e n H
def c65 : AFun := { nargs := 1, nt := 42, res := [.cell 2 (some 5)], code := .seq (.reg [zH 1 25 5 0,⟨some 2, .alloc 25 [(.int .i64 0), (.int .i64 0), (.int .i64 0), (.sl 0 [] .nil), (.sl 0 [] .nil)], none⟩]) (.kp [1, 2] (.seq (.seq (.reg [zF 10 1 4,zL 11 10,zY 12 11,zI 13 0]) (.kp [1, 2, 11, 12, 13] (.block 0 (.kp [1, 2, 11, 12, 13] (.loop c65_L10))))) (OP))) }
theorem Vt : (Bw Tryz.prog F2 Tryz.f65).map (fun x => (x.nargs, x.nt, x.res, x.code)) = some (c65.nargs, c65.nt, c65.res, bare c65.code) := by kernel_rfl
def c89_k1 : ACode := .kp [1, 2] (.seq (.reg [zF 57 1 4,zL 58 57,⟨some 59, .iaddr 5 (some 5) (.t 58) (.c (.int .i64 0)), none⟩,zG 60 5 59,zS 5 2 60,zB 3 true]) (.ret))
def Az {Q e n H} := @Ap Tryz.prog _ _ c89_k1.eq_1 Q e n H
def c89_k2 : ACode := .kp [1, 2, 4] (.seq (.seq (.reg [zM 54 4,zN 55 54]) (.kp [1, 2, 55] (.cond (.t 55) (.seq (.reg [zG 56 5 1,zS 5 2 56,zB 3 false]) (.ret)) (.skip)))) (c89_k1))
def B7 {Q e n H} := @Ap Tryz.prog _ _ c89_k2.eq_1 Q e n H
def c89_e3 : ACode := .kp [1, 2, 4, 6] (.seq (.reg [zE 45 .eql 6 5,zM 44 45]) (.kp [1, 2, 4, 44] (.cond (.t 44) (.reg [zF 46 1 2,zL 47 46,zF 48 1 4,zL 49 48,⟨some 50, .iaddr 5 (some 5) (.t 49) (.c (.int .i64 0)), none⟩,zG 51 5 50,zV 52 36 51,zD 53 .gtr 47 52,zM 4 53]) (.skip))))
def B4 {Q e n H} := @Ap Tryz.prog _ _ c89_e3.eq_1 Q e n H
def c89_k4 : ACode := .kp [1, 2, 4, 6, 37] (.cond (.t 37) (.reg [zF 40 1 4,zL 41 40,zY 42 41,zE 43 .eql 42 1,zM 4 43]) (c89_e3))
def B6 {Q e n H} := @Ap Tryz.prog _ _ c89_k4.eq_1 Q e n H
def c89_e5 : ACode := .kp [1, 2, 4, 6] (.seq (.seq (.reg [zE 38 .eql 6 13,zM 37 38]) (.kp [1, 2, 4, 6, 37] (.cond (.t 37) (.skip) (.reg [zE 39 .eql 6 14,zM 37 39])))) (c89_k4))
def B0 {Q e n H} := @Ap Tryz.prog _ _ c89_e5.eq_1 Q e n H
def c89_e6 : ACode := .kp [1, 2, 4, 6] (.seq (.reg [zE 33 .eql 6 12,zM 32 33]) (.kp [1, 2, 4, 6, 32] (.cond (.t 32) (.reg [zF 34 1 2,zL 35 34,zE 36 .eql 35 1,zM 4 36]) (c89_e5))))
def B3 {Q e n H} := @Ap Tryz.prog _ _ c89_e6.eq_1 Q e n H
def c89_e7 : ACode := .kp [1, 2, 4, 6] (.seq (.reg [zE 28 .eql 6 6,zM 27 28]) (.kp [1, 2, 4, 6, 27] (.cond (.t 27) (.reg [zF 29 1 2,zL 30 29,zE 31 .eql 30 0,zM 4 31]) (c89_e6))))
def B5 {Q e n H} := @Ap Tryz.prog _ _ c89_e7.eq_1 Q e n H
def c89 : AFun := { nargs := 1, nt := 61, res := [.cell 2 (some 5), .tmp 3], code := .seq (.reg [zH 1 25 5 0,⟨some 2, .alloc 25 [(.int .i64 0), (.int .i64 0), (.int .i64 0), (.sl 0 [] .nil), (.sl 0 [] .nil)], none⟩,zB 3 false]) (.kp [1, 2] (.seq (.reg [zB 4 false]) (.kp [1, 2, 4] (.seq (.seq (.reg [zF 5 1 0,zL 6 5]) (.kp [1, 2, 4, 6] (.block 0 (.seq (.reg [zE 8 .eql 6 3,zM 7 8]) (.kp [1, 2, 4, 6, 7] (.cond (.t 7) (.segs [⟨none, [zF 9 1 1,zL 10 9,zE 11 .eql 10 1,zM 12 11], none⟩,⟨some (12, true), [zF 13 1 2,zL 14 13,zE 15 .eql 14 0], some (16, 15)⟩,⟨none, [zM 17 16], none⟩,⟨some (17, false), [zF 18 1 1,zL 19 18,zE 20 .eql 19 3,zM 21 20], none⟩,⟨some (21, true), [zF 22 1 2,zL 23 22,zE 24 .eql 23 1], none⟩,⟨some (17, false), [zP 25 21 24], some (26, 25)⟩,⟨none, [zM 4 26], none⟩]) (c89_e7))))))) (c89_k2))))) }
theorem DR : (Bw Tryz.prog F2 Tryz.f89).map (fun x => (x.nargs, x.nt, x.res, x.code)) = some (c89.nargs, c89.nt, c89.res, bare c89.code) := by kernel_rfl
def c90_k1 : ACode := .kp [2, 4, 5] (.seq (.reg [zM 112 5,zF 113 4 2,zU 113 112]) (.kp [2, 4] (.seq (.reg [zG 114 5 4,zS 5 2 114,zB 3 true]) (.ret))))
def BF {Q e n H} := @Ap Tryz.prog _ _ c90_k1.eq_1 Q e n H
def c90_e2 : ACode := .kp [1, 2, 4, 5] (.seq (.reg [zF 109 1 0,zL 110 109,zE 111 .eql 110 11,zM 108 111]) (.kp [1, 2, 4, 5, 108] (.cond (.t 108) (.skip) (.seq (.reg [zG 35 5 1,zS 5 2 35,zB 3 false]) (.ret)))))
def BJ {Q e n H} := @Ap Tryz.prog _ _ c90_e2.eq_1 Q e n H
def c90_e3 : ACode := .kp [1, 2, 4, 5] (.seq (.reg [zF 99 1 0,zL 100 99,zE 101 .eql 100 6,zM 98 101]) (.kp [1, 2, 4, 5, 98] (.cond (.t 98) (.reg [zF 102 1 2,zL 103 102,zF 104 4 2,zL 105 104,zD 106 .add 103 105,⟨some 107, .mm false (.t 106) (.c (.int .i64 5000)), none⟩,zM 5 107]) (c90_e2))))
def BI {Q e n H} := @Ap Tryz.prog _ _ c90_e3.eq_1 Q e n H
def c90_e4 : ACode := .kp [1, 2, 4, 5] (.seq (.segs [⟨none, [zF 85 1 0,zL 86 85,zE 87 .eql 86 4,zM 88 87], none⟩,⟨some (88, true), [zF 89 1 1,zL 90 89,zE 91 .eql 90 2], some (92, 91)⟩,⟨none, [zM 84 92], none⟩]) (.kp [1, 2, 4, 5, 84] (.cond (.t 84) (.reg [zF 93 1 2,zL 94 93,zF 95 4 2,zL 96 95,⟨some 97, .mm true (.t 94) (.t 96), none⟩,zM 5 97]) (c90_e3))))
def BK {Q e n H} := @Ap Tryz.prog _ _ c90_e4.eq_1 Q e n H
def c90_k5 : ACode := .kp [1, 2, 4, 5, 67] (.cond (.t 67) (.reg [zF 79 1 2,zL 80 79,zF 81 4 2,zL 82 81,⟨some 83, .mm false (.t 80) (.t 82), none⟩,zM 5 83]) (c90_e4))
def BH {Q e n H} := @Ap Tryz.prog _ _ c90_k5.eq_1 Q e n H
def c90_e6 : ACode := .kp [1, 2, 4, 5] (.seq (.seq (.segs [⟨none, [zF 68 1 0,zL 69 68,zE 70 .eql 69 4,zM 71 70], none⟩,⟨some (71, true), [zF 72 1 1,zL 73 72,zE 74 .eql 73 1], some (75, 74)⟩,⟨none, [zM 67 75], none⟩]) (.kp [1, 2, 4, 5, 67] (.cond (.t 67) (.skip) (.reg [zF 76 1 0,zL 77 76,zE 78 .eql 77 5,zM 67 78])))) (c90_k5))
def BG {Q e n H} := @Ap Tryz.prog _ _ c90_e6.eq_1 Q e n H
def c90_k7 : ACode := .kp [1, 2] (.seq (.reg [zF 31 1 4,zL 32 31,⟨some 33, .iaddr 5 (some 5) (.t 32) (.c (.int .i64 0)), none⟩,zG 34 5 33,⟨some 4, .alloc 25 [(.int .i64 0), (.int .i64 0), (.int .i64 0), (.sl 0 [] .nil), (.sl 0 [] .nil)], none⟩,zS 5 4 34]) (.kp [1, 2, 4] (.seq (.reg [zI 5 0]) (.kp [1, 2, 4, 5] (.seq (.block 0 (.seq (.segs [⟨none, [zF 37 1 0,zL 38 37,zE 39 .eql 38 3,zM 40 39], none⟩,⟨some (40, true), [zF 41 1 1,zL 42 41,zE 43 .eql 42 1,zM 44 43], none⟩,⟨some (44, false), [zF 45 1 1,zL 46 45,zE 47 .eql 46 3], none⟩,⟨some (40, true), [zO 48 44 47,zM 49 48], none⟩,⟨some (49, false), [zF 50 1 1,zL 51 50,zE 52 .eql 51 4], none⟩,⟨some (40, true), [zO 53 49 52,zM 54 53], none⟩,⟨some (54, false), [zF 55 1 1,zL 56 55,zE 57 .eql 56 5], none⟩,⟨some (40, true), [zO 58 54 57], some (59, 58)⟩,⟨none, [zM 36 59], none⟩]) (.kp [1, 2, 4, 5, 36] (.cond (.t 36) (.reg [zF 60 1 1,zL 61 60,zF 62 1 2,zL 63 62,zF 64 4 2,zL 65 64,⟨some 66, .callp 102 [(.t 61), (.t 63), (.t 65)], none⟩,zM 5 66]) (c90_e6))))) (c90_k1))))))
def BE {Q e n H} := @Ap Tryz.prog _ _ c90_k7.eq_1 Q e n H
def c90 : AFun := { nargs := 1, nt := 115, res := [.cell 2 (some 5), .tmp 3], code := .seq (.reg [zH 1 25 5 0,⟨some 2, .alloc 25 [(.int .i64 0), (.int .i64 0), (.int .i64 0), (.sl 0 [] .nil), (.sl 0 [] .nil)], none⟩,zB 3 false]) (.kp [1, 2] (.seq (.seq (.segs [⟨none, [zF 6 1 4,zL 7 6,zY 8 7,zE 9 .neq 8 1,zM 10 9], none⟩,⟨some (10, false), [zF 11 1 4,zL 12 11,⟨some 13, .iaddr 5 (some 5) (.t 12) (.c (.int .i64 0)), none⟩,zF 14 13 0,zL 15 14,zF 16 1 0,zL 17 16,zD 18 .neq 15 17], some (19, 18)⟩,⟨none, [zM 20 19], none⟩,⟨some (20, false), [zF 21 1 4,zL 22 21,⟨some 23, .iaddr 5 (some 5) (.t 22) (.c (.int .i64 0)), none⟩,zF 24 23 1,zL 25 24,zF 26 1 1,zL 27 26,zD 28 .neq 25 27], some (29, 28)⟩]) (.kp [1, 2, 29] (.cond (.t 29) (.seq (.reg [zG 30 5 1,zS 5 2 30,zB 3 false]) (.ret)) (.skip)))) (c90_k7))) }
theorem Dk : (Bw Tryz.prog F2 Tryz.f90).map (fun x => (x.nargs, x.nt, x.res, x.code)) = some (c90.nargs, c90.nt, c90.res, bare c90.code) := by kernel_rfl
def c91_k1 : ACode := .kp [1, 2, 5] (.seq (.reg [zM 39 5,zF 40 1 4,zU 40 39]) (.kp [1, 2] (.seq (.reg [zG 41 5 1,zS 5 2 41,zB 3 true]) (.ret))))
def Hl {Q e n H} := @Ap Tryz.prog _ _ c91_k1.eq_1 Q e n H
def c91_k2 : ACode := .kp [1, 2, 4, 5, 21, 22, 23] (.reg [zE 38 .add 23 1,zM 23 38])
def GR {Q e n H} := @Ap Tryz.prog _ _ c91_k2.eq_1 Q e n H
def c91_k3 : ACode := .kp [1, 2, 4, 5, 21, 22, 23] (.seq (.block 1 (.seq (.reg [⟨some 25, .iaddr 5 (some 5) (.t 21) (.t 23), none⟩,zG 26 5 25,⟨some 7, .alloc 25 [(.int .i64 0), (.int .i64 0), (.int .i64 0), (.sl 0 [] .nil), (.sl 0 [] .nil)], none⟩,zS 5 7 26]) (.kp [1, 2, 4, 5, 7, 21, 22, 23] (.seq (.reg [zM 27 4,zG 28 5 7,⟨some 29, .callv (.t 27) [(.t 28)], none⟩]) (.kp [1, 2, 4, 5, 7, 21, 22, 23, 29] (.cond (.t 29) (.reg [zM 30 5,zF 31 7 4,zL 32 31,⟨some 33, .app 25 5 72 (.t 30) (.t 32), none⟩,zM 5 33]) (.reg [zM 34 5,zG 35 5 7,⟨some 36, .bsl 25 (some 5) [(.t 35)], none⟩,⟨some 37, .app 25 5 72 (.t 34) (.t 36), none⟩,zM 5 37]))))))) (c91_k2))
def GI {Q e n H} := @Ap Tryz.prog _ _ c91_k3.eq_1 Q e n H
def c91_L4 : ACode := .ke [1, 2, 4, 5, 21, 22, 23] (.seq (.reg [zD 24 .lss 23 22]) (.kp [1, 2, 4, 5, 21, 22, 23, 24] (.seq (.cond (.t 24) (.skip) (.exit 0)) (c91_k3))))
def En {Q e n H} := @Ap Tryz.prog _ _ c91_L4.eq_1 Q e n H
def c91_k5 : ACode := .kp [1, 2, 4] (.seq (.reg [⟨some 5, .mv (.c (.sl 0 [] .nil)), none⟩]) (.kp [1, 2, 4, 5] (.seq (.seq (.reg [zF 20 1 4,zL 21 20,zY 22 21,zI 23 0]) (.kp [1, 2, 4, 5, 21, 22, 23] (.block 0 (.kp [1, 2, 4, 5, 21, 22, 23] (.loop c91_L4))))) (c91_k1))))
def I3 {Q e n H} := @Ap Tryz.prog _ _ c91_k5.eq_1 Q e n H
def c91 : AFun := { nargs := 1, nt := 42, res := [.cell 2 (some 5), .tmp 3], code := .seq (.reg [zH 1 25 5 0,⟨some 2, .alloc 25 [(.int .i64 0), (.int .i64 0), (.int .i64 0), (.sl 0 [] .nil), (.sl 0 [] .nil)], none⟩,zB 3 false]) (.kp [1, 2] (.seq (.reg [⟨some 4, .mv (.c (.fn 130 [] [])), none⟩]) (.kp [1, 2, 4] (.seq (.seq (.segs [⟨none, [zM 8 4,zG 9 5 1,⟨some 10, .callv (.t 8) [(.t 9)], none⟩,zN 11 10,zM 12 11], none⟩,⟨some (12, false), [zF 13 1 4,zL 14 13,zM 15 4,zW 16 131 14 15,zN 17 16], none⟩,⟨none, [zO 18 12 17], none⟩]) (.kp [1, 2, 4, 18] (.cond (.t 18) (.seq (.reg [zG 19 5 1,zS 5 2 19,zB 3 false]) (.ret)) (.skip)))) (c91_k5))))) }
theorem TR : (Bw Tryz.prog F2 Tryz.f91).map (fun x => (x.nargs, x.nt, x.res, x.code)) = some (c91.nargs, c91.nt, c91.res, bare c91.code) := by kernel_rfl
def c130 : AFun := { nargs := 1, nt := 6, res := [.tmp 2], code := .seq (.reg [zH 1 25 5 0,zB 2 false]) (.kp [1] (.seq (.reg [zF 3 1 0,zL 4 3,zE 5 .eql 4 13,zM 2 5]) (.ret))) }
theorem TZ : (Bw Tryz.prog F2 Tryz.f130).map (fun x => (x.nargs, x.nt, x.res, x.code)) = some (c130.nargs, c130.nt, c130.res, bare c130.code) := by kernel_rfl
def c34_k1 : ACode := .kp [1, 2, 3] (.seq (.reg [zG 12 5 1,⟨some 13, .call 66 [(.t 12)], none⟩,⟨some 14, .call 65 [(.t 13)], none⟩,⟨some 15, .build [(.int .i64 0), (.int .i64 0)] [], none⟩,zS 5 2 14,zS 2 3 15]) (.ret))
def KK {Q e n H} := @Ap Tryz.prog _ _ c34_k1.eq_1 Q e n H
def c34 : AFun := { nargs := 1, nt := 16, res := [.cell 2 (some 5), .cell 3 (some 2)], code := .seq (.reg [zH 1 25 5 0,⟨some 2, .alloc 25 [(.int .i64 0), (.int .i64 0), (.int .i64 0), (.sl 0 [] .nil), (.sl 0 [] .nil)], none⟩,⟨some 3, .alloc 27 [(.int .i64 0), (.int .i64 0)], none⟩]) (.kp [1, 2, 3] (.seq (.seq (.reg [zG 5 5 1,zV 6 15 5,⟨some 4, .alloc 27 [(.int .i64 0), (.int .i64 0)], none⟩,zS 2 4 6]) (.kp [1, 2, 3, 4] (.seq (.reg [zF 7 4 0,zL 8 7,zE 9 .neq 8 0]) (.kp [1, 2, 3, 4, 9] (.cond (.t 9) (.seq (.regD .late [2, 3] [⟨some 10, .build [(.int .i64 0), (.int .i64 0), (.int .i64 0), (.sl 0 [] .nil), (.sl 0 [] .nil)] [], none⟩,zG 11 2 4,zS 5 2 10,zS 2 3 11]) (.ret)) (.skip)))))) (c34_k1))) }
theorem Vx : (Bw Tryz.prog F2 Tryz.f34).map (fun x => (x.nargs, x.nt, x.res, x.code)) = some (c34.nargs, c34.nt, c34.res, bare c34.code) := by kernel_rfl
def c11_k1 : ACode := .kp [1, 3, 4] (.seq (.segs [⟨none, [zF 27 4 0,zL 28 27,zE 29 .eql 28 0,zM 30 29], none⟩,⟨some (30, true), [zG 31 5 3,zG 32 5 1,zV 33 35 32,zW 34 26 31 33], none⟩,⟨none, [zP 35 30 34,zM 36 35], none⟩,⟨some (36, true), [⟨some 37, .callp 16 [], none⟩], none⟩,⟨none, [zP 38 36 37,zM 2 38], none⟩]) (.ret))
def Kp {Q e n H} := @Ap Tryz.prog _ _ c11_k1.eq_1 Q e n H
def c11 : AFun := { nargs := 1, nt := 39, res := [.tmp 2], code := .seq (.reg [zH 1 25 5 0,zB 2 false]) (.kp [1] (.seq (.reg [zG 7 5 1,zV 8 34 7,zM 6 8,zX 9 6 0,zX 10 6 1,⟨some 3, .alloc 25 [(.int .i64 0), (.int .i64 0), (.int .i64 0), (.sl 0 [] .nil), (.sl 0 [] .nil)], none⟩,⟨some 4, .alloc 27 [(.int .i64 0), (.int .i64 0)], none⟩,zS 5 3 9,zS 2 4 10]) (.kp [1, 3, 4] (.seq (.seq (.reg [zG 11 5 1,zV 12 14 11,⟨some 5, .alloc 27 [(.int .i64 0), (.int .i64 0)], none⟩,zS 2 5 12]) (.kp [1, 3, 4, 5] (.seq (.reg [zF 13 5 0,zL 14 13,zE 15 .neq 14 0]) (.kp [1, 3, 4, 5, 15] (.cond (.t 15) (.seq (.segs [⟨none, [zG 16 2 4,zG 17 2 5,⟨some 18, .eqs [.i, .i] false (.t 16) (.t 17), none⟩,zM 19 18], none⟩,⟨some (19, true), [zG 20 5 3,⟨some 21, .build [(.int .i64 0), (.int .i64 0), (.int .i64 0), (.sl 0 [] .nil), (.sl 0 [] .nil)] [], none⟩,zW 22 26 20 21], none⟩,⟨none, [zP 23 19 22,zM 24 23], none⟩,⟨some (24, true), [⟨some 25, .callp 16 [], none⟩], none⟩,⟨none, [zP 26 24 25,zM 2 26], none⟩]) (.ret)) (.skip)))))) (c11_k1))))) }
theorem Vy : (Bw Tryz.prog F2 Tryz.f11).map (fun x => (x.nargs, x.nt, x.res, x.code)) = some (c11.nargs, c11.nt, c11.res, bare c11.code) := by kernel_rfl
def c131 : AFun := { nargs := 2, nt := 9, res := [.tmp 4], code := .seq (.reg [zB 4 false]) (.kp [0, 1] (.seq (.reg [zM 5 0,zM 6 1,zW 7 146 5 6,zE 8 .geq 7 0,zM 4 8]) (.ret))) }
theorem W1 : (Bw Tryz.prog F2 Tryz.f131).map (fun x => (x.nargs, x.nt, x.res, x.code)) = some (c131.nargs, c131.nt, c131.res, bare c131.code) := by kernel_rfl
def c146_k1 : ACode := .kp [] (.seq (.reg [zI 4 (-1)]) (.ret))
def Gu {Q e n H} := @Ap Tryz.prog _ _ c146_k1.eq_1 Q e n H
def c146_k2 : ACode := .kp [0, 1, 7, 8] (.reg [zE 18 .add 8 1,zM 8 18])
def Gv {Q e n H} := @Ap Tryz.prog _ _ c146_k2.eq_1 Q e n H
def c146_k3 : ACode := .kp [0, 1, 7, 8] (.seq (.block 1 (.seq (.reg [zM 10 8,zM 5 10]) (.kp [0, 1, 5, 7, 8] (.seq (.reg [zM 11 1,zM 12 0,zM 13 5,⟨some 14, .iaddr 5 (some 5) (.t 12) (.t 13), none⟩,zG 15 5 14,⟨some 16, .callv (.t 11) [(.t 15)], none⟩]) (.kp [0, 1, 5, 7, 8, 16] (.cond (.t 16) (.seq (.reg [zM 17 5,zM 4 17]) (.ret)) (.skip))))))) (c146_k2))
def Gg {Q e n H} := @Ap Tryz.prog _ _ c146_k3.eq_1 Q e n H
def c146_L4 : ACode := .ke [0, 1, 7, 8] (.seq (.reg [zD 9 .lss 8 7]) (.kp [0, 1, 7, 8, 9] (.seq (.cond (.t 9) (.skip) (.exit 0)) (c146_k3))))
def H4 {Q e n H} := @Ap Tryz.prog _ _ c146_L4.eq_1 Q e n H
def c146 : AFun := { nargs := 2, nt := 19, res := [.tmp 4], code := .seq (.reg [zI 4 0]) (.kp [0, 1] (.seq (.seq (.reg [zM 6 0,zY 7 6,zI 8 0]) (.kp [0, 1, 7, 8] (.block 0 (.kp [0, 1, 7, 8] (.loop c146_L4))))) (c146_k1))) }
theorem WQ : (Bw Tryz.prog F2 Tryz.f146).map (fun x => (x.nargs, x.nt, x.res, x.code)) = some (c146.nargs, c146.nt, c146.res, bare c146.code) := by kernel_rfl
end Go.Proofs.YtjdccdelcnmocaaGreatDoor
