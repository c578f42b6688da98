/- The code of some functions on plain data, by program, and that it is what the program's text gives; no condition. -/
import Derived.Test.YtjdccdelcnmocaaGreatDoorMgD
import Derived.Test.YtjdccdelcnmocaaGreatDoorProg
import Derived.KernelRfl
set_option linter.all false
set_option linter.unusedSimpArgs false
set_option linter.unusedVariables false
namespace Go.Proofs.YtjdccdelcnmocaaGreatDoor
def DI : List Nat := [39, 40, 69, 43, 72, 71, 73, 74, 75, 76, 77, 106, 109, 110, 112, 113, 114, 117, 96, 97, 98, 99, 101, 103, 104, 105, 107, 111, 115, 116, 132, 133, 134, 135, 136, 137, 138, 100, 92, 52, 82, 61, 84, 85, 86, 87, 125, 126, 127, 66, 65, 121, 122, 123, 141, 142, 150, 151, 173, 160, 161, 158]
theorem An {P : Program} {c d : ACode} (h : c = d) {Q : AExit → AS → Prop} {e : AT} {n : Nat} {H : A3} : aw P c Q ⟨e, n, H⟩ = aw P d Q ⟨e, n, H⟩ := by rw [h]
def c19 : AFun := { nargs := 3, nt := 15, res := [.tmp 6], code := .seq (.reg [zB 6 false]) (.kp [0, 1, 2] (.seq (.segs [⟨none, [zM 7 1,zM 8 0,zD 9 .leq 7 8,zM 10 9], none⟩,⟨some (10, true), [zM 11 0,zM 12 2,zD 13 .leq 11 12], some (14, 13)⟩,⟨none, [zM 6 14], none⟩]) (.ret))) }
theorem A2m : (Ah Tryz.prog DI Tryz.f19).map (fun x => (x.nargs, x.nt, x.res, x.code)) = some (c19.nargs, c19.nt, c19.res, bare c19.code) := by kernel_rfl
def c20 : AFun := { nargs := 2, nt := 8, res := [.cell 4 (some 2)], code := .seq (.reg [⟨some 4, .alloc 27 [(.int .i64 0), (.int .i64 0)], none⟩]) (.kp [0, 1, 4] (.seq (.reg [zM 5 0,zM 6 1,⟨some 7, .build [(.int .i64 0), (.int .i64 0)] [(0, none, (.t 5)), (1, none, (.t 6))], none⟩,zS 2 4 7]) (.ret))) }
theorem A2b : (Ah Tryz.prog DI Tryz.f20).map (fun x => (x.nargs, x.nt, x.res, x.code)) = some (c20.nargs, c20.nt, c20.res, bare c20.code) := by kernel_rfl
def c102_k1 : ACode := .kp [1, 2] (.seq (.reg [zM 37 1,zM 38 2,zD 39 .rem 37 38,zM 6 39]) (.ret))
def EN {Q e n H} := @An Tryz.prog _ _ c102_k1.eq_1 Q e n H
def c102_e2 : ACode := .kp [1, 2, 7] (.seq (.reg [zE 33 .eql 7 5,zM 32 33]) (.kp [1, 2, 32] (.cond (.t 32) (.seq (.reg [zM 34 1,zM 35 2,⟨some 36, .mm false (.t 34) (.t 35), none⟩,zM 6 36]) (.ret)) (.skip))))
def EW {Q e n H} := @An Tryz.prog _ _ c102_e2.eq_1 Q e n H
def c102_e3 : ACode := .kp [1, 2, 7] (.seq (.reg [zE 28 .eql 7 4,zM 27 28]) (.kp [1, 2, 7, 27] (.cond (.t 27) (.seq (.reg [zM 29 1,zM 30 2,⟨some 31, .mm true (.t 29) (.t 30), none⟩,zM 6 31]) (.ret)) (c102_e2))))
def Eh {Q e n H} := @An Tryz.prog _ _ c102_e3.eq_1 Q e n H
def c102_e4 : ACode := .kp [1, 2, 7] (.seq (.reg [zE 22 .eql 7 3,zM 21 22]) (.kp [1, 2, 7, 21] (.cond (.t 21) (.seq (.reg [zM 23 1,zM 24 2,zD 25 .mul 23 24,zE 26 .rem 25 10000,zM 6 26]) (.ret)) (c102_e3))))
def EQ {Q e n H} := @An Tryz.prog _ _ c102_e4.eq_1 Q e n H
def c102_e5 : ACode := .kp [1, 2, 7] (.seq (.reg [zE 15 .eql 7 2,zM 14 15]) (.kp [1, 2, 7, 14] (.cond (.t 14) (.seq (.reg [zM 16 1,zM 17 2,zD 18 .sub 16 17,zE 19 .add 18 10000,zE 20 .rem 19 10000,zM 6 20]) (.ret)) (c102_e4))))
def EV {Q e n H} := @An Tryz.prog _ _ c102_e5.eq_1 Q e n H
def c102 : AFun := { nargs := 3, nt := 40, res := [.tmp 6], code := .seq (.reg [zI 6 0]) (.kp [0, 1, 2] (.seq (.seq (.reg [zM 7 0]) (.kp [1, 2, 7] (.block 0 (.seq (.reg [zE 9 .eql 7 1,zM 8 9]) (.kp [1, 2, 7, 8] (.cond (.t 8) (.seq (.reg [zM 10 1,zM 11 2,zD 12 .add 10 11,zE 13 .rem 12 10000,zM 6 13]) (.ret)) (c102_e5))))))) (c102_k1))) }
theorem A0e : (Ah Tryz.prog DI Tryz.f102).map (fun x => (x.nargs, x.nt, x.res, x.code)) = some (c102.nargs, c102.nt, c102.res, bare c102.code) := by kernel_rfl
def c108_k1 : ACode := .kp [1, 2] (.seq (.reg [zM 18 1,zM 19 2,zD 20 .rem 18 19,zE 21 .eql 20 0,zM 6 21]) (.ret))
def IJ {Q e n H} := @An Tryz.prog _ _ c108_k1.eq_1 Q e n H
def c108_e2 : ACode := .kp [1, 2, 7] (.seq (.reg [zE 14 .eql 7 2,zM 13 14]) (.kp [1, 2, 13] (.cond (.t 13) (.seq (.reg [zM 15 1,zM 16 2,zD 17 .geq 15 16,zM 6 17]) (.ret)) (.skip))))
def IP {Q e n H} := @An Tryz.prog _ _ c108_e2.eq_1 Q e n H
def c108 : AFun := { nargs := 3, nt := 22, res := [.tmp 6], code := .seq (.reg [zB 6 false]) (.kp [0, 1, 2] (.seq (.seq (.reg [zM 7 0]) (.kp [1, 2, 7] (.block 0 (.seq (.reg [zE 9 .eql 7 1,zM 8 9]) (.kp [1, 2, 7, 8] (.cond (.t 8) (.seq (.reg [zM 10 1,zM 11 2,zD 12 .lss 10 11,zM 6 12]) (.ret)) (c108_e2))))))) (c108_k1))) }
theorem A1l : (Ah Tryz.prog DI Tryz.f108).map (fun x => (x.nargs, x.nt, x.res, x.code)) = some (c108.nargs, c108.nt, c108.res, bare c108.code) := by kernel_rfl
def c44 : AFun := { nargs := 1, nt := 9, res := [.tmp 2], code := .seq (.reg [zB 2 false]) (.kp [0] (.seq (.segs [⟨none, [zM 3 0,zE 4 .eql 3 1,zM 5 4], none⟩,⟨some (5, false), [zM 6 0,zE 7 .eql 6 2], some (8, 7)⟩,⟨none, [zM 2 8], none⟩]) (.ret))) }
theorem A2v : (Ah Tryz.prog DI Tryz.f44).map (fun x => (x.nargs, x.nt, x.res, x.code)) = some (c44.nargs, c44.nt, c44.res, bare c44.code) := by kernel_rfl
def c53 : AFun := { nargs := 1, nt := 17, res := [.tmp 2], code := .seq (.reg [zB 2 false]) (.kp [0] (.seq (.segs [⟨none, [zM 3 0,zE 4 .eql 3 3,zM 5 4], none⟩,⟨some (5, false), [zM 6 0,zE 7 .eql 6 9], some (8, 7)⟩,⟨none, [zM 9 8], none⟩,⟨some (9, false), [zM 10 0,zE 11 .eql 10 10], some (12, 11)⟩,⟨none, [zM 13 12], none⟩,⟨some (13, false), [zM 14 0,zE 15 .eql 14 15], some (16, 15)⟩,⟨none, [zM 2 16], none⟩]) (.ret))) }
theorem A2a : (Ah Tryz.prog DI Tryz.f53).map (fun x => (x.nargs, x.nt, x.res, x.code)) = some (c53.nargs, c53.nt, c53.res, bare c53.code) := by kernel_rfl
def c55 : AFun := { nargs := 1, nt := 13, res := [.tmp 2], code := .seq (.reg [zB 2 false]) (.kp [0] (.seq (.segs [⟨none, [zM 3 0,zE 4 .eql 3 4,zM 5 4], none⟩,⟨some (5, false), [zM 6 0,zE 7 .eql 6 7], some (8, 7)⟩,⟨none, [zM 9 8], none⟩,⟨some (9, false), [zM 10 0,zE 11 .eql 10 8], some (12, 11)⟩,⟨none, [zM 2 12], none⟩]) (.ret))) }
theorem A2c : (Ah Tryz.prog DI Tryz.f55).map (fun x => (x.nargs, x.nt, x.res, x.code)) = some (c55.nargs, c55.nt, c55.res, bare c55.code) := by kernel_rfl
def c58 : AFun := { nargs := 1, nt := 13, res := [.tmp 2], code := .seq (.reg [zB 2 false]) (.kp [0] (.seq (.segs [⟨none, [zM 3 0,zE 4 .eql 3 5,zM 5 4], none⟩,⟨some (5, false), [zM 6 0,zE 7 .eql 6 6], some (8, 7)⟩,⟨none, [zM 9 8], none⟩,⟨some (9, false), [zM 10 0,zE 11 .eql 10 12], some (12, 11)⟩,⟨none, [zM 2 12], none⟩]) (.ret))) }
theorem A2g : (Ah Tryz.prog DI Tryz.f58).map (fun x => (x.nargs, x.nt, x.res, x.code)) = some (c58.nargs, c58.nt, c58.res, bare c58.code) := by kernel_rfl
def c68_k1 : ACode := .kp [] (.seq (.reg [zI 2 0]) (.ret))
def DU {Q e n H} := @An Tryz.prog _ _ c68_k1.eq_1 Q e n H
def c68_k2 : ACode := .kp [1, 3, 10] (.reg [zM 195 10,zE 196 .add 195 1,zM 10 196])
def DR {Q e n H} := @An Tryz.prog _ _ c68_k2.eq_1 Q e n H
def c68_k3 : ACode := .kp [1, 3, 10, 11, 12] (.seq (.reg [zF 209 1 3,zL 210 209,zM 211 10,zJ 212 1 210 211,zL 213 212,zM 214 11,zM 215 12,⟨some 216, .callp 19 [(.t 213), (.t 214), (.t 215)], none⟩,zN 217 216]) (.kp [1, 3, 10, 217] (.cond (.t 217) (.seq (.reg [zI 2 4]) (.ret)) (.skip))))
def DP {Q e n H} := @An Tryz.prog _ _ c68_k3.eq_1 Q e n H
def c68_k4 : ACode := .kp [1, 3, 10, 11, 12] (.seq (.seq (.segs [⟨none, [zM 203 3,zE 204 .eql 203 2,zM 205 204], none⟩,⟨some (205, true), [zM 206 10,zE 207 .eql 206 2], some (208, 207)⟩]) (.kp [1, 3, 10, 11, 12, 208] (.cond (.t 208) (.reg [zI 11 1]) (.skip)))) (c68_k3))
def DW {Q e n H} := @An Tryz.prog _ _ c68_k4.eq_1 Q e n H
def c68_k5 : ACode := .kp [1, 3, 10] (.seq (.block 1 (.seq (.reg [zI 11 0,zI 12 9999]) (.kp [1, 3, 10, 11, 12] (.seq (.seq (.segs [⟨none, [zM 197 3,zE 198 .eql 197 2,zM 199 198], none⟩,⟨some (199, true), [zM 200 10,zE 201 .eql 200 1], some (202, 201)⟩]) (.kp [1, 3, 10, 11, 12, 202] (.cond (.t 202) (.reg [zI 12 10000]) (.skip)))) (c68_k4))))) (c68_k2))
def DS {Q e n H} := @An Tryz.prog _ _ c68_k5.eq_1 Q e n H
def c68_L6 : ACode := .ke [1, 3, 10] (.seq (.seq (.reg [zM 190 10,zF 191 1 3,zL 192 191,zY 193 192,zD 194 .lss 190 193]) (.kp [1, 3, 10, 194] (.cond (.t 194) (.skip) (.exit 0)))) (c68_k5))
def DQ {Q e n H} := @An Tryz.prog _ _ c68_L6.eq_1 Q e n H
def c68_k7 : ACode := .kp [1, 3] (.seq (.seq (.reg [zI 10 0]) (.kp [1, 3, 10] (.block 0 (.kp [1, 3, 10] (.loop c68_L6))))) (c68_k1))
def Bw {Q e n H} := @An Tryz.prog _ _ c68_k7.eq_1 Q e n H
def c68_k8 : ACode := .kp [1, 3, 7, 8, 9] (.seq (.seq (.segs [⟨none, [zM 181 7,zM 182 181], none⟩,⟨some (182, true), [zF 183 1 2,zL 184 183,zM 185 8,zM 186 9,⟨some 187, .callp 19 [(.t 184), (.t 185), (.t 186)], none⟩,zN 188 187], none⟩,⟨none, [zP 189 182 188], none⟩]) (.kp [1, 3, 189] (.cond (.t 189) (.seq (.reg [zI 2 4]) (.ret)) (.skip)))) (c68_k7))
def Bv {Q e n H} := @An Tryz.prog _ _ c68_k8.eq_1 Q e n H
def c68_k9 : ACode := .kp [1, 3, 7, 8, 9] (.seq (.seq (.reg [zM 179 3,zE 180 .eql 179 12]) (.kp [1, 3, 7, 8, 9, 180] (.cond (.t 180) (.reg [zI 9 20]) (.skip)))) (c68_k8))
def Bu {Q e n H} := @An Tryz.prog _ _ c68_k9.eq_1 Q e n H
def c68_k10 : ACode := .kp [1, 3, 7, 8, 9] (.seq (.seq (.segs [⟨none, [zM 173 3,zE 174 .eql 173 5,zM 175 174], none⟩,⟨some (175, false), [zM 176 3,zE 177 .eql 176 6], some (178, 177)⟩]) (.kp [1, 3, 7, 8, 9, 178] (.cond (.t 178) (.reg [zI 9 5000]) (.skip)))) (c68_k9))
def BW {Q e n H} := @An Tryz.prog _ _ c68_k10.eq_1 Q e n H
def c68_k11 : ACode := .kp [1, 3, 7, 8, 9] (.seq (.seq (.reg [zM 171 3,zE 172 .eql 171 10]) (.kp [1, 3, 7, 8, 9, 172] (.cond (.t 172) (.reg [zI 8 1,zI 9 8]) (.skip)))) (c68_k10))
def Bl {Q e n H} := @An Tryz.prog _ _ c68_k11.eq_1 Q e n H
def c68_k12 : ACode := .kp [1, 3, 7] (.seq (.reg [zI 8 0,zI 9 9999]) (.kp [1, 3, 7, 8, 9] (.seq (.seq (.segs [⟨none, [zM 155 3,zE 156 .eql 155 3,zM 157 156], none⟩,⟨some (157, true), [zF 158 1 1,zL 159 158,zE 160 .eql 159 6], some (161, 160)⟩,⟨none, [zM 162 161], none⟩,⟨some (162, false), [zM 163 3,zV 164 55 163,zM 165 164], none⟩,⟨some (165, true), [zF 166 1 1,zL 167 166,zE 168 .eql 167 3], none⟩,⟨some (162, false), [zP 169 165 168], some (170, 169)⟩]) (.kp [1, 3, 7, 8, 9, 170] (.cond (.t 170) (.reg [zI 8 1]) (.skip)))) (c68_k11))))
def Bf {Q e n H} := @An Tryz.prog _ _ c68_k12.eq_1 Q e n H
def c68_k13 : ACode := .kp [1, 3, 7] (.seq (.seq (.segs [⟨none, [zM 127 3,zV 128 53 127,zM 129 128], none⟩,⟨some (129, true), [zF 130 1 1,zL 131 130,⟨some 132, .callp 19 [(.t 131), (.c (.int .i64 1)), (.c (.int .i64 5))], none⟩,zN 133 132], none⟩,⟨none, [zP 134 129 133,zM 135 134], none⟩,⟨some (135, true), [zM 136 3,zE 137 .eql 136 3,zM 138 137], none⟩,⟨some (138, true), [zF 139 1 1,zL 140 139,zE 141 .eql 140 6], none⟩,⟨some (135, true), [zP 142 138 141,zN 143 142], some (144, 143)⟩,⟨none, [zM 145 144], none⟩,⟨some (145, false), [zM 146 3,zV 147 55 146,zM 148 147], none⟩,⟨some (148, true), [zF 149 1 1,zL 150 149,⟨some 151, .callp 19 [(.t 150), (.c (.int .i64 1)), (.c (.int .i64 3))], none⟩,zN 152 151], none⟩,⟨some (145, false), [zP 153 148 152], some (154, 153)⟩]) (.kp [1, 3, 7, 154] (.cond (.t 154) (.seq (.reg [zI 2 4]) (.ret)) (.skip)))) (c68_k12))
def Bh {Q e n H} := @An Tryz.prog _ _ c68_k13.eq_1 Q e n H
def c68_k14 : ACode := .kp [1, 3] (.seq (.segs [⟨none, [zM 80 3,zV 81 53 80,zM 82 81], none⟩,⟨some (82, true), [zM 83 3,zE 84 .neq 83 15], some (85, 84)⟩,⟨none, [zM 86 85], none⟩,⟨some (86, false), [zM 87 3,zV 88 55 87], none⟩,⟨none, [zO 89 86 88,zM 90 89], none⟩,⟨some (90, false), [zM 91 3,zV 92 58 91], none⟩,⟨none, [zO 93 90 92,zM 7 93], none⟩]) (.kp [1, 3, 7] (.seq (.seq (.segs [⟨none, [zM 94 3,zV 95 44 94,zN 96 95,zM 97 96], none⟩,⟨some (97, true), [zF 98 1 3,zL 99 98,zY 100 99,zE 101 .gtr 100 0], some (102, 101)⟩,⟨none, [zM 103 102], none⟩,⟨some (103, false), [zM 104 7,zN 105 104,zM 106 105], none⟩,⟨some (106, true), [zF 107 1 2,zL 108 107,zE 109 .neq 108 0], none⟩,⟨some (103, false), [zP 110 106 109], some (111, 110)⟩,⟨none, [zM 112 111], none⟩,⟨some (112, false), [zM 113 3,zV 114 53 113,zN 115 114,zM 116 115], none⟩,⟨some (116, true), [zM 117 3,zV 118 55 117,zN 119 118], none⟩,⟨some (112, false), [zP 120 116 119,zM 121 120], none⟩,⟨some (121, true), [zF 122 1 1,zL 123 122,zE 124 .neq 123 0], none⟩,⟨some (112, false), [zP 125 121 124], some (126, 125)⟩]) (.kp [1, 3, 7, 126] (.cond (.t 126) (.seq (.reg [zI 2 6]) (.ret)) (.skip)))) (c68_k13))))
def Bd {Q e n H} := @An Tryz.prog _ _ c68_k14.eq_1 Q e n H
def c68_k15 : ACode := .kp [1, 3] (.seq (.reg [zF 18 1 4,zL 19 18,zY 20 19,zM 4 20]) (.kp [1, 3, 4] (.seq (.segs [⟨none, [zM 21 3,zE 22 .eql 21 13,zM 23 22], none⟩,⟨some (23, false), [zM 24 3,zE 25 .eql 24 14], some (26, 25)⟩,⟨none, [zM 5 26], none⟩]) (.kp [1, 3, 4, 5] (.seq (.segs [⟨none, [zM 27 3,zE 28 .eql 27 15,zM 29 28], none⟩,⟨some (29, false), [zM 30 3,zE 31 .eql 30 16], some (32, 31)⟩,⟨none, [zM 6 32], none⟩]) (.kp [1, 3, 4, 5, 6] (.seq (.seq (.segs [⟨none, [zM 33 3,zV 34 44 33,zM 35 34], none⟩,⟨some (35, true), [zM 36 4,zE 37 .neq 36 0], some (38, 37)⟩,⟨none, [zM 39 38], none⟩,⟨some (39, false), [zM 40 5,zM 41 40], none⟩,⟨some (41, true), [zM 42 4,zE 43 .eql 42 0], none⟩,⟨some (39, false), [zP 44 41 43], some (45, 44)⟩,⟨none, [zM 46 45], none⟩,⟨some (46, false), [zM 47 6,zM 48 47], none⟩,⟨some (48, true), [zM 49 4,zE 50 .neq 49 2], none⟩,⟨some (46, false), [zP 51 48 50], some (52, 51)⟩,⟨none, [zM 53 52], none⟩,⟨some (53, false), [zM 54 3,zV 55 44 54,zN 56 55,zM 57 56], none⟩,⟨some (57, true), [zM 58 5,zN 59 58], none⟩,⟨some (53, false), [zP 60 57 59,zM 61 60], none⟩,⟨some (61, true), [zM 62 6,zN 63 62], none⟩,⟨some (53, false), [zP 64 61 63,zM 65 64], none⟩,⟨some (65, true), [zM 66 4,zE 67 .neq 66 1], none⟩,⟨some (53, false), [zP 68 65 67], some (69, 68)⟩,⟨none, [zM 70 69], none⟩,⟨some (70, false), [zM 71 3,zE 72 .eql 71 2,zM 73 72], none⟩,⟨some (73, true), [zF 74 1 3,zL 75 74,zY 76 75,zE 77 .neq 76 3], none⟩,⟨some (70, false), [zP 78 73 77], some (79, 78)⟩]) (.kp [1, 3, 79] (.cond (.t 79) (.seq (.reg [zI 2 9]) (.ret)) (.skip)))) (c68_k14))))))))
def Ba {Q e n H} := @An Tryz.prog _ _ c68_k15.eq_1 Q e n H
def c68 : AFun := { nargs := 1, nt := 218, res := [.tmp 2], code := .seq (.reg [zH 1 25 5 0,zI 2 0]) (.kp [1] (.seq (.reg [zF 13 1 0,zL 14 13,zM 3 14]) (.kp [1, 3] (.seq (.seq (.reg [zM 15 3,⟨some 16, .callp 19 [(.t 15), (.c (.int .i64 1)), (.c (.int .i64 16))], none⟩,zN 17 16]) (.kp [1, 3, 17] (.cond (.t 17) (.seq (.reg [zI 2 5]) (.ret)) (.skip)))) (c68_k15))))) }
theorem RK : (Ah Tryz.prog DI Tryz.f68).map (fun x => (x.nargs, x.nt, x.res, x.code)) = some (c68.nargs, c68.nt, c68.res, bare c68.code) := by kernel_rfl
def c93_k1 : ACode := .kp [] (.seq (.reg [zB 4 true]) (.ret))
def WH {Q e n H} := @An Tryz.prog _ _ c93_k1.eq_1 Q e n H
def c93_e2 : ACode := .kp [2, 3] (.seq (.reg [zF 33 3 2,zL 34 33,zM 32 34]) (.kp [2, 32] (.cond (.t 32) (.seq (.segs [⟨none, [zF 35 2 1,zL 36 35,zE 37 .geq 36 1,zM 38 37], none⟩,⟨some (38, true), [zF 39 2 1,zL 40 39,zE 41 .leq 40 5], some (42, 41)⟩,⟨none, [zM 4 42], none⟩]) (.ret)) (.skip))))
def VV {Q e n H} := @An Tryz.prog _ _ c93_e2.eq_1 Q e n H
def c93_e3 : ACode := .kp [2, 3] (.seq (.segs [⟨none, [zF 17 3 2,zL 18 17,zM 19 18], none⟩,⟨some (19, true), [zF 20 2 0,zL 21 20,zE 22 .eql 21 3], some (23, 22)⟩,⟨none, [zM 16 23], none⟩]) (.kp [2, 3, 16] (.cond (.t 16) (.seq (.segs [⟨none, [zF 24 2 1,zL 25 24,zE 26 .geq 25 1,zM 27 26], none⟩,⟨some (27, true), [zF 28 2 1,zL 29 28,zE 30 .leq 29 6], some (31, 30)⟩,⟨none, [zM 4 31], none⟩]) (.ret)) (c93_e2))))
def VT {Q e n H} := @An Tryz.prog _ _ c93_e3.eq_1 Q e n H
def c93 : AFun := { nargs := 2, nt := 43, res := [.tmp 4], code := .seq (.reg [zH 2 25 5 0,zH 3 101 7 1,zB 4 false]) (.kp [2, 3] (.seq (.block 0 (.seq (.reg [zF 6 3 3,zL 7 6,zM 5 7]) (.kp [2, 3, 5] (.cond (.t 5) (.seq (.segs [⟨none, [zF 8 2 1,zL 9 8,zE 10 .geq 9 1,zM 11 10], none⟩,⟨some (11, true), [zF 12 2 1,zL 13 12,zE 14 .leq 13 3], some (15, 14)⟩,⟨none, [zM 4 15], none⟩]) (.ret)) (c93_e3))))) (c93_k1))) }
theorem A1s : (Ah Tryz.prog DI Tryz.f93).map (fun x => (x.nargs, x.nt, x.res, x.code)) = some (c93.nargs, c93.nt, c93.res, bare c93.code) := by kernel_rfl
def c94_k1 : ACode := .kp [2, 5, 6] (.seq (.segs [⟨none, [zF 35 2 2,zL 36 35,zM 37 5,zD 38 .geq 36 37,zM 39 38], none⟩,⟨some (39, true), [zF 40 2 2,zL 41 40,zM 42 6,zD 43 .leq 41 42], some (44, 43)⟩,⟨none, [zM 4 44], none⟩]) (.ret))
def Ux {Q e n H} := @An Tryz.prog _ _ c94_k1.eq_1 Q e n H
def c94_e2 : ACode := .kp [2, 3, 5, 6] (.seq (.segs [⟨none, [zF 19 3 3,zL 20 19,zM 21 20], none⟩,⟨some (21, true), [zF 22 2 1,zL 23 22,zE 24 .eql 23 3], some (25, 24)⟩,⟨none, [zM 26 25], none⟩,⟨some (26, false), [zF 27 3 2,zL 28 27,zM 29 28], none⟩,⟨some (29, true), [zF 30 2 1,zL 31 30,zE 32 .eql 31 6], none⟩,⟨some (26, false), [zP 33 29 32], some (34, 33)⟩,⟨none, [zM 18 34], none⟩]) (.kp [2, 5, 6, 18] (.cond (.t 18) (.reg [zI 5 1]) (.skip))))
def VQ {Q e n H} := @An Tryz.prog _ _ c94_e2.eq_1 Q e n H
def c94 : AFun := { nargs := 2, nt := 45, res := [.tmp 4], code := .seq (.reg [zH 2 25 5 0,zH 3 101 7 1,zB 4 false]) (.kp [2, 3] (.seq (.reg [zI 5 0,zI 6 9999]) (.kp [2, 3, 5, 6] (.seq (.block 0 (.seq (.reg [⟨some 8, .faddr (.t 3) 4 (some 2), none⟩,⟨some 9, .aaddr 2 1 none (.t 8) (.c (.int .i64 1)), none⟩,zL 10 9,zE 11 .gtr 10 0,zM 7 11]) (.kp [2, 3, 5, 6, 7] (.cond (.t 7) (.reg [⟨some 12, .faddr (.t 3) 4 (some 2), none⟩,⟨some 13, .aaddr 2 1 none (.t 12) (.c (.int .i64 0)), none⟩,zL 14 13,⟨some 15, .faddr (.t 3) 4 (some 2), none⟩,⟨some 16, .aaddr 2 1 none (.t 15) (.c (.int .i64 1)), none⟩,zL 17 16,zM 5 14,zM 6 17]) (c94_e2))))) (c94_k1))))) }
theorem A2i : (Ah Tryz.prog DI Tryz.f94).map (fun x => (x.nargs, x.nt, x.res, x.code)) = some (c94.nargs, c94.nt, c94.res, bare c94.code) := by kernel_rfl
def c95_k1 : ACode := .kp [] (.seq (.reg [zB 2 true]) (.ret))
def Jq {Q e n H} := @An Tryz.prog _ _ c95_k1.eq_1 Q e n H
def c95_k2 : ACode := .kp [1, 8, 9, 10] (.reg [zE 34 .add 10 1,zM 10 34])
def K0 {Q e n H} := @An Tryz.prog _ _ c95_k2.eq_1 Q e n H
def c95_k3 : ACode := .kp [1, 4, 5, 6, 8, 9, 10] (.seq (.segs [⟨none, [zM 26 4,zM 27 5,zD 28 .lss 26 27,zM 29 28], none⟩,⟨some (29, false), [zM 30 4,zM 31 6,zD 32 .gtr 30 31], some (33, 32)⟩]) (.kp [1, 8, 9, 10, 33] (.cond (.t 33) (.seq (.reg [zB 2 false]) (.ret)) (.skip))))
def KQ {Q e n H} := @An Tryz.prog _ _ c95_k3.eq_1 Q e n H
def c95_t4 : ACode := .kp [1, 3, 4, 5, 6, 8, 9, 10] (.seq (.reg [zM 18 6,zM 19 3,zE 20 .rem 19 2,zD 21 .add 18 20,zM 6 21]) (.kp [1, 3, 4, 5, 6, 8, 9, 10] (.reg [zM 22 5,zM 23 3,zE 24 .quo 23 2,zD 25 .add 22 24,zM 5 25])))
def JT {Q e n H} := @An Tryz.prog _ _ c95_t4.eq_1 Q e n H
def c95_k5 : ACode := .kp [1, 8, 9, 10] (.seq (.block 1 (.seq (.reg [zM 12 10,zJ 13 1 8 10,zL 14 13,zM 3 12,zM 4 14]) (.kp [1, 3, 4, 8, 9, 10] (.seq (.reg [zI 5 0,zI 6 9999]) (.kp [1, 3, 4, 5, 6, 8, 9, 10] (.seq (.seq (.reg [zF 15 1 0,zL 16 15,zE 17 .eql 16 2]) (.kp [1, 3, 4, 5, 6, 8, 9, 10, 17] (.cond (.t 17) (c95_t4) (.skip)))) (c95_k3))))))) (c95_k2))
def Je {Q e n H} := @An Tryz.prog _ _ c95_k5.eq_1 Q e n H
def c95_L6 : ACode := .ke [1, 8, 9, 10] (.seq (.reg [zD 11 .lss 10 9]) (.kp [1, 8, 9, 10, 11] (.seq (.cond (.t 11) (.skip) (.exit 0)) (c95_k5))))
def KO {Q e n H} := @An Tryz.prog _ _ c95_L6.eq_1 Q e n H
def c95 : AFun := { nargs := 1, nt := 35, res := [.tmp 2], code := .seq (.reg [zH 1 25 5 0,zB 2 false]) (.kp [1] (.seq (.seq (.reg [zF 7 1 3,zL 8 7,zY 9 8,zI 10 0]) (.kp [1, 8, 9, 10] (.block 0 (.kp [1, 8, 9, 10] (.loop c95_L6))))) (c95_k1))) }
theorem A1y : (Ah Tryz.prog DI Tryz.f95).map (fun x => (x.nargs, x.nt, x.res, x.code)) = some (c95.nargs, c95.nt, c95.res, bare c95.code) := by kernel_rfl
def c22_k1 : ACode := .kp [] (.seq (.reg [zB 4 true]) (.ret))
def Fv {Q e n H} := @An Tryz.prog _ _ c22_k1.eq_1 Q e n H
def c22_k2 : ACode := .kp [0, 1, 5] (.reg [zM 15 5,zE 16 .add 15 1,zM 5 16])
def GC {Q e n H} := @An Tryz.prog _ _ c22_k2.eq_1 Q e n H
def c22_k3 : ACode := .kp [0, 1, 5] (.seq (.block 1 (.seq (.reg [zM 17 0,zM 18 5,zJ 19 1 17 18,zL 20 19,zM 21 1,zM 22 5,zJ 23 1 21 22,zL 24 23,zD 25 .neq 20 24]) (.kp [0, 1, 5, 25] (.cond (.t 25) (.seq (.reg [zB 4 false]) (.ret)) (.skip))))) (c22_k2))
def Fr {Q e n H} := @An Tryz.prog _ _ c22_k3.eq_1 Q e n H
def c22_L4 : ACode := .ke [0, 1, 5] (.seq (.seq (.reg [zM 11 5,zM 12 0,zY 13 12,zD 14 .lss 11 13]) (.kp [0, 1, 5, 14] (.cond (.t 14) (.skip) (.exit 0)))) (c22_k3))
def Fu {Q e n H} := @An Tryz.prog _ _ c22_L4.eq_1 Q e n H
def c22_k5 : ACode := .kp [0, 1] (.seq (.seq (.reg [zI 5 0]) (.kp [0, 1, 5] (.block 0 (.kp [0, 1, 5] (.loop c22_L4))))) (c22_k1))
def Fq {Q e n H} := @An Tryz.prog _ _ c22_k5.eq_1 Q e n H
def c22 : AFun := { nargs := 2, nt := 26, res := [.tmp 4], code := .seq (.reg [zB 4 false]) (.kp [0, 1] (.seq (.seq (.reg [zM 6 0,zY 7 6,zM 8 1,zY 9 8,zD 10 .neq 7 9]) (.kp [0, 1, 10] (.cond (.t 10) (.seq (.reg [zB 4 false]) (.ret)) (.skip)))) (c22_k5))) }
theorem Zn : (Ah Tryz.prog DI Tryz.f22).map (fun x => (x.nargs, x.nt, x.res, x.code)) = some (c22.nargs, c22.nt, c22.res, bare c22.code) := by kernel_rfl
def c31_k1 : ACode := .kp [3] (.seq (.reg [zM 20 3,zM 2 20]) (.ret))
def JX {Q e n H} := @An Tryz.prog _ _ c31_k1.eq_1 Q e n H
def c31_k2 : ACode := .kp [1, 3, 4] (.reg [zM 10 4,zE 11 .add 10 1,zM 4 11])
def KL {Q e n H} := @An Tryz.prog _ _ c31_k2.eq_1 Q e n H
def c31_k3 : ACode := .kp [1, 3, 4] (.seq (.block 1 (.reg [zM 12 3,zF 13 1 4,zL 14 13,zM 15 4,⟨some 16, .iaddr 5 (some 5) (.t 14) (.t 15), none⟩,zG 17 5 16,zV 18 31 17,zD 19 .add 12 18,zM 3 19])) (c31_k2))
def Jt {Q e n H} := @An Tryz.prog _ _ c31_k3.eq_1 Q e n H
def c31_L4 : ACode := .ke [1, 3, 4] (.seq (.seq (.reg [zM 5 4,zF 6 1 4,zL 7 6,zY 8 7,zD 9 .lss 5 8]) (.kp [1, 3, 4, 9] (.cond (.t 9) (.skip) (.exit 0)))) (c31_k3))
def Jo {Q e n H} := @An Tryz.prog _ _ c31_L4.eq_1 Q e n H
def c31 : AFun := { nargs := 1, nt := 21, res := [.tmp 2], code := .seq (.reg [zH 1 25 5 0,zI 2 0]) (.kp [1] (.seq (.reg [zI 3 1]) (.kp [1, 3] (.seq (.seq (.reg [zI 4 0]) (.kp [1, 3, 4] (.block 0 (.kp [1, 3, 4] (.loop c31_L4))))) (c31_k1))))) }
theorem A2r : (Ah Tryz.prog DI Tryz.f31).map (fun x => (x.nargs, x.nt, x.res, x.code)) = some (c31.nargs, c31.nt, c31.res, bare c31.code) := by kernel_rfl
def c26_k1 : ACode := .kp [] (.seq (.reg [zB 4 true]) (.ret))
def ND {Q e n H} := @An Tryz.prog _ _ c26_k1.eq_1 Q e n H
def c26_k2 : ACode := .kp [2, 3, 5] (.reg [zM 47 5,zE 48 .add 47 1,zM 5 48])
def Mj {Q e n H} := @An Tryz.prog _ _ c26_k2.eq_1 Q e n H
def c26_k3 : ACode := .kp [2, 3, 5] (.seq (.block 1 (.seq (.reg [zF 49 2 4,zL 50 49,zM 51 5,⟨some 52, .iaddr 5 (some 5) (.t 50) (.t 51), none⟩,zG 53 5 52,zF 54 3 4,zL 55 54,zM 56 5,⟨some 57, .iaddr 5 (some 5) (.t 55) (.t 56), none⟩,zG 58 5 57,zW 59 26 53 58,zN 60 59]) (.kp [2, 3, 5, 60] (.cond (.t 60) (.seq (.reg [zB 4 false]) (.ret)) (.skip))))) (c26_k2))
def Mk {Q e n H} := @An Tryz.prog _ _ c26_k3.eq_1 Q e n H
def c26_L4 : ACode := .ke [2, 3, 5] (.seq (.seq (.reg [zM 42 5,zF 43 2 4,zL 44 43,zY 45 44,zD 46 .lss 42 45]) (.kp [2, 3, 5, 46] (.cond (.t 46) (.skip) (.exit 0)))) (c26_k3))
def Mr {Q e n H} := @An Tryz.prog _ _ c26_L4.eq_1 Q e n H
def c26_k5 : ACode := .kp [2, 3] (.seq (.seq (.reg [zI 5 0]) (.kp [2, 3, 5] (.block 0 (.kp [2, 3, 5] (.loop c26_L4))))) (c26_k1))
def Ja {Q e n H} := @An Tryz.prog _ _ c26_k5.eq_1 Q e n H
def c26 : AFun := { nargs := 2, nt := 61, res := [.tmp 4], code := .seq (.reg [zH 2 25 5 0,zH 3 25 5 1,zB 4 false]) (.kp [2, 3] (.seq (.seq (.segs [⟨none, [zF 6 2 0,zL 7 6,zF 8 3 0,zL 9 8,zD 10 .neq 7 9,zM 11 10], none⟩,⟨some (11, false), [zF 12 2 1,zL 13 12,zF 14 3 1,zL 15 14,zD 16 .neq 13 15], some (17, 16)⟩,⟨none, [zM 18 17], none⟩,⟨some (18, false), [zF 19 2 2,zL 20 19,zF 21 3 2,zL 22 21,zD 23 .neq 20 22], some (24, 23)⟩,⟨none, [zM 25 24], none⟩,⟨some (25, false), [zF 26 2 3,zL 27 26,zF 28 3 3,zL 29 28,zW 30 22 27 29,zN 31 30], none⟩,⟨none, [zO 32 25 31,zM 33 32], none⟩,⟨some (33, false), [zF 34 2 4,zL 35 34,zY 36 35,zF 37 3 4,zL 38 37,zY 39 38,zD 40 .neq 36 39], some (41, 40)⟩]) (.kp [2, 3, 41] (.cond (.t 41) (.seq (.reg [zB 4 false]) (.ret)) (.skip)))) (c26_k5))) }
theorem A2q : (Ah Tryz.prog DI Tryz.f26).map (fun x => (x.nargs, x.nt, x.res, x.code)) = some (c26.nargs, c26.nt, c26.res, bare c26.code) := by kernel_rfl
theorem Ad {P : Program} {c d : ACode} (h : c = d) {Q : AExit → AS → Prop} {e : AT} {n : Nat} {H : A3} : aw P c Q ⟨e, n, H⟩ = aw P d Q ⟨e, n, H⟩ := by rw [h]
def c39 : AFun := { nargs := 0, nt := 23, res := [.tmp 0], code := .seq (.reg [⟨some 0, .mv (.c .nmp), none⟩]) (.kp [] (.seq (.reg [⟨some 1, .mkmap (some .i64), none⟩,⟨some 2, .build [(.str []), (.int .i64 0), (.bool false), (.bool false), (.int .i64 0), (.int .i64 0), (.bool false)] [(0, none, (.c (.str [118, 97, 108, 117, 101, 115]))), (6, none, (.c (.bool true)))], none⟩,⟨none, .mset (some .i64) (.t 1) (.c (.int .i64 1)) (.t 2), none⟩,⟨some 3, .build [(.str []), (.int .i64 0), (.bool false), (.bool false), (.int .i64 0), (.int .i64 0), (.bool false)] [(0, none, (.c (.str [114, 97, 110, 103, 101]))), (6, none, (.c (.bool true)))], none⟩,⟨none, .mset (some .i64) (.t 1) (.c (.int .i64 2)) (.t 3), none⟩,⟨some 4, .build [(.str []), (.int .i64 0), (.bool false), (.bool false), (.int .i64 0), (.int .i64 0), (.bool false)] [(0, none, (.c (.str [109, 97, 112]))), (1, none, (.c (.int .i64 1))), (2, none, (.c (.bool true)))], none⟩,⟨none, .mset (some .i64) (.t 1) (.c (.int .i64 3)) (.t 4), none⟩,⟨some 5, .build [(.str []), (.int .i64 0), (.bool false), (.bool false), (.int .i64 0), (.int .i64 0), (.bool false)] [(0, none, (.c (.str [102, 105, 108, 116, 101, 114]))), (1, none, (.c (.int .i64 1))), (3, none, (.c (.bool true)))], none⟩,⟨none, .mset (some .i64) (.t 1) (.c (.int .i64 4)) (.t 5), none⟩,⟨some 6, .build [(.int .i64 0), (.int .i64 0)] [(0, none, (.c (.int .i64 0))), (1, none, (.c (.int .i64 5000)))], none⟩,⟨some 7, .build [(.str []), (.int .i64 0), (.bool false), (.bool false), (.int .i64 0), (.int .i64 0), (.bool false)] [(0, none, (.c (.str [116, 97, 107, 101]))), (1, none, (.c (.int .i64 1))), (4, (some 2), (.t 6))], none⟩,⟨none, .mset (some .i64) (.t 1) (.c (.int .i64 5)) (.t 7), none⟩,⟨some 8, .build [(.int .i64 0), (.int .i64 0)] [(0, none, (.c (.int .i64 0))), (1, none, (.c (.int .i64 5000)))], none⟩,⟨some 9, .build [(.str []), (.int .i64 0), (.bool false), (.bool false), (.int .i64 0), (.int .i64 0), (.bool false)] [(0, none, (.c (.str [100, 114, 111, 112]))), (1, none, (.c (.int .i64 1))), (4, (some 2), (.t 8))], none⟩,⟨none, .mset (some .i64) (.t 1) (.c (.int .i64 6)) (.t 9), none⟩,⟨some 10, .build [(.str []), (.int .i64 0), (.bool false), (.bool false), (.int .i64 0), (.int .i64 0), (.bool false)] [(0, none, (.c (.str [119, 104, 105, 108, 101]))), (1, none, (.c (.int .i64 1))), (3, none, (.c (.bool true)))], none⟩,⟨none, .mset (some .i64) (.t 1) (.c (.int .i64 7)) (.t 10), none⟩,⟨some 11, .build [(.str []), (.int .i64 0), (.bool false), (.bool false), (.int .i64 0), (.int .i64 0), (.bool false)] [(0, none, (.c (.str [115, 107, 105, 112]))), (1, none, (.c (.int .i64 1))), (3, none, (.c (.bool true)))], none⟩,⟨none, .mset (some .i64) (.t 1) (.c (.int .i64 8)) (.t 11), none⟩,⟨some 12, .build [(.str []), (.int .i64 0), (.bool false), (.bool false), (.int .i64 0), (.int .i64 0), (.bool false)] [(0, none, (.c (.str [115, 99, 97, 110]))), (1, none, (.c (.int .i64 1))), (2, none, (.c (.bool true)))], none⟩,⟨none, .mset (some .i64) (.t 1) (.c (.int .i64 9)) (.t 12), none⟩,⟨some 13, .build [(.int .i64 0), (.int .i64 0)] [(0, none, (.c (.int .i64 1))), (1, none, (.c (.int .i64 8)))], none⟩,⟨some 14, .build [(.str []), (.int .i64 0), (.bool false), (.bool false), (.int .i64 0), (.int .i64 0), (.bool false)] [(0, none, (.c (.str [119, 105, 110, 100, 111, 119]))), (1, none, (.c (.int .i64 1))), (2, none, (.c (.bool true))), (4, (some 2), (.t 13))], none⟩,⟨none, .mset (some .i64) (.t 1) (.c (.int .i64 10)) (.t 14), none⟩,⟨some 15, .build [(.str []), (.int .i64 0), (.bool false), (.bool false), (.int .i64 0), (.int .i64 0), (.bool false)] [(0, none, (.c (.str [114, 117, 110, 115]))), (1, none, (.c (.int .i64 1)))], none⟩,⟨none, .mset (some .i64) (.t 1) (.c (.int .i64 11)) (.t 15), none⟩,⟨some 16, .build [(.int .i64 0), (.int .i64 0)] [(0, none, (.c (.int .i64 0))), (1, none, (.c (.int .i64 20)))], none⟩,⟨some 17, .build [(.str []), (.int .i64 0), (.bool false), (.bool false), (.int .i64 0), (.int .i64 0), (.bool false)] [(0, none, (.c (.str [114, 101, 112, 101, 97, 116]))), (1, none, (.c (.int .i64 1))), (4, (some 2), (.t 16))], none⟩,⟨none, .mset (some .i64) (.t 1) (.c (.int .i64 12)) (.t 17), none⟩,⟨some 18, .build [(.str []), (.int .i64 0), (.bool false), (.bool false), (.int .i64 0), (.int .i64 0), (.bool false)] [(0, none, (.c (.str [99, 104, 97, 105, 110]))), (1, none, (.c (.int .i64 (-1))))], none⟩,⟨none, .mset (some .i64) (.t 1) (.c (.int .i64 13)) (.t 18), none⟩,⟨some 19, .build [(.str []), (.int .i64 0), (.bool false), (.bool false), (.int .i64 0), (.int .i64 0), (.bool false)] [(0, none, (.c (.str [116, 117, 114, 110, 115]))), (1, none, (.c (.int .i64 (-1))))], none⟩,⟨none, .mset (some .i64) (.t 1) (.c (.int .i64 14)) (.t 19), none⟩,⟨some 20, .build [(.str []), (.int .i64 0), (.bool false), (.bool false), (.int .i64 0), (.int .i64 0), (.bool false)] [(0, none, (.c (.str [122, 105, 112]))), (1, none, (.c (.int .i64 2))), (2, none, (.c (.bool true)))], none⟩,⟨none, .mset (some .i64) (.t 1) (.c (.int .i64 15)) (.t 20), none⟩,⟨some 21, .build [(.str []), (.int .i64 0), (.bool false), (.bool false), (.int .i64 0), (.int .i64 0), (.bool false)] [(0, none, (.c (.str [109, 101, 114, 103, 101]))), (1, none, (.c (.int .i64 2)))], none⟩,⟨none, .mset (some .i64) (.t 1) (.c (.int .i64 16)) (.t 21), none⟩,zM 22 1,zM 0 22]) (.ret))) }
theorem A2j : (Ah Tryz.prog DI Tryz.f39).map (fun x => (x.nargs, x.nt, x.res, x.code)) = some (c39.nargs, c39.nt, c39.res, bare c39.code) := by kernel_rfl
def c40_k1 : ACode := .kp [4] (.seq (.reg [⟨some 46, .build [(.int .i64 0), (.int .i64 0)] [], none⟩,zS 2 4 46]) (.ret))
def KN {Q e n H} := @Ad Tryz.prog _ _ c40_k1.eq_1 Q e n H
def c40_k2 : ACode := .kp [0, 4, 32, 33, 34] (.reg [zE 45 .add 34 1,zM 34 45])
def K9 {Q e n H} := @Ad Tryz.prog _ _ c40_k2.eq_1 Q e n H
def c40_k3 : ACode := .kp [0, 4, 32, 33, 34] (.seq (.block 1 (.seq (.reg [⟨some 36, .iaddr 5 (some 5) (.t 32) (.t 34), none⟩,zG 37 5 36,⟨some 8, .alloc 25 [(.int .i64 0), (.int .i64 0), (.int .i64 0), (.sl 0 [] .nil), (.sl 0 [] .nil)], none⟩,zS 5 8 37]) (.kp [0, 4, 8, 32, 33, 34] (.seq (.reg [zM 38 0,zG 39 5 8,⟨some 40, .call 40 [(.t 38), (.t 39)], none⟩,⟨some 9, .alloc 27 [(.int .i64 0), (.int .i64 0)], none⟩,zS 2 9 40]) (.kp [0, 4, 9, 32, 33, 34] (.seq (.reg [zF 41 9 0,zL 42 41,zE 43 .neq 42 0]) (.kp [0, 4, 9, 32, 33, 34, 43] (.cond (.t 43) (.seq (.reg [zG 44 2 9,zS 2 4 44]) (.ret)) (.skip))))))))) (c40_k2))
def Hu {Q e n H} := @Ad Tryz.prog _ _ c40_k3.eq_1 Q e n H
def c40_L4 : ACode := .ke [0, 4, 32, 33, 34] (.seq (.reg [zD 35 .lss 34 33]) (.kp [0, 4, 32, 33, 34, 35] (.seq (.cond (.t 35) (.skip) (.exit 0)) (c40_k3))))
def Fy {Q e n H} := @Ad Tryz.prog _ _ c40_L4.eq_1 Q e n H
def c40_k5 : ACode := .kp [0, 3, 4] (.seq (.seq (.reg [zF 31 3 4,zL 32 31,zY 33 32,zI 34 0]) (.kp [0, 4, 32, 33, 34] (.block 0 (.kp [0, 4, 32, 33, 34] (.loop c40_L4))))) (c40_k1))
def Jv {Q e n H} := @Ad Tryz.prog _ _ c40_k5.eq_1 Q e n H
def c40_k6 : ACode := .kp [0, 3, 4, 5, 6] (.seq (.seq (.reg [zM 26 6,zE 27 .neq 26 0]) (.kp [0, 3, 4, 5, 6, 27] (.cond (.t 27) (.seq (.reg [zM 28 6,zM 29 5,⟨some 30, .build [(.int .i64 0), (.int .i64 0)] [(0, none, (.t 28)), (1, none, (.t 29))], none⟩,zS 2 4 30]) (.ret)) (.skip)))) (c40_k5))
def Jc {Q e n H} := @Ad Tryz.prog _ _ c40_k6.eq_1 Q e n H
def c40 : AFun := { nargs := 2, nt := 47, res := [.cell 4 (some 2)], code := .seq (.reg [zH 3 25 5 1,⟨some 4, .alloc 27 [(.int .i64 0), (.int .i64 0)], none⟩]) (.kp [0, 3, 4] (.seq (.reg [zM 10 0,zZ 11 10,zF 12 11 1,zL 13 12,zM 5 13]) (.kp [0, 3, 4, 5] (.seq (.reg [zM 14 0,zZ 15 14,zF 16 15 1,zL 17 16,zE 18 .add 17 1,zZ 19 14,zF 20 19 1,zU 20 18]) (.kp [0, 3, 4, 5] (.seq (.reg [zI 6 2]) (.kp [0, 3, 4, 5, 6] (.seq (.seq (.reg [zM 21 5,zE 22 .lss 21 60]) (.kp [0, 3, 4, 5, 6, 22] (.cond (.t 22) (.reg [zM 23 0,zG 24 5 3,⟨some 25, .call 69 [(.t 23), (.t 24)], none⟩,zM 6 25]) (.skip)))) (c40_k6))))))))) }
theorem A2o : (Ah Tryz.prog DI Tryz.f40).map (fun x => (x.nargs, x.nt, x.res, x.code)) = some (c40.nargs, c40.nt, c40.res, bare c40.code) := by kernel_rfl
def c69_k1 : ACode := .kp [] (.seq (.reg [zI 4 0]) (.ret))
def Jg {Q e n H} := @Ad Tryz.prog _ _ c69_k1.eq_1 Q e n H
def c69_k2 : ACode := .kp [3, 5, 7] (.seq (.seq (.segs [⟨none, [zG 106 5 3,zG 107 7 5,zW 108 93 106 107,zN 109 108,zM 110 109], none⟩,⟨some (110, false), [zM 111 7,zM 112 111], none⟩,⟨some (112, true), [zG 113 5 3,zG 114 7 5,zW 115 94 113 114,zN 116 115], none⟩,⟨some (110, false), [zP 117 112 116], some (118, 117)⟩,⟨none, [zM 119 118], none⟩,⟨some (119, false), [zG 120 5 3,zV 121 95 120,zN 122 121], none⟩,⟨none, [zO 123 119 122], none⟩]) (.kp [123] (.cond (.t 123) (.seq (.reg [zI 4 4]) (.ret)) (.skip)))) (c69_k1))
def JY {Q e n H} := @Ad Tryz.prog _ _ c69_k2.eq_1 Q e n H
def c69_e3 : ACode := .kp [3, 5, 7] (.seq (.segs [⟨none, [zF 73 5 2,zL 74 73,zN 75 74,zM 76 75], none⟩,⟨some (76, true), [zF 77 5 3,zL 78 77,zN 79 78], some (80, 79)⟩,⟨none, [zM 81 80], none⟩,⟨some (81, true), [zF 82 3 1,zL 83 82,zE 84 .neq 83 0], some (85, 84)⟩,⟨none, [zM 86 85], none⟩,⟨some (86, false), [zM 87 7,zN 88 87,zM 89 88], none⟩,⟨some (89, true), [zF 90 3 2,zL 91 90,zE 92 .neq 91 0], none⟩,⟨some (86, false), [zP 93 89 92], some (94, 93)⟩,⟨none, [zM 95 94], none⟩,⟨some (95, false), [zF 96 5 6,zL 97 96,zN 98 97,zM 99 98], none⟩,⟨some (99, true), [zF 100 3 3,zL 101 100,zY 102 101,zE 103 .gtr 102 0], none⟩,⟨some (95, false), [zP 104 99 103], some (105, 104)⟩,⟨none, [zM 72 105], none⟩]) (.kp [3, 5, 7, 72] (.cond (.t 72) (.seq (.reg [zI 4 6]) (.ret)) (.skip))))
def KP {Q e n H} := @Ad Tryz.prog _ _ c69_e3.eq_1 Q e n H
def c69_e4 : ACode := .kp [3, 5, 7] (.seq (.segs [⟨none, [zF 39 5 1,zL 40 39,zE 41 .geq 40 0,zM 42 41], none⟩,⟨some (42, true), [zF 43 3 4,zL 44 43,zY 45 44,zF 46 5 1,zL 47 46,zD 48 .neq 45 47], some (49, 48)⟩,⟨none, [zM 50 49], none⟩,⟨some (50, false), [zF 51 5 1,zL 52 51,zE 53 .lss 52 0,zM 54 53], none⟩,⟨some (54, true), [zF 55 3 4,zL 56 55,zY 57 56,zE 58 .eql 57 0], none⟩,⟨some (50, false), [zP 59 54 58], some (60, 59)⟩,⟨none, [zM 61 60], none⟩,⟨some (61, false), [zF 62 3 0,zL 63 62,zE 64 .eql 63 2,zM 65 64], none⟩,⟨some (65, true), [zF 66 3 3,zL 67 66,zY 68 67,zE 69 .neq 68 3], none⟩,⟨some (61, false), [zP 70 65 69], some (71, 70)⟩,⟨none, [zM 38 71], none⟩]) (.kp [3, 5, 7, 38] (.cond (.t 38) (.seq (.reg [zI 4 9]) (.ret)) (c69_e3))))
def Jr {Q e n H} := @Ad Tryz.prog _ _ c69_e4.eq_1 Q e n H
def c69 : AFun := { nargs := 2, nt := 124, res := [.tmp 4], code := .seq (.reg [zH 3 25 5 1,zI 4 0]) (.kp [0, 3] (.seq (.regD .plain [] [zM 9 0,zZ 10 9,zF 11 10 0,zL 12 11,zF 13 3 0,zL 14 13,⟨some 15, .mget (some .i64) (.agg [(.str []), (.int .i64 0), (.bool false), (.bool false), (.int .i64 0), (.int .i64 0), (.bool false)]) true (.t 12) (.t 14), none⟩,zM 8 15,zX 16 8 0,zX 17 8 1,⟨some 5, .alloc 101 [(.str []), (.int .i64 0), (.bool false), (.bool false), (.int .i64 0), (.int .i64 0), (.bool false)], none⟩,zS 7 5 16,zM 6 17]) (.kp [3, 5, 6] (.seq (.segs [⟨none, [zF 18 3 0,zL 19 18,zE 20 .neq 19 15,zM 21 20], none⟩,⟨some (21, true), [zF 22 5 2,zL 23 22,zM 24 23], none⟩,⟨some (24, false), [zF 25 5 3,zL 26 25], none⟩,⟨some (21, true), [zO 27 24 26,zM 28 27], none⟩,⟨some (28, false), [⟨some 29, .faddr (.t 5) 4 (some 2), none⟩,⟨some 30, .aaddr 2 1 none (.t 29) (.c (.int .i64 1)), none⟩,zL 31 30,zE 32 .gtr 31 0], none⟩,⟨some (21, true), [zO 33 28 32], some (34, 33)⟩,⟨none, [zM 7 34], none⟩]) (.kp [3, 5, 6, 7] (.seq (.block 0 (.seq (.reg [zM 36 6,zN 37 36,zM 35 37]) (.kp [3, 5, 7, 35] (.cond (.t 35) (.seq (.reg [zI 4 5]) (.ret)) (c69_e4))))) (c69_k2))))))) }
theorem WY : (Ah Tryz.prog DI Tryz.f69).map (fun x => (x.nargs, x.nt, x.res, x.code)) = some (c69.nargs, c69.nt, c69.res, bare c69.code) := by kernel_rfl
def c37_k1 : ACode := .kp [7] (.seq (.reg [zM 44 7,zM 4 44,zI 5 0]) (.ret))
def Hq {Q e n H} := @Ad Tryz.prog _ _ c37_k1.eq_1 Q e n H
def c37_k2 : ACode := .kp [2, 7, 8] (.reg [zM 27 8,zE 28 .add 27 1,zM 8 28])
def HX {Q e n H} := @Ad Tryz.prog _ _ c37_k2.eq_1 Q e n H
def c37_k3 : ACode := .kp [2, 8, 9] (.reg [zM 43 9,zM 7 43])
def Hp {Q e n H} := @Ad Tryz.prog _ _ c37_k3.eq_1 Q e n H
def c37_k4 : ACode := .kp [2, 7, 8] (.seq (.block 1 (.seq (.reg [zF 30 2 4,zL 31 30,zM 32 8,⟨some 33, .iaddr 5 (some 5) (.t 31) (.t 32), none⟩,zG 34 5 33,zM 35 7,zW 36 37 34 35,zM 29 36,zX 37 29 0,zX 38 29 1,zM 9 37,zM 10 38]) (.kp [2, 8, 9, 10] (.seq (.seq (.reg [zM 39 10,zE 40 .neq 39 0]) (.kp [2, 8, 9, 10, 40] (.cond (.t 40) (.seq (.reg [zM 41 9,zM 42 10,zM 4 41,zM 5 42]) (.ret)) (.skip)))) (c37_k3))))) (c37_k2))
def HW {Q e n H} := @Ad Tryz.prog _ _ c37_k4.eq_1 Q e n H
def c37_L5 : ACode := .ke [2, 7, 8] (.seq (.seq (.reg [zM 22 8,zF 23 2 4,zL 24 23,zY 25 24,zD 26 .lss 22 25]) (.kp [2, 7, 8, 26] (.cond (.t 26) (.skip) (.exit 0)))) (c37_k4))
def Hc {Q e n H} := @Ad Tryz.prog _ _ c37_L5.eq_1 Q e n H
def c37_k6 : ACode := .kp [1, 2] (.seq (.reg [zM 20 1,zE 21 .add 20 1,zM 7 21]) (.kp [2, 7] (.seq (.seq (.reg [zI 8 0]) (.kp [2, 7, 8] (.block 0 (.kp [2, 7, 8] (.loop c37_L5))))) (c37_k1))))
def Fx {Q e n H} := @Ad Tryz.prog _ _ c37_k6.eq_1 Q e n H
def c37_k7 : ACode := .kp [1, 2] (.seq (.seq (.reg [zG 14 5 2,zV 15 68 14,zM 6 15]) (.kp [1, 2, 6] (.seq (.reg [zM 16 6,zE 17 .neq 16 0]) (.kp [1, 2, 6, 17] (.cond (.t 17) (.seq (.reg [zM 18 1,zM 19 6,zM 4 18,zM 5 19]) (.ret)) (.skip)))))) (c37_k6))
def Fw {Q e n H} := @Ad Tryz.prog _ _ c37_k7.eq_1 Q e n H
def c37 : AFun := { nargs := 2, nt := 45, res := [.tmp 4, .tmp 5], code := .seq (.reg [zH 2 25 5 0,zI 4 0,zI 5 0]) (.kp [1, 2] (.seq (.seq (.reg [zM 11 1,zE 12 .geq 11 60]) (.kp [1, 2, 12] (.cond (.t 12) (.seq (.reg [zM 13 1,zM 4 13,zI 5 2]) (.ret)) (.skip)))) (c37_k7))) }
theorem A20 : (Ah Tryz.prog DI Tryz.f37).map (fun x => (x.nargs, x.nt, x.res, x.code)) = some (c37.nargs, c37.nt, c37.res, bare c37.code) := by kernel_rfl
def c38_k1 : ACode := .kp [6, 7] (.seq (.reg [zM 38 7,zM 39 6,zM 4 38,zM 5 39]) (.ret))
def Jm {Q e n H} := @Ad Tryz.prog _ _ c38_k1.eq_1 Q e n H
def c38_k2 : ACode := .kp [2, 6, 7, 8] (.reg [zM 22 8,zE 23 .add 22 1,zM 8 23])
def JZ {Q e n H} := @Ad Tryz.prog _ _ c38_k2.eq_1 Q e n H
def c38_k3 : ACode := .kp [2, 6, 8, 9] (.reg [zM 37 9,zM 7 37])
def K5 {Q e n H} := @Ad Tryz.prog _ _ c38_k3.eq_1 Q e n H
def c38_k4 : ACode := .kp [2, 6, 7, 8] (.seq (.block 1 (.seq (.reg [zF 25 2 4,zL 26 25,zM 27 8,⟨some 28, .iaddr 5 (some 5) (.t 26) (.t 27), none⟩,zG 29 5 28,zM 30 7,zW 31 38 29 30,zM 24 31,zX 32 24 0,zX 33 24 1,zM 9 32,zM 10 33]) (.kp [2, 6, 8, 9, 10] (.seq (.seq (.reg [zM 34 6,zE 35 .lss 34 0]) (.kp [2, 6, 8, 9, 10, 35] (.cond (.t 35) (.reg [zM 36 10,zM 6 36]) (.skip)))) (c38_k3))))) (c38_k2))
def KK {Q e n H} := @Ad Tryz.prog _ _ c38_k4.eq_1 Q e n H
def c38_L5 : ACode := .ke [2, 6, 7, 8] (.seq (.seq (.reg [zM 17 8,zF 18 2 4,zL 19 18,zY 20 19,zD 21 .lss 17 20]) (.kp [2, 6, 7, 8, 21] (.cond (.t 21) (.skip) (.exit 0)))) (c38_k4))
def KU {Q e n H} := @Ad Tryz.prog _ _ c38_L5.eq_1 Q e n H
def c38_k6 : ACode := .kp [1, 2, 6] (.seq (.reg [zM 15 1,zE 16 .add 15 1,zM 7 16]) (.kp [2, 6, 7] (.seq (.seq (.reg [zI 8 0]) (.kp [2, 6, 7, 8] (.block 0 (.kp [2, 6, 7, 8] (.loop c38_L5))))) (c38_k1))))
def GE {Q e n H} := @Ad Tryz.prog _ _ c38_k6.eq_1 Q e n H
def c38 : AFun := { nargs := 2, nt := 40, res := [.tmp 4, .tmp 5], code := .seq (.reg [zH 2 25 5 0,zI 4 0,zI 5 0]) (.kp [1, 2] (.seq (.reg [zI 6 (-1)]) (.kp [1, 2, 6] (.seq (.seq (.reg [zG 11 5 2,zV 12 17 11,zE 13 .gtr 12 5000]) (.kp [1, 2, 6, 13] (.cond (.t 13) (.reg [zM 14 1,zM 6 14]) (.skip)))) (c38_k6))))) }
theorem A27 : (Ah Tryz.prog DI Tryz.f38).map (fun x => (x.nargs, x.nt, x.res, x.code)) = some (c38.nargs, c38.nt, c38.res, bare c38.code) := by kernel_rfl
def c17_k1 : ACode := .kp [3] (.seq (.reg [zM 86 3,zM 2 86]) (.ret))
def BY {Q e n H} := @Ad Tryz.prog _ _ c17_k1.eq_1 Q e n H
def c17_k2 : ACode := .kp [3] (.seq (.seq (.reg [zM 84 3,zE 85 .gtr 84 100000]) (.kp [3, 85] (.cond (.t 85) (.seq (.reg [zI 2 100000]) (.ret)) (.skip)))) (c17_k1))
def BZ {Q e n H} := @Ad Tryz.prog _ _ c17_k2.eq_1 Q e n H
def c17_k3 : ACode := .kp [1, 3, 4] (.reg [zM 26 4,zF 27 1 3,zL 28 27,⟨some 29, .iaddr 1 none (.t 28) (.c (.int .i64 2)), none⟩,zL 30 29,zD 31 .add 26 30,zM 4 31])
def Bg {Q e n H} := @Ad Tryz.prog _ _ c17_k3.eq_1 Q e n H
def c17_k4 : ACode := .kp [1, 3, 4] (.seq (.block 1 (.reg [zM 32 3,zE 33 .add 32 1,zM 3 33])) (c17_k3))
def BX {Q e n H} := @Ad Tryz.prog _ _ c17_k4.eq_1 Q e n H
def c17_L5 : ACode := .ke [1, 3, 4] (.seq (.seq (.reg [zM 20 4,zF 21 1 3,zL 22 21,⟨some 23, .iaddr 1 none (.t 22) (.c (.int .i64 1)), none⟩,zL 24 23,zD 25 .lss 20 24]) (.kp [1, 3, 4, 25] (.cond (.t 25) (.skip) (.exit 0)))) (c17_k4))
def Bb {Q e n H} := @Ad Tryz.prog _ _ c17_L5.eq_1 Q e n H
def c17_k6 : ACode := .kp [1, 3] (.seq (.segs [⟨none, [zF 73 1 0,zL 74 73,zE 75 .eql 74 5,zM 76 75], none⟩,⟨some (76, true), [zF 77 1 2,zL 78 77,zM 79 3,zD 80 .lss 78 79], some (81, 80)⟩]) (.kp [1, 3, 81] (.cond (.t 81) (.reg [zF 82 1 2,zL 83 82,zM 3 83]) (.skip))))
def Bc {Q e n H} := @Ad Tryz.prog _ _ c17_k6.eq_1 Q e n H
def c17_k7 : ACode := .kp [1, 3] (.seq (.seq (.reg [zF 66 1 0,zL 67 66,zE 68 .eql 67 12]) (.kp [1, 3, 68] (.cond (.t 68) (.reg [zM 69 3,zF 70 1 2,zL 71 70,zD 72 .mul 69 71,zM 3 72]) (.skip)))) (c17_k6))
def Bi {Q e n H} := @Ad Tryz.prog _ _ c17_k7.eq_1 Q e n H
def c17_k8 : ACode := .kp [1, 3, 6] (.reg [zM 56 6,zE 57 .add 56 1,zM 6 57])
def Be {Q e n H} := @Ad Tryz.prog _ _ c17_k8.eq_1 Q e n H
def c17_k9 : ACode := .kp [1, 3, 6] (.seq (.block 3 (.reg [zM 58 3,zF 59 1 4,zL 60 59,zM 61 6,⟨some 62, .iaddr 5 (some 5) (.t 60) (.t 61), none⟩,zG 63 5 62,zV 64 17 63,zD 65 .add 58 64,zM 3 65])) (c17_k8))
def Bk {Q e n H} := @Ad Tryz.prog _ _ c17_k9.eq_1 Q e n H
def c17_L10 : ACode := .ke [1, 3, 6] (.seq (.seq (.reg [zM 51 6,zF 52 1 4,zL 53 52,zY 54 53,zD 55 .lss 51 54]) (.kp [1, 3, 6, 55] (.cond (.t 55) (.skip) (.exit 2)))) (c17_k9))
def BA {Q e n H} := @Ad Tryz.prog _ _ c17_L10.eq_1 Q e n H
def c17_t11 : ACode := .kp [1] (.seq (.reg [zF 37 1 4,zL 38 37,⟨some 39, .iaddr 5 (some 5) (.t 38) (.c (.int .i64 0)), none⟩,zG 40 5 39,zV 41 17 40,zM 3 41]) (.kp [1, 3] (.seq (.reg [zF 42 1 4,zL 43 42,⟨some 44, .iaddr 5 (some 5) (.t 43) (.c (.int .i64 1)), none⟩,zG 45 5 44,zV 46 17 45,zM 5 46]) (.kp [3, 5] (.seq (.reg [zM 47 5,zM 48 3,zD 49 .lss 47 48]) (.kp [3, 5, 49] (.cond (.t 49) (.reg [zM 50 5,zM 3 50]) (.skip))))))))
def B9 {Q e n H} := @Ad Tryz.prog _ _ c17_t11.eq_1 Q e n H
def c17_e12 : ACode := .kp [1, 3] (.seq (.seq (.reg [zI 6 0]) (.kp [1, 3, 6] (.block 2 (.kp [1, 3, 6] (.loop c17_L10))))) (c17_k7))
def B6 {Q e n H} := @Ad Tryz.prog _ _ c17_e12.eq_1 Q e n H
def c17_t13 : ACode := .kp [1, 3] (.seq (.reg [zF 16 1 3,zL 17 16,⟨some 18, .iaddr 1 none (.t 17) (.c (.int .i64 0)), none⟩,zL 19 18,zM 4 19]) (.kp [1, 3, 4] (.block 0 (.kp [1, 3, 4] (.loop c17_L5)))))
def BB {Q e n H} := @Ad Tryz.prog _ _ c17_t13.eq_1 Q e n H
def c17_e14 : ACode := .kp [1, 3] (.seq (.reg [zF 34 1 0,zL 35 34,zE 36 .eql 35 15]) (.kp [1, 3, 36] (.cond (.t 36) (c17_t11) (c17_e12))))
def B8 {Q e n H} := @Ad Tryz.prog _ _ c17_e14.eq_1 Q e n H
def c17_e15 : ACode := .kp [1, 3] (.seq (.reg [zF 13 1 0,zL 14 13,zE 15 .eql 14 2]) (.kp [1, 3, 15] (.cond (.t 15) (c17_t13) (c17_e14))))
def BC {Q e n H} := @Ad Tryz.prog _ _ c17_e15.eq_1 Q e n H
def c17 : AFun := { nargs := 1, nt := 87, res := [.tmp 2], code := .seq (.reg [zH 1 25 5 0,zI 2 0]) (.kp [1] (.seq (.reg [zI 3 0]) (.kp [1, 3] (.seq (.seq (.reg [zF 7 1 0,zL 8 7,zE 9 .eql 8 1]) (.kp [1, 3, 9] (.cond (.t 9) (.reg [zF 10 1 3,zL 11 10,zY 12 11,zM 3 12]) (c17_e15)))) (c17_k2))))) }
theorem Md : (Ah Tryz.prog DI Tryz.f17).map (fun x => (x.nargs, x.nt, x.res, x.code)) = some (c17.nargs, c17.nt, c17.res, bare c17.code) := by kernel_rfl
def c14_k1 : ACode := .kp [2] (.seq (.reg [⟨some 26, .callp 20 [(.c (.int .i64 0)), (.c (.int .i64 0))], none⟩,zS 2 2 26]) (.ret))
def Jy {Q e n H} := @Ad Tryz.prog _ _ c14_k1.eq_1 Q e n H
def c14_k2 : ACode := .kp [1, 2] (.seq (.reg [zG 18 5 1,⟨some 19, .callp 38 [(.t 18), (.c (.int .i64 0))], none⟩,zM 17 19,zX 20 17 0,zX 21 17 1,zM 5 20,zM 6 21]) (.kp [2, 6] (.seq (.seq (.reg [zM 22 6,zE 23 .geq 22 0]) (.kp [2, 6, 23] (.cond (.t 23) (.seq (.reg [zM 24 6,⟨some 25, .callp 20 [(.c (.int .i64 14)), (.t 24)], none⟩,zS 2 2 25]) (.ret)) (.skip)))) (c14_k1))))
def Jz {Q e n H} := @Ad Tryz.prog _ _ c14_k2.eq_1 Q e n H
def c14 : AFun := { nargs := 1, nt := 27, res := [.cell 2 (some 2)], code := .seq (.reg [zH 1 25 5 0,⟨some 2, .alloc 27 [(.int .i64 0), (.int .i64 0)], none⟩]) (.kp [1, 2] (.seq (.reg [zG 8 5 1,⟨some 9, .callp 37 [(.t 8), (.c (.int .i64 0))], none⟩,zM 7 9,zX 10 7 0,zX 11 7 1,zM 3 10,zM 4 11]) (.kp [1, 2, 3, 4] (.seq (.seq (.reg [zM 12 4,zE 13 .neq 12 0]) (.kp [1, 2, 3, 4, 13] (.cond (.t 13) (.seq (.reg [zM 14 4,zM 15 3,zW 16 20 14 15,zS 2 2 16]) (.ret)) (.skip)))) (c14_k2))))) }
theorem A22 : (Ah Tryz.prog DI Tryz.f14).map (fun x => (x.nargs, x.nt, x.res, x.code)) = some (c14.nargs, c14.nt, c14.res, bare c14.code) := by kernel_rfl
def c36_k1 : ACode := .kp [3] (.seq (.reg [zM 81 3,zM 2 81]) (.ret))
def Dt {Q e n H} := @Ad Tryz.prog _ _ c36_k1.eq_1 Q e n H
def c36_k2 : ACode := .kp [3, 70, 71, 72] (.reg [zE 80 .add 72 1,zM 72 80])
def Dy {Q e n H} := @Ad Tryz.prog _ _ c36_k2.eq_1 Q e n H
def c36_k3 : ACode := .kp [3, 70, 71, 72] (.seq (.block 2 (.seq (.reg [⟨some 74, .iaddr 5 (some 5) (.t 70) (.t 72), none⟩,zG 75 5 74,⟨some 5, .alloc 25 [(.int .i64 0), (.int .i64 0), (.int .i64 0), (.sl 0 [] .nil), (.sl 0 [] .nil)], none⟩,zS 5 5 75]) (.kp [3, 5, 70, 71, 72] (.reg [zM 76 3,zG 77 5 5,zV 78 36 77,zD 79 .add 76 78,zM 3 79])))) (c36_k2))
def Dm {Q e n H} := @Ad Tryz.prog _ _ c36_k3.eq_1 Q e n H
def c36_L4 : ACode := .ke [3, 70, 71, 72] (.seq (.reg [zD 73 .lss 72 71]) (.kp [3, 70, 71, 72, 73] (.seq (.cond (.t 73) (.skip) (.exit 1)) (c36_k3))))
def Ds {Q e n H} := @Ad Tryz.prog _ _ c36_L4.eq_1 Q e n H
def c36_k5 : ACode := .kp [1] (.seq (.reg [zI 3 0]) (.kp [1, 3] (.seq (.seq (.reg [zF 69 1 4,zL 70 69,zY 71 70,zI 72 0]) (.kp [3, 70, 71, 72] (.block 1 (.kp [3, 70, 71, 72] (.loop c36_L4))))) (c36_k1))))
def Dk {Q e n H} := @Ad Tryz.prog _ _ c36_k5.eq_1 Q e n H
def c36_e6 : ACode := .kp [1, 7] (.seq (.reg [zE 57 .eql 7 15,zM 56 57]) (.kp [1, 56] (.cond (.t 56) (.seq (.reg [zF 58 1 4,zL 59 58,⟨some 60, .iaddr 5 (some 5) (.t 59) (.c (.int .i64 0)), none⟩,zG 61 5 60,zV 62 36 61,zF 63 1 4,zL 64 63,⟨some 65, .iaddr 5 (some 5) (.t 64) (.c (.int .i64 1)), none⟩,zG 66 5 65,zV 67 36 66,⟨some 68, .mm false (.t 62) (.t 67), none⟩,zM 2 68]) (.ret)) (.skip))))
def E5 {Q e n H} := @Ad Tryz.prog _ _ c36_e6.eq_1 Q e n H
def c36_e7 : ACode := .kp [1, 7] (.seq (.reg [zE 47 .eql 7 12,zM 46 47]) (.kp [1, 7, 46] (.cond (.t 46) (.seq (.reg [zF 48 1 2,zL 49 48,zF 50 1 4,zL 51 50,⟨some 52, .iaddr 5 (some 5) (.t 51) (.c (.int .i64 0)), none⟩,zG 53 5 52,zV 54 36 53,zD 55 .mul 49 54,zM 2 55]) (.ret)) (c36_e6))))
def Dx {Q e n H} := @Ad Tryz.prog _ _ c36_e7.eq_1 Q e n H
def c36_e8 : ACode := .kp [1, 7] (.seq (.reg [zE 37 .eql 7 5,zM 36 37]) (.kp [1, 7, 36] (.cond (.t 36) (.seq (.reg [zF 38 1 2,zL 39 38,zF 40 1 4,zL 41 40,⟨some 42, .iaddr 5 (some 5) (.t 41) (.c (.int .i64 0)), none⟩,zG 43 5 42,zV 44 36 43,⟨some 45, .mm false (.t 39) (.t 44), none⟩,zM 2 45]) (.ret)) (c36_e7))))
def Dj {Q e n H} := @Ad Tryz.prog _ _ c36_e8.eq_1 Q e n H
def c36_e9 : ACode := .kp [1, 7] (.seq (.reg [zE 14 .eql 7 2,zM 13 14]) (.kp [1, 7, 13] (.cond (.t 13) (.seq (.reg [zF 15 1 3,zL 16 15,⟨some 17, .iaddr 1 none (.t 16) (.c (.int .i64 1)), none⟩,zL 18 17,zF 19 1 3,zL 20 19,⟨some 21, .iaddr 1 none (.t 20) (.c (.int .i64 0)), none⟩,zL 22 21,zD 23 .sub 18 22,zF 24 1 3,zL 25 24,⟨some 26, .iaddr 1 none (.t 25) (.c (.int .i64 2)), none⟩,zL 27 26,zD 28 .add 23 27,zE 29 .sub 28 1,zF 30 1 3,zL 31 30,⟨some 32, .iaddr 1 none (.t 31) (.c (.int .i64 2)), none⟩,zL 33 32,zD 34 .quo 29 33,⟨some 35, .mm true (.c (.int .i64 0)) (.t 34), none⟩,zM 2 35]) (.ret)) (c36_e8))))
def Dq {Q e n H} := @Ad Tryz.prog _ _ c36_e9.eq_1 Q e n H
def c36 : AFun := { nargs := 1, nt := 82, res := [.tmp 2], code := .seq (.reg [zH 1 25 5 0,zI 2 0]) (.kp [1] (.seq (.seq (.reg [zF 6 1 0,zL 7 6]) (.kp [1, 7] (.block 0 (.seq (.reg [zE 9 .eql 7 1,zM 8 9]) (.kp [1, 7, 8] (.cond (.t 8) (.seq (.reg [zF 10 1 3,zL 11 10,zY 12 11,zM 2 12]) (.ret)) (c36_e9))))))) (c36_k5))) }
theorem NC : (Ah Tryz.prog DI Tryz.f36).map (fun x => (x.nargs, x.nt, x.res, x.code)) = some (c36.nargs, c36.nt, c36.res, bare c36.code) := by kernel_rfl
def c70_k1 : ACode := .kp [3] (.seq (.reg [zM 58 3,⟨some 59, .mm false (.t 58) (.c (.int .i64 5001)), none⟩,zM 2 59]) (.ret))
def E4 {Q e n H} := @Ad Tryz.prog _ _ c70_k1.eq_1 Q e n H
def c70_k2 : ACode := .kp [3, 9, 10, 11] (.reg [zE 19 .add 11 1,zM 11 19])
def E7 {Q e n H} := @Ad Tryz.prog _ _ c70_k2.eq_1 Q e n H
def c70_k3 : ACode := .kp [3, 9, 10, 11] (.seq (.block 2 (.seq (.reg [⟨some 13, .iaddr 5 (some 5) (.t 9) (.t 11), none⟩,zG 14 5 13,⟨some 5, .alloc 25 [(.int .i64 0), (.int .i64 0), (.int .i64 0), (.sl 0 [] .nil), (.sl 0 [] .nil)], none⟩,zS 5 5 14]) (.kp [3, 5, 9, 10, 11] (.reg [zM 15 3,zG 16 5 5,zV 17 70 16,zD 18 .add 15 17,zM 3 18])))) (c70_k2))
def E0 {Q e n H} := @Ad Tryz.prog _ _ c70_k3.eq_1 Q e n H
def c70_L4 : ACode := .ke [3, 9, 10, 11] (.seq (.reg [zD 12 .lss 11 10]) (.kp [3, 9, 10, 11, 12] (.seq (.cond (.t 12) (.skip) (.exit 1)) (c70_k3))))
def Dw {Q e n H} := @Ad Tryz.prog _ _ c70_L4.eq_1 Q e n H
def c70_e5 : ACode := .kp [1, 3] (.seq (.reg [zF 8 1 4,zL 9 8,zY 10 9,zI 11 0]) (.kp [3, 9, 10, 11] (.block 1 (.kp [3, 9, 10, 11] (.loop c70_L4)))))
def Dn {Q e n H} := @Ad Tryz.prog _ _ c70_e5.eq_1 Q e n H
def c70_e6 : ACode := .kp [1, 3, 7] (.seq (.reg [zE 46 .eql 7 15,zM 45 46]) (.kp [1, 3, 45] (.cond (.t 45) (.reg [zF 47 1 4,zL 48 47,⟨some 49, .iaddr 5 (some 5) (.t 48) (.c (.int .i64 0)), none⟩,zG 50 5 49,zV 51 70 50,zF 52 1 4,zL 53 52,⟨some 54, .iaddr 5 (some 5) (.t 53) (.c (.int .i64 1)), none⟩,zG 55 5 54,zV 56 70 55,⟨some 57, .mm false (.t 51) (.t 56), none⟩,zM 3 57]) (c70_e5))))
def Dv {Q e n H} := @Ad Tryz.prog _ _ c70_e6.eq_1 Q e n H
def c70_e7 : ACode := .kp [1, 3, 7] (.seq (.reg [zE 36 .eql 7 12,zM 35 36]) (.kp [1, 3, 7, 35] (.cond (.t 35) (.reg [zF 37 1 2,zL 38 37,zF 39 1 4,zL 40 39,⟨some 41, .iaddr 5 (some 5) (.t 40) (.c (.int .i64 0)), none⟩,zG 42 5 41,zV 43 70 42,zD 44 .mul 38 43,zM 3 44]) (c70_e6))))
def Dp {Q e n H} := @Ad Tryz.prog _ _ c70_e7.eq_1 Q e n H
def c70_e8 : ACode := .kp [1, 3, 7] (.seq (.reg [zE 26 .eql 7 5,zM 25 26]) (.kp [1, 3, 7, 25] (.cond (.t 25) (.reg [zF 27 1 2,zL 28 27,zF 29 1 4,zL 30 29,⟨some 31, .iaddr 5 (some 5) (.t 30) (.c (.int .i64 0)), none⟩,zG 32 5 31,zV 33 70 32,⟨some 34, .mm false (.t 28) (.t 33), none⟩,zM 3 34]) (c70_e7))))
def Du {Q e n H} := @Ad Tryz.prog _ _ c70_e8.eq_1 Q e n H
def c70_k9 : ACode := .kp [1, 3, 7, 20] (.cond (.t 20) (.reg [zG 23 5 1,zV 24 36 23,zM 3 24]) (c70_e8))
def Dl {Q e n H} := @Ad Tryz.prog _ _ c70_k9.eq_1 Q e n H
def c70 : AFun := { nargs := 1, nt := 60, res := [.tmp 2], code := .seq (.reg [zH 1 25 5 0,zI 2 0]) (.kp [1] (.seq (.reg [zI 3 0]) (.kp [1, 3] (.seq (.seq (.reg [zF 6 1 0,zL 7 6]) (.kp [1, 3, 7] (.block 0 (.seq (.seq (.reg [zE 21 .eql 7 1,zM 20 21]) (.kp [1, 3, 7, 20] (.cond (.t 20) (.skip) (.reg [zE 22 .eql 7 2,zM 20 22])))) (c70_k9))))) (c70_k1))))) }
theorem Mh : (Ah Tryz.prog DI Tryz.f70).map (fun x => (x.nargs, x.nt, x.res, x.code)) = some (c70.nargs, c70.nt, c70.res, bare c70.code) := by kernel_rfl
def c41_k1 : ACode := .kp [4, 5] (.seq (.reg [zM 36 4,zM 37 5,zM 4 36,zM 5 37]) (.ret))
def G3 {Q e n H} := @Ad Tryz.prog _ _ c41_k1.eq_1 Q e n H
def c41_k2 : ACode := .kp [1, 2, 4, 5] (.seq (.seq (.reg [zG 32 5 2,zV 33 70 32,zE 34 .gtr 33 5000]) (.kp [1, 4, 5, 34] (.cond (.t 34) (.reg [zM 35 1,zM 4 35]) (.skip)))) (c41_k1))
def Ft {Q e n H} := @Ad Tryz.prog _ _ c41_k2.eq_1 Q e n H
def c41_k3 : ACode := .kp [1, 2, 4, 5, 11, 12, 13] (.reg [zE 31 .add 13 1,zM 13 31])
def Fm {Q e n H} := @Ad Tryz.prog _ _ c41_k3.eq_1 Q e n H
def c41_k4 : ACode := .kp [1, 2, 4, 5, 9, 11, 12, 13] (.reg [zM 28 5,zM 29 9,zD 30 .add 28 29,zM 5 30])
def G7 {Q e n H} := @Ad Tryz.prog _ _ c41_k4.eq_1 Q e n H
def c41_k5 : ACode := .kp [1, 2, 4, 5, 11, 12, 13] (.seq (.block 1 (.seq (.reg [⟨some 15, .iaddr 5 (some 5) (.t 11) (.t 13), none⟩,zG 16 5 15,⟨some 7, .alloc 25 [(.int .i64 0), (.int .i64 0), (.int .i64 0), (.sl 0 [] .nil), (.sl 0 [] .nil)], none⟩,zS 5 7 16]) (.kp [1, 2, 4, 5, 7, 11, 12, 13] (.seq (.reg [zG 18 5 7,zM 19 1,zM 20 5,zD 21 .add 19 20,zW 22 41 18 21,zM 17 22,zX 23 17 0,zX 24 17 1,zM 8 23,zM 9 24]) (.kp [1, 2, 4, 5, 8, 9, 11, 12, 13] (.seq (.seq (.reg [zM 25 4,zE 26 .lss 25 0]) (.kp [1, 2, 4, 5, 8, 9, 11, 12, 13, 26] (.cond (.t 26) (.reg [zM 27 8,zM 4 27]) (.skip)))) (c41_k4))))))) (c41_k3))
def Fo {Q e n H} := @Ad Tryz.prog _ _ c41_k5.eq_1 Q e n H
def c41_L6 : ACode := .ke [1, 2, 4, 5, 11, 12, 13] (.seq (.reg [zD 14 .lss 13 12]) (.kp [1, 2, 4, 5, 11, 12, 13, 14] (.seq (.cond (.t 14) (.skip) (.exit 0)) (c41_k5))))
def GA {Q e n H} := @Ad Tryz.prog _ _ c41_L6.eq_1 Q e n H
def c41 : AFun := { nargs := 2, nt := 38, res := [.tmp 4, .tmp 5], code := .seq (.reg [zH 2 25 5 0,zI 4 0,zI 5 0]) (.kp [1, 2] (.seq (.reg [zI 4 (-1),zI 5 1]) (.kp [1, 2, 4, 5] (.seq (.seq (.reg [zF 10 2 4,zL 11 10,zY 12 11,zI 13 0]) (.kp [1, 2, 4, 5, 11, 12, 13] (.block 0 (.kp [1, 2, 4, 5, 11, 12, 13] (.loop c41_L6))))) (c41_k2))))) }
theorem A2d : (Ah Tryz.prog DI Tryz.f41).map (fun x => (x.nargs, x.nt, x.res, x.code)) = some (c41.nargs, c41.nt, c41.res, bare c41.code) := by kernel_rfl
def c15_k1 : ACode := .kp [2] (.seq (.reg [⟨some 24, .build [(.int .i64 0), (.int .i64 0)] [], none⟩,zS 2 2 24]) (.ret))
def Me {Q e n H} := @Ad Tryz.prog _ _ c15_k1.eq_1 Q e n H
def c15_k2 : ACode := .kp [1, 2] (.seq (.seq (.reg [zG 16 5 1,⟨some 17, .callp 41 [(.t 16), (.c (.int .i64 0))], none⟩,zM 15 17,zX 18 15 0,zX 19 15 1,zM 5 18,zM 6 19]) (.kp [2, 5] (.seq (.reg [zM 20 5,zE 21 .geq 20 0]) (.kp [2, 5, 21] (.cond (.t 21) (.seq (.reg [zM 22 5,⟨some 23, .build [(.int .i64 0), (.int .i64 0)] [(0, none, (.c (.int .i64 14))), (1, none, (.t 22))], none⟩,zS 2 2 23]) (.ret)) (.skip)))))) (c15_k1))
def Mu {Q e n H} := @Ad Tryz.prog _ _ c15_k2.eq_1 Q e n H
def c15 : AFun := { nargs := 1, nt := 25, res := [.cell 2 (some 2)], code := .seq (.reg [zH 1 25 5 0,⟨some 2, .alloc 27 [(.int .i64 0), (.int .i64 0)], none⟩]) (.kp [1, 2] (.seq (.reg [⟨some 7, .call 39 [], none⟩,⟨some 8, .build [.nmp, (.int .i64 0)] [(0, none, (.t 7))], none⟩,⟨some 3, .alloc 70 [.nmp, (.int .i64 0)], none⟩,zS 2 3 8]) (.kp [1, 2, 3] (.seq (.seq (.reg [zG 9 5 1,⟨some 10, .call 40 [(.t 3), (.t 9)], none⟩,⟨some 4, .alloc 27 [(.int .i64 0), (.int .i64 0)], none⟩,zS 2 4 10]) (.kp [1, 2, 4] (.seq (.reg [zF 11 4 0,zL 12 11,zE 13 .neq 12 0]) (.kp [1, 2, 4, 13] (.cond (.t 13) (.seq (.reg [zG 14 2 4,zS 2 2 14]) (.ret)) (.skip)))))) (c15_k2))))) }
theorem A2s : (Ah Tryz.prog DI Tryz.f15).map (fun x => (x.nargs, x.nt, x.res, x.code)) = some (c15.nargs, c15.nt, c15.res, bare c15.code) := by kernel_rfl
theorem C9 {P : Program} {c d : ACode} (h : c = d) {Q : AExit → AS → Prop} {e : AT} {n : Nat} {H : A3} : aw P c Q ⟨e, n, H⟩ = aw P d Q ⟨e, n, H⟩ := by rw [h]
def c43_k1 : ACode := .kp [3, 5] (.seq (.reg [zG 59 5 3,zM 60 5,⟨some 61, .iaddr 1 none (.t 60) (.c (.int .i64 0)), none⟩,zL 62 61,⟨some 63, .call 77 [(.t 59), (.t 62)], none⟩,⟨some 64, .call 71 [(.t 63)], none⟩,zM 4 64]) (.ret))
def BG {Q e n H} := @C9 Tryz.prog _ _ c43_k1.eq_1 Q e n H
def c43_e2 : ACode := .kp [3, 5, 31] (.seq (.reg [zE 55 .eql 31 16,zM 54 55]) (.kp [3, 5, 54] (.cond (.t 54) (.seq (.reg [zM 56 5,⟨some 57, .call 76 [(.t 56)], none⟩,⟨some 58, .call 71 [(.t 57)], none⟩,zM 4 58]) (.ret)) (.skip))))
def BJ {Q e n H} := @C9 Tryz.prog _ _ c43_e2.eq_1 Q e n H
def c43_e3 : ACode := .kp [3, 5, 31] (.seq (.reg [zE 43 .eql 31 15,zM 42 43]) (.kp [3, 5, 31, 42] (.cond (.t 42) (.seq (.reg [zF 44 3 1,zL 45 44,zM 46 5,⟨some 47, .iaddr 1 none (.t 46) (.c (.int .i64 0)), none⟩,zL 48 47,zM 49 5,⟨some 50, .iaddr 1 none (.t 49) (.c (.int .i64 1)), none⟩,zL 51 50,⟨some 52, .call 75 [(.t 45), (.t 48), (.t 51)], none⟩,⟨some 53, .call 71 [(.t 52)], none⟩,zM 4 53]) (.ret)) (c43_e2))))
def BP {Q e n H} := @C9 Tryz.prog _ _ c43_e3.eq_1 Q e n H
def c43_e4 : ACode := .kp [3, 5, 31] (.seq (.reg [zE 38 .eql 31 14,zM 37 38]) (.kp [3, 5, 31, 37] (.cond (.t 37) (.seq (.reg [zM 39 5,⟨some 40, .call 74 [(.t 39)], none⟩,⟨some 41, .call 71 [(.t 40)], none⟩,zM 4 41]) (.ret)) (c43_e3))))
def BM {Q e n H} := @C9 Tryz.prog _ _ c43_e4.eq_1 Q e n H
def c43_k5 : ACode := .kp [3, 5] (.seq (.seq (.reg [zF 30 3 0,zL 31 30]) (.kp [3, 5, 31] (.block 2 (.seq (.reg [zE 33 .eql 31 13,zM 32 33]) (.kp [3, 5, 31, 32] (.cond (.t 32) (.seq (.reg [zM 34 5,⟨some 35, .call 73 [(.t 34)], none⟩,⟨some 36, .call 71 [(.t 35)], none⟩,zM 4 36]) (.ret)) (c43_e4))))))) (c43_k1))
def BN {Q e n H} := @C9 Tryz.prog _ _ c43_k5.eq_1 Q e n H
def c43_k6 : ACode := .kp [0, 3, 5, 17, 18, 19] (.reg [zE 29 .add 19 1,zM 19 29])
def N7 {Q e n H} := @C9 Tryz.prog _ _ c43_k6.eq_1 Q e n H
def c43_k7 : ACode := .kp [0, 3, 5, 17, 18, 19] (.seq (.block 1 (.seq (.reg [⟨some 21, .iaddr 5 (some 5) (.t 17) (.t 19), none⟩,zG 22 5 21,⟨some 7, .alloc 25 [(.int .i64 0), (.int .i64 0), (.int .i64 0), (.sl 0 [] .nil), (.sl 0 [] .nil)], none⟩,zS 5 7 22]) (.kp [0, 3, 5, 7, 17, 18, 19] (.reg [zM 23 5,zM 24 0,zG 25 5 7,⟨some 26, .call 43 [(.t 24), (.t 25)], none⟩,⟨some 27, .bsl 76 none [(.t 26)], none⟩,⟨some 28, .app 76 1 8 (.t 23) (.t 27), none⟩,zM 5 28])))) (c43_k6))
def N9 {Q e n H} := @C9 Tryz.prog _ _ c43_k7.eq_1 Q e n H
def c43_L8 : ACode := .ke [0, 3, 5, 17, 18, 19] (.seq (.reg [zD 20 .lss 19 18]) (.kp [0, 3, 5, 17, 18, 19, 20] (.seq (.cond (.t 20) (.skip) (.exit 0)) (c43_k7))))
def KR {Q e n H} := @C9 Tryz.prog _ _ c43_L8.eq_1 Q e n H
def c43_k9 : ACode := .kp [0, 3] (.seq (.reg [⟨some 5, .mv (.c (.sl 0 [] .nil)), none⟩]) (.kp [0, 3, 5] (.seq (.seq (.reg [zF 16 3 4,zL 17 16,zY 18 17,zI 19 0]) (.kp [0, 3, 5, 17, 18, 19] (.block 0 (.kp [0, 3, 5, 17, 18, 19] (.loop c43_L8))))) (c43_k5))))
def Jb {Q e n H} := @C9 Tryz.prog _ _ c43_k9.eq_1 Q e n H
def c43 : AFun := { nargs := 2, nt := 65, res := [.tmp 4], code := .seq (.reg [zH 3 25 5 1,⟨some 4, .mv (.c .nfn), none⟩]) (.kp [0, 3] (.seq (.seq (.reg [zF 8 3 4,zL 9 8,zY 10 9,zE 11 .eql 10 0]) (.kp [0, 3, 11] (.cond (.t 11) (.seq (.reg [zM 12 0,zG 13 5 3,⟨some 14, .call 72 [(.t 12), (.t 13)], none⟩,⟨some 15, .call 71 [(.t 14)], none⟩,zM 4 15]) (.ret)) (.skip)))) (c43_k9))) }
theorem Zp : (Ah Tryz.prog DI Tryz.f43).map (fun x => (x.nargs, x.nt, x.res, x.code)) = some (c43.nargs, c43.nt, c43.res, bare c43.code) := by kernel_rfl
def c72_k1 : ACode := .kp [2, 5, 6] (.seq (.reg [⟨some 47, .mkfn 97 [] [(.t 2), (.t 5), (.t 6)], none⟩,zM 4 47]) (.ret))
def F6 {Q e n H} := @C9 Tryz.prog _ _ c72_k1.eq_1 Q e n H
def c72_k2 : ACode := .kp [2, 3, 5, 6, 7] (.reg [zM 37 7,zF 38 3 3,zL 39 38,⟨some 40, .iaddr 1 none (.t 39) (.c (.int .i64 2)), none⟩,zL 41 40,zD 42 .add 37 41,zM 7 42])
def F5 {Q e n H} := @C9 Tryz.prog _ _ c72_k2.eq_1 Q e n H
def c72_k3 : ACode := .kp [2, 3, 5, 6, 7] (.seq (.block 1 (.reg [zL 43 6,zM 44 7,⟨some 45, .bsl 3 none [(.t 44)], none⟩,⟨some 46, .app 3 1 8 (.t 43) (.t 45), none⟩,zU 6 46])) (c72_k2))
def F4 {Q e n H} := @C9 Tryz.prog _ _ c72_k3.eq_1 Q e n H
def c72_L4 : ACode := .ke [2, 3, 5, 6, 7] (.seq (.seq (.reg [zM 31 7,zF 32 3 3,zL 33 32,⟨some 34, .iaddr 1 none (.t 33) (.c (.int .i64 1)), none⟩,zL 35 34,zD 36 .lss 31 35]) (.kp [2, 3, 5, 6, 7, 36] (.cond (.t 36) (.skip) (.exit 0)))) (c72_k3))
def Ew {Q e n H} := @C9 Tryz.prog _ _ c72_L4.eq_1 Q e n H
def c72_t5 : ACode := .kp [2, 3, 5, 6] (.seq (.reg [⟨none, .store none (.t 6) (.c (.sl 0 [] .nil)), none⟩]) (.kp [2, 3, 5, 6] (.seq (.reg [zF 27 3 3,zL 28 27,⟨some 29, .iaddr 1 none (.t 28) (.c (.int .i64 0)), none⟩,zL 30 29,zM 7 30]) (.kp [2, 3, 5, 6, 7] (.block 0 (.kp [2, 3, 5, 6, 7] (.loop c72_L4)))))))
def F7 {Q e n H} := @C9 Tryz.prog _ _ c72_t5.eq_1 Q e n H
def c72 : AFun := { nargs := 2, nt := 48, res := [.tmp 4], code := .seq (.reg [⟨some 2, .box 72 none (.t 0), none⟩,zH 3 25 5 1,⟨some 4, .mv (.c .nfn), none⟩]) (.kp [2, 3] (.seq (.reg [zL 8 2,zZ 9 8,zF 10 9 0,zL 11 10,zY 12 11,⟨some 5, .alloc 3 [(.int .i64 0)], none⟩,zU 5 12]) (.kp [2, 3, 5] (.seq (.regD .plain [] [zL 13 2,zL 14 2,zZ 15 14,zF 16 15 0,zL 17 16,⟨some 18, .bsl 3 none [(.c (.int .i64 0))], none⟩,⟨some 19, .app 3 1 8 (.t 17) (.t 18), none⟩,zZ 20 13,zF 21 20 0,zU 21 19]) (.kp [2, 3, 5] (.seq (.reg [zF 22 3 3,zL 23 22,⟨some 6, .alloc 22 [(.sl 0 [] .nil)], none⟩,zU 6 23]) (.kp [2, 3, 5, 6] (.seq (.seq (.reg [zF 24 3 0,zL 25 24,zE 26 .eql 25 2]) (.kp [2, 3, 5, 6, 26] (.cond (.t 26) (c72_t5) (.skip)))) (c72_k1))))))))) }
theorem Zv : (Ah Tryz.prog DI Tryz.f72).map (fun x => (x.nargs, x.nt, x.res, x.code)) = some (c72.nargs, c72.nt, c72.res, bare c72.code) := by kernel_rfl
def c71 : AFun := { nargs := 1, nt := 5, res := [.tmp 2], code := .seq (.reg [⟨some 1, .box 76 none (.t 0), none⟩,⟨some 2, .mv (.c .nfn), none⟩]) (.kp [1] (.seq (.reg [⟨some 3, .alloc 4 [(.bool false)], none⟩,⟨none, .store none (.t 3) (.c (.bool false)), none⟩]) (.kp [1, 3] (.seq (.reg [⟨some 4, .mkfn 96 [] [(.t 3), (.t 1)], none⟩,zM 2 4]) (.ret))))) }
theorem A21 : (Ah Tryz.prog DI Tryz.f71).map (fun x => (x.nargs, x.nt, x.res, x.code)) = some (c71.nargs, c71.nt, c71.res, bare c71.code) := by kernel_rfl
def c73 : AFun := { nargs := 1, nt := 4, res := [.tmp 2], code := .seq (.reg [⟨some 1, .box 104 none (.t 0), none⟩,⟨some 2, .mv (.c .nfn), none⟩]) (.kp [1] (.seq (.reg [⟨some 3, .mkfn 98 [] [(.t 1)], none⟩,zM 2 3]) (.ret))) }
theorem A28 : (Ah Tryz.prog DI Tryz.f73).map (fun x => (x.nargs, x.nt, x.res, x.code)) = some (c73.nargs, c73.nt, c73.res, bare c73.code) := by kernel_rfl
def c74 : AFun := { nargs := 1, nt := 4, res := [.tmp 2], code := .seq (.reg [⟨some 1, .box 104 none (.t 0), none⟩,⟨some 2, .mv (.c .nfn), none⟩]) (.kp [1] (.seq (.reg [⟨some 3, .mkfn 99 [] [(.t 1)], none⟩,zM 2 3]) (.ret))) }
theorem A2l : (Ah Tryz.prog DI Tryz.f74).map (fun x => (x.nargs, x.nt, x.res, x.code)) = some (c74.nargs, c74.nt, c74.res, bare c74.code) := by kernel_rfl
def c75 : AFun := { nargs := 3, nt := 8, res := [.tmp 6], code := .seq (.reg [⟨some 3, .box 3 none (.t 0), none⟩,⟨some 4, .box 76 none (.t 1), none⟩,⟨some 5, .box 76 none (.t 2), none⟩,⟨some 6, .mv (.c .nfn), none⟩]) (.kp [3, 4, 5] (.seq (.reg [⟨some 7, .mkfn 101 [] [(.t 4), (.t 5), (.t 3)], none⟩,zM 6 7]) (.ret))) }
theorem A2n : (Ah Tryz.prog DI Tryz.f75).map (fun x => (x.nargs, x.nt, x.res, x.code)) = some (c75.nargs, c75.nt, c75.res, bare c75.code) := by kernel_rfl
def c76 : AFun := { nargs := 1, nt := 6, res := [.tmp 2], code := .seq (.reg [⟨some 1, .box 104 none (.t 0), none⟩,⟨some 2, .mv (.c .nfn), none⟩]) (.kp [1] (.seq (.reg [⟨some 3, .alloc 99 [(.int .i64 0), (.int .i64 0)], none⟩]) (.kp [1, 3] (.seq (.reg [⟨some 4, .alloc 122 [(.bool false), (.bool false)], none⟩]) (.kp [1, 3, 4] (.seq (.reg [⟨some 5, .mkfn 103 [] [(.t 1), (.t 4), (.t 3)], none⟩,zM 2 5]) (.ret))))))) }
theorem A2t : (Ah Tryz.prog DI Tryz.f76).map (fun x => (x.nargs, x.nt, x.res, x.code)) = some (c76.nargs, c76.nt, c76.res, bare c76.code) := by kernel_rfl
def c77_k1 : ACode := .kp [2, 3] (.seq (.reg [zF 47 2 2,zL 48 47,zL 49 3,⟨some 50, .call 117 [(.t 48), (.t 49)], none⟩,zM 4 50]) (.ret))
def Cf {Q e n H} := @C9 Tryz.prog _ _ c77_k1.eq_1 Q e n H
def c77_t2 : ACode := .kp [3] (.seq (.reg [⟨some 5, .alloc 3 [(.int .i64 0)], none⟩,⟨none, .store none (.t 5) (.c (.int .i64 (-1))), none⟩]) (.kp [3, 5] (.seq (.reg [⟨some 46, .mkfn 115 [] [(.t 3), (.t 5)], none⟩,zM 4 46]) (.ret))))
def Cn {Q e n H} := @C9 Tryz.prog _ _ c77_t2.eq_1 Q e n H
def c77_e3 : ACode := .kp [2, 3, 7] (.seq (.reg [zE 45 .eql 7 11,zM 44 45]) (.kp [2, 3, 44] (.cond (.t 44) (c77_t2) (.skip))))
def Cm {Q e n H} := @C9 Tryz.prog _ _ c77_e3.eq_1 Q e n H
def c77_e4 : ACode := .kp [2, 3, 7] (.seq (.reg [zE 40 .eql 7 10,zM 39 40]) (.kp [2, 3, 7, 39] (.cond (.t 39) (.seq (.reg [zG 41 5 2,zL 42 3,⟨some 43, .call 114 [(.t 41), (.t 42)], none⟩,zM 4 43]) (.ret)) (c77_e3))))
def Cp {Q e n H} := @C9 Tryz.prog _ _ c77_e4.eq_1 Q e n H
def c77_e5 : ACode := .kp [2, 3, 7] (.seq (.reg [zE 35 .eql 7 9,zM 34 35]) (.kp [2, 3, 7, 34] (.cond (.t 34) (.seq (.reg [zG 36 5 2,zL 37 3,⟨some 38, .call 113 [(.t 36), (.t 37)], none⟩,zM 4 38]) (.ret)) (c77_e4))))
def Cs {Q e n H} := @C9 Tryz.prog _ _ c77_e5.eq_1 Q e n H
def c77_e6 : ACode := .kp [2, 3, 7] (.seq (.reg [zE 30 .eql 7 8,zM 29 30]) (.kp [2, 3, 7, 29] (.cond (.t 29) (.seq (.reg [zG 31 5 2,zL 32 3,⟨some 33, .call 112 [(.t 31), (.t 32)], none⟩,zM 4 33]) (.ret)) (c77_e5))))
def Ck {Q e n H} := @C9 Tryz.prog _ _ c77_e6.eq_1 Q e n H
def c77_e7 : ACode := .kp [2, 3, 7] (.seq (.reg [zE 27 .eql 7 7,zM 26 27]) (.kp [2, 3, 7, 26] (.cond (.t 26) (.seq (.reg [⟨some 28, .mkfn 111 [] [(.t 3), (.t 2)], none⟩,zM 4 28]) (.ret)) (c77_e6))))
def Cg {Q e n H} := @C9 Tryz.prog _ _ c77_e7.eq_1 Q e n H
def c77_e8 : ACode := .kp [2, 3, 7] (.seq (.reg [zE 21 .eql 7 6,zM 20 21]) (.kp [2, 3, 7, 20] (.cond (.t 20) (.seq (.reg [zF 22 2 2,zL 23 22,zL 24 3,⟨some 25, .call 110 [(.t 23), (.t 24)], none⟩,zM 4 25]) (.ret)) (c77_e7))))
def Cr {Q e n H} := @C9 Tryz.prog _ _ c77_e8.eq_1 Q e n H
def c77_e9 : ACode := .kp [2, 3, 7] (.seq (.reg [zE 15 .eql 7 5,zM 14 15]) (.kp [2, 3, 7, 14] (.cond (.t 14) (.seq (.reg [zF 16 2 2,zL 17 16,zL 18 3,⟨some 19, .call 109 [(.t 17), (.t 18)], none⟩,zM 4 19]) (.ret)) (c77_e8))))
def Ce {Q e n H} := @C9 Tryz.prog _ _ c77_e9.eq_1 Q e n H
def c77_e10 : ACode := .kp [2, 3, 7] (.seq (.reg [zE 12 .eql 7 4,zM 11 12]) (.kp [2, 3, 7, 11] (.cond (.t 11) (.seq (.reg [⟨some 13, .mkfn 105 [] [(.t 3), (.t 2)], none⟩,zM 4 13]) (.ret)) (c77_e9))))
def C5 {Q e n H} := @C9 Tryz.prog _ _ c77_e10.eq_1 Q e n H
def c77 : AFun := { nargs := 2, nt := 51, res := [.tmp 4], code := .seq (.reg [zH 2 25 5 0,⟨some 3, .box 76 none (.t 1), none⟩,⟨some 4, .mv (.c .nfn), none⟩]) (.kp [2, 3] (.seq (.seq (.reg [zF 6 2 0,zL 7 6]) (.kp [2, 3, 7] (.block 0 (.seq (.reg [zE 9 .eql 7 3,zM 8 9]) (.kp [2, 3, 7, 8] (.cond (.t 8) (.seq (.reg [⟨some 10, .mkfn 104 [] [(.t 3), (.t 2)], none⟩,zM 4 10]) (.ret)) (c77_e10))))))) (c77_k1))) }
theorem HP : (Ah Tryz.prog DI Tryz.f77).map (fun x => (x.nargs, x.nt, x.res, x.code)) = some (c77.nargs, c77.nt, c77.res, bare c77.code) := by kernel_rfl
def c106_L1 : ACode := .ke [0, 1] (.block 1 (.seq (.reg [zM 9 0,⟨some 10, .callv (.t 9) [], none⟩,zM 8 10,zX 11 8 0,zX 12 8 1,zM 6 11,zM 7 12]) (.kp [0, 1, 6, 7] (.seq (.segs [⟨none, [zM 13 7,zN 14 13,zM 15 14], none⟩,⟨some (15, false), [zM 16 1,zM 17 6,⟨some 18, .callv (.t 16) [(.t 17)], none⟩], none⟩,⟨none, [zO 19 15 18], none⟩]) (.kp [0, 1, 6, 7, 19] (.cond (.t 19) (.seq (.reg [zM 20 6,zM 21 7,zM 4 20,zM 5 21]) (.ret)) (.skip)))))))
def GR {Q e n H} := @C9 Tryz.prog _ _ c106_L1.eq_1 Q e n H
def c106 : AFun := { nargs := 2, nt := 22, res := [.tmp 4, .tmp 5], code := .seq (.reg [zI 4 0,zB 5 false]) (.kp [0, 1] (.block 0 (.kp [0, 1] (.loop c106_L1)))) }
theorem A1k : (Ah Tryz.prog DI Tryz.f106).map (fun x => (x.nargs, x.nt, x.res, x.code)) = some (c106.nargs, c106.nt, c106.res, bare c106.code) := by kernel_rfl
def c109 : AFun := { nargs := 2, nt := 6, res := [.tmp 4], code := .seq (.reg [⟨some 2, .box 3 none (.t 0), none⟩,⟨some 3, .box 76 none (.t 1), none⟩,⟨some 4, .mv (.c .nfn), none⟩]) (.kp [2, 3] (.seq (.reg [⟨some 5, .mkfn 132 [] [(.t 2), (.t 3)], none⟩,zM 4 5]) (.ret))) }
theorem A11 : (Ah Tryz.prog DI Tryz.f109).map (fun x => (x.nargs, x.nt, x.res, x.code)) = some (c109.nargs, c109.nt, c109.res, bare c109.code) := by kernel_rfl
def c110 : AFun := { nargs := 2, nt := 6, res := [.tmp 4], code := .seq (.reg [⟨some 2, .box 3 none (.t 0), none⟩,⟨some 3, .box 76 none (.t 1), none⟩,⟨some 4, .mv (.c .nfn), none⟩]) (.kp [2, 3] (.seq (.reg [⟨some 5, .mkfn 133 [] [(.t 2), (.t 3)], none⟩,zM 4 5]) (.ret))) }
theorem A0w : (Ah Tryz.prog DI Tryz.f110).map (fun x => (x.nargs, x.nt, x.res, x.code)) = some (c110.nargs, c110.nt, c110.res, bare c110.code) := by kernel_rfl
def c112 : AFun := { nargs := 2, nt := 7, res := [.tmp 4], code := .seq (.reg [zH 2 25 5 0,⟨some 3, .box 76 none (.t 1), none⟩,⟨some 4, .mv (.c .nfn), none⟩]) (.kp [2, 3] (.seq (.reg [⟨some 5, .alloc 4 [(.bool false)], none⟩,⟨none, .store none (.t 5) (.c (.bool false)), none⟩]) (.kp [2, 3, 5] (.seq (.reg [⟨some 6, .mkfn 134 [] [(.t 5), (.t 3), (.t 2)], none⟩,zM 4 6]) (.ret))))) }
theorem A08 : (Ah Tryz.prog DI Tryz.f112).map (fun x => (x.nargs, x.nt, x.res, x.code)) = some (c112.nargs, c112.nt, c112.res, bare c112.code) := by kernel_rfl
def c113 : AFun := { nargs := 2, nt := 9, res := [.tmp 4], code := .seq (.reg [zH 2 25 5 0,⟨some 3, .box 76 none (.t 1), none⟩,⟨some 4, .mv (.c .nfn), none⟩]) (.kp [2, 3] (.seq (.reg [zF 6 2 2,zL 7 6,⟨some 5, .alloc 3 [(.int .i64 0)], none⟩,zU 5 7]) (.kp [2, 3, 5] (.seq (.reg [⟨some 8, .mkfn 136 [] [(.t 3), (.t 2), (.t 5)], none⟩,zM 4 8]) (.ret))))) }
theorem A13 : (Ah Tryz.prog DI Tryz.f113).map (fun x => (x.nargs, x.nt, x.res, x.code)) = some (c113.nargs, c113.nt, c113.res, bare c113.code) := by kernel_rfl
def c114 : AFun := { nargs := 2, nt := 7, res := [.tmp 4], code := .seq (.reg [zH 2 25 5 0,⟨some 3, .box 76 none (.t 1), none⟩,⟨some 4, .mv (.c .nfn), none⟩]) (.kp [2, 3] (.seq (.reg [⟨some 5, .alloc 22 [(.sl 0 [] .nil)], none⟩]) (.kp [2, 3, 5] (.seq (.reg [⟨some 6, .mkfn 137 [] [(.t 5), (.t 2), (.t 3)], none⟩,zM 4 6]) (.ret))))) }
theorem A17 : (Ah Tryz.prog DI Tryz.f114).map (fun x => (x.nargs, x.nt, x.res, x.code)) = some (c114.nargs, c114.nt, c114.res, bare c114.code) := by kernel_rfl
def c117 : AFun := { nargs := 2, nt := 8, res := [.tmp 4], code := .seq (.reg [⟨some 2, .box 3 none (.t 0), none⟩,⟨some 3, .box 76 none (.t 1), none⟩,⟨some 4, .mv (.c .nfn), none⟩]) (.kp [2, 3] (.seq (.reg [⟨some 5, .alloc 22 [(.sl 0 [] .nil)], none⟩]) (.kp [2, 3, 5] (.seq (.reg [⟨some 6, .alloc 3 [(.int .i64 0)], none⟩,⟨none, .store none (.t 6) (.c (.int .i64 (-1))), none⟩]) (.kp [2, 3, 5, 6] (.seq (.reg [⟨some 7, .mkfn 138 [] [(.t 2), (.t 6), (.t 3), (.t 5)], none⟩,zM 4 7]) (.ret))))))) }
theorem Wo : (Ah Tryz.prog DI Tryz.f117).map (fun x => (x.nargs, x.nt, x.res, x.code)) = some (c117.nargs, c117.nt, c117.res, bare c117.code) := by kernel_rfl
def c18_k1 : ACode := .kp [7, 9, 11] (.seq (.reg [zM 53 11,zM 54 9,zZ 55 54,zF 56 55 0,zL 57 56,⟨some 58, .build [(.int .i64 0), (.int .i64 0)] [], none⟩,zM 4 53,zM 5 57,zB 6 false,zS 2 7 58]) (.ret))
def KJ {Q e n H} := @C9 Tryz.prog _ _ c18_k1.eq_1 Q e n H
def c18_k2 : ACode := .kp [1, 7, 9, 10, 11, 12] (.reg [zM 49 11,zM 50 12,⟨some 51, .bsl 3 none [(.t 50)], none⟩,⟨some 52, .app 3 1 8 (.t 49) (.t 51), none⟩,zM 11 52])
def KY {Q e n H} := @C9 Tryz.prog _ _ c18_k2.eq_1 Q e n H
def c18_k3 : ACode := .kp [1, 7, 9, 10, 11] (.block 1 (.seq (.reg [zM 37 10,⟨some 38, .callv (.t 37) [], none⟩,zM 36 38,zX 39 36 0,zX 40 36 1,zM 12 39,zM 13 40]) (.kp [1, 7, 9, 10, 11, 12, 13] (.seq (.seq (.reg [zM 41 13,zN 42 41]) (.kp [1, 7, 9, 10, 11, 12, 42] (.cond (.t 42) (.seq (.reg [zM 43 11,zM 44 9,zZ 45 44,zF 46 45 0,zL 47 46,⟨some 48, .build [(.int .i64 0), (.int .i64 0)] [], none⟩,zM 4 43,zM 5 47,zB 6 true,zS 2 7 48]) (.ret)) (.skip)))) (c18_k2)))))
def K8 {Q e n H} := @C9 Tryz.prog _ _ c18_k3.eq_1 Q e n H
def c18_L4 : ACode := .ke [1, 7, 9, 10, 11] (.seq (.seq (.reg [zM 32 11,zY 33 32,zM 34 1,zD 35 .lss 33 34]) (.kp [1, 7, 9, 10, 11, 35] (.cond (.t 35) (.skip) (.exit 0)))) (c18_k3))
def K3 {Q e n H} := @C9 Tryz.prog _ _ c18_L4.eq_1 Q e n H
def c18_k5 : ACode := .kp [1, 2, 7] (.seq (.reg [⟨some 27, .build [(.sl 0 [] .nil)] [], none⟩,zH 28 74 1 27,zM 9 28]) (.kp [1, 2, 7, 9] (.seq (.reg [zM 29 9,zG 30 5 2,⟨some 31, .call 43 [(.t 29), (.t 30)], none⟩,zM 10 31]) (.kp [1, 7, 9, 10] (.seq (.reg [⟨some 11, .mv (.c (.sl 0 [] .nil)), none⟩]) (.kp [1, 7, 9, 10, 11] (.seq (.block 0 (.kp [1, 7, 9, 10, 11] (.loop c18_L4))) (c18_k1))))))))
def He {Q e n H} := @C9 Tryz.prog _ _ c18_k5.eq_1 Q e n H
def c18_k6 : ACode := .kp [1, 2, 7] (.seq (.seq (.segs [⟨none, [zM 20 1,zE 21 .lss 20 0,zM 22 21], none⟩,⟨some (22, false), [zM 23 1,zE 24 .gtr 23 5000], some (25, 24)⟩]) (.kp [1, 2, 7, 25] (.cond (.t 25) (.seq (.reg [⟨some 26, .build [(.int .i64 0), (.int .i64 0)] [(0, none, (.c (.int .i64 4))), (1, none, (.c (.int .i64 (-2))))], none⟩,⟨some 4, .mv (.c (.sl 0 [] .nil)), none⟩,⟨some 5, .mv (.c (.sl 0 [] .nil)), none⟩,zB 6 false,zS 2 7 26]) (.ret)) (.skip)))) (c18_k5))
def Ea {Q e n H} := @C9 Tryz.prog _ _ c18_k6.eq_1 Q e n H
def c18 : AFun := { nargs := 2, nt := 59, res := [.tmp 4, .tmp 5, .tmp 6, .cell 7 (some 2)], code := .seq (.reg [zH 2 25 5 0,⟨some 4, .mv (.c (.sl 0 [] .nil)), none⟩,⟨some 5, .mv (.c (.sl 0 [] .nil)), none⟩,zB 6 false,⟨some 7, .alloc 27 [(.int .i64 0), (.int .i64 0)], none⟩]) (.kp [1, 2, 7] (.seq (.seq (.reg [zG 14 5 2,zV 15 15 14,⟨some 8, .alloc 27 [(.int .i64 0), (.int .i64 0)], none⟩,zS 2 8 15]) (.kp [1, 2, 7, 8] (.seq (.reg [zF 16 8 0,zL 17 16,zE 18 .neq 17 0]) (.kp [1, 2, 7, 8, 18] (.cond (.t 18) (.seq (.reg [zG 19 2 8,⟨some 4, .mv (.c (.sl 0 [] .nil)), none⟩,⟨some 5, .mv (.c (.sl 0 [] .nil)), none⟩,zB 6 false,zS 2 7 19]) (.ret)) (.skip)))))) (c18_k6))) }
theorem Zt : (Ah Tryz.prog DI Tryz.f18).map (fun x => (x.nargs, x.nt, x.res, x.code)) = some (c18.nargs, c18.nt, c18.res, bare c18.code) := by kernel_rfl
end Go.Proofs.YtjdccdelcnmocaaGreatDoor
