/- The code of some functions on plain data, by program, and that it is what the program's text gives; no condition. -/
import Derived.Test.YtjdccdelcnmocaaGreatDoorAdE
import Derived.Test.YtjdccdelcnmocaaGreatDoorProg
import Derived.KernelRfl
set_option linter.all false
set_option linter.unusedSimpArgs false
set_option linter.unusedVariables false
namespace Go.Proofs.YtjdccdelcnmocaaGreatDoor
theorem X6 {P : Program} {c d : ACode} (h : c = d) {Q : AExit → AS → Prop} {e : AT} {n : Nat} {H : A4} : aw P c Q ⟨e, n, H⟩ = aw P d Q ⟨e, n, H⟩ := by rw [h]
def c96_k1 : ACode := .kp [0, 1] (.seq (.reg [zL 8 1,⟨some 9, .callv (.t 8) [], none⟩,zM 7 9,zX 10 7 0,zX 11 7 1,zM 4 10,zM 5 11]) (.kp [0, 4, 5] (.seq (.reg [zM 12 5,zN 13 12,zU 0 13]) (.kp [4, 5] (.seq (.reg [zM 14 4,zM 15 5,zM 2 14,zM 3 15]) (.ret))))))
def Mz {Q e n H} := @X6 Tryz.prog _ _ c96_k1.eq_1 Q e n H
def c96 : AFun := { nargs := 2, nt := 16, res := [.tmp 2, .tmp 3], code := .seq (.reg [zI 2 0,zB 3 false]) (.kp [0, 1] (.seq (.seq (.reg [zL 6 0]) (.kp [0, 1, 6] (.cond (.t 6) (.seq (.reg [zI 2 0,zB 3 false]) (.ret)) (.skip)))) (c96_k1))) }
theorem XJ : (Aw Tryz.prog Cs Tryz.f96).map (fun x => (x.nargs, x.nt, x.res, x.code)) = some (c96.nargs, c96.nt, c96.res, bare c96.code) := by kernel_rfl
def c97_k1 : ACode := .kp [0, 1, 2, 5] (.seq (.reg [zL 17 0,zZ 18 17,zF 19 18 0,zL 20 19,zL 21 1,zJ 22 1 20 21,zL 23 22,zE 24 .add 23 1,zJ 25 1 20 21,zU 25 24]) (.kp [2, 5] (.seq (.reg [zL 26 2,zM 27 5,zJ 28 1 26 27,zL 29 28,zM 3 29,zB 4 true]) (.ret))))
def Pa {Q e n H} := @X6 Tryz.prog _ _ c97_k1.eq_1 Q e n H
def c97 : AFun := { nargs := 3, nt := 30, res := [.tmp 3, .tmp 4], code := .seq (.reg [zI 3 0,zB 4 false]) (.kp [0, 1, 2] (.seq (.reg [zL 6 0,zZ 7 6,zF 8 7 0,zL 9 8,zL 10 1,zJ 11 1 9 10,zL 12 11,zM 5 12]) (.kp [0, 1, 2, 5] (.seq (.seq (.reg [zM 13 5,zL 14 2,zY 15 14,zD 16 .eql 13 15]) (.kp [0, 1, 2, 5, 16] (.cond (.t 16) (.seq (.reg [zI 3 0,zB 4 false]) (.ret)) (.skip)))) (c97_k1))))) }
theorem ZB : (Aw Tryz.prog Cs Tryz.f97).map (fun x => (x.nargs, x.nt, x.res, x.code)) = some (c97.nargs, c97.nt, c97.res, bare c97.code) := by kernel_rfl
def c105 : AFun := { nargs := 2, nt := 9, res := [.tmp 2, .tmp 3], code := .seq (.reg [zI 2 0,zB 3 false]) (.kp [0, 1] (.seq (.reg [zL 4 0,⟨some 5, .mkfn 107 [] [(.t 1)], none⟩,⟨some 6, .call 106 [(.t 4), (.t 5)], none⟩,zX 7 6 0,zX 8 6 1,zM 2 7,zM 3 8]) (.ret))) }
theorem XC : (Aw Tryz.prog Cs Tryz.f105).map (fun x => (x.nargs, x.nt, x.res, x.code)) = some (c105.nargs, c105.nt, c105.res, bare c105.code) := by kernel_rfl
def c107 : AFun := { nargs := 2, nt := 10, res := [.tmp 3], code := .seq (.reg [zB 3 false]) (.kp [0, 1] (.seq (.reg [zF 4 1 1,zL 5 4,zM 6 0,zF 7 1 2,zL 8 7,⟨some 9, .callp 108 [(.t 5), (.t 6), (.t 8)], none⟩,zM 3 9]) (.ret))) }
theorem Zs : (Aw Tryz.prog Cs Tryz.f107).map (fun x => (x.nargs, x.nt, x.res, x.code)) = some (c107.nargs, c107.nt, c107.res, bare c107.code) := by kernel_rfl
def c132_k1 : ACode := .kp [0, 1] (.seq (.reg [zL 6 0,zE 7 .sub 6 1,zU 0 7]) (.kp [1] (.seq (.reg [zL 8 1,⟨some 9, .callv (.t 8) [], none⟩,zX 10 9 0,zX 11 9 1,zM 2 10,zM 3 11]) (.ret))))
def JS {Q e n H} := @X6 Tryz.prog _ _ c132_k1.eq_1 Q e n H
def c132 : AFun := { nargs := 2, nt := 12, res := [.tmp 2, .tmp 3], code := .seq (.reg [zI 2 0,zB 3 false]) (.kp [0, 1] (.seq (.seq (.reg [zL 4 0,zE 5 .eql 4 0]) (.kp [0, 1, 5] (.cond (.t 5) (.seq (.reg [zI 2 0,zB 3 false]) (.ret)) (.skip)))) (c132_k1))) }
theorem TC : (Aw Tryz.prog Cs Tryz.f132).map (fun x => (x.nargs, x.nt, x.res, x.code)) = some (c132.nargs, c132.nt, c132.res, bare c132.code) := by kernel_rfl
def A0c : ACode := .kp [1, 2, 3] (.seq (.reg [zG 67 5 1,zM 68 3,⟨some 69, .iaddr 2 (some 2) (.t 68) (.c (.int .i64 0)), none⟩,zG 70 2 69,zW 71 51 67 70,zS 2 2 71]) (.ret))
def A1j : ACode := .kp [1, 2, 3] (.seq (.seq (.reg [zF 58 1 0,zL 59 58,zE 60 .eql 59 12]) (.kp [1, 2, 3, 60] (.cond (.t 60) (.seq (.reg [zF 61 1 2,zL 62 61,zM 63 3,⟨some 64, .iaddr 2 (some 2) (.t 63) (.c (.int .i64 0)), none⟩,zG 65 2 64,zW 66 50 62 65,zS 2 2 66]) (.ret)) (.skip)))) (A0c))
def A0n : ACode := .kp [1, 2, 3] (.seq (.seq (.reg [zF 48 1 0,zL 49 48,zE 50 .eql 49 16]) (.kp [1, 2, 3, 50] (.cond (.t 50) (.seq (.reg [zM 51 3,⟨some 52, .iaddr 2 (some 2) (.t 51) (.c (.int .i64 0)), none⟩,zG 53 2 52,zM 54 3,⟨some 55, .iaddr 2 (some 2) (.t 54) (.c (.int .i64 1)), none⟩,zG 56 2 55,zW 57 49 53 56,zS 2 2 57]) (.ret)) (.skip)))) (A1j))
def A10 : ACode := .kp [1, 2, 3] (.seq (.seq (.reg [zF 36 1 0,zL 37 36,zE 38 .eql 37 15]) (.kp [1, 2, 3, 38] (.cond (.t 38) (.seq (.reg [zF 39 1 1,zL 40 39,zM 41 3,⟨some 42, .iaddr 2 (some 2) (.t 41) (.c (.int .i64 0)), none⟩,zG 43 2 42,zM 44 3,⟨some 45, .iaddr 2 (some 2) (.t 44) (.c (.int .i64 1)), none⟩,zG 46 2 45,⟨some 47, .callp 48 [(.t 40), (.t 43), (.t 46)], none⟩,zS 2 2 47]) (.ret)) (.skip)))) (A0n))
def ZV : ACode := .kp [1, 2, 3] (.seq (.seq (.reg [zF 31 1 0,zL 32 31,zE 33 .eql 32 14]) (.kp [1, 2, 3, 33] (.cond (.t 33) (.seq (.reg [zM 34 3,zV 35 47 34,zS 2 2 35]) (.ret)) (.skip)))) (A10))
def A06 : ACode := .kp [1, 2, 3] (.seq (.seq (.reg [zF 26 1 0,zL 27 26,zE 28 .eql 27 13]) (.kp [1, 2, 3, 28] (.cond (.t 28) (.seq (.reg [zM 29 3,zV 30 46 29,zS 2 2 30]) (.ret)) (.skip)))) (ZV))
def A05 : ACode := .kp [1, 2, 3, 4] (.reg [zM 15 4,zE 16 .add 15 1,zM 4 16])
def A14 : ACode := .kp [1, 2, 3, 4] (.seq (.block 1 (.reg [zM 17 3,zF 18 1 4,zL 19 18,zM 20 4,⟨some 21, .iaddr 5 (some 5) (.t 19) (.t 20), none⟩,zG 22 5 21,zV 23 21 22,⟨some 24, .bsl 40 (some 2) [(.t 23)], none⟩,⟨some 25, .app 40 2 48 (.t 17) (.t 24), none⟩,zM 3 25])) (A05))
def Zd : ACode := .ke [1, 2, 3, 4] (.seq (.seq (.reg [zM 10 4,zF 11 1 4,zL 12 11,zY 13 12,zD 14 .lss 10 13]) (.kp [1, 2, 3, 4, 14] (.cond (.t 14) (.skip) (.exit 0)))) (A14))
def YQ : ACode := .kp [1, 2] (.seq (.reg [⟨some 3, .mv (.c (.sl 0 [] .nil)), none⟩]) (.kp [1, 2, 3] (.seq (.seq (.reg [zI 4 0]) (.kp [1, 2, 3, 4] (.block 0 (.kp [1, 2, 3, 4] (.loop Zd))))) (A06))))
def c21 : AFun := { nargs := 1, nt := 72, res := [.cell 2 (some 2)], code := .seq (.reg [zH 1 25 5 0,⟨some 2, .alloc 40 [(.sl 0 [] .nil), (.sl 0 [] .nil)], none⟩]) (.kp [1, 2] (.seq (.seq (.reg [zF 5 1 0,zL 6 5,zV 7 44 6]) (.kp [1, 2, 7] (.cond (.t 7) (.seq (.reg [zG 8 5 1,zV 9 45 8,zS 2 2 9]) (.ret)) (.skip)))) (YQ))) }
def A11 : ACode := .kp [4, 5, 9] (.seq (.reg [zF 203 5 1,zL 204 203,zM 205 9,⟨some 206, .bsl 22 none [(.t 205)], none⟩,⟨some 207, .app 22 1 24 (.t 204) (.t 206), none⟩,zF 208 5 1,zU 208 207]) (.kp [4, 5] (.seq (.reg [zG 209 2 5,zS 2 4 209]) (.ret))))
def Zz : ACode := .kp [2, 3, 4, 5, 9] (.seq (.seq (.segs [⟨none, [zF 186 2 0,zL 187 186,zE 188 .eql 187 5,zM 189 188], none⟩,⟨some (189, true), [zF 190 2 2,zL 191 190,zF 192 3 0,zL 193 192,zY 194 193,zD 195 .leq 191 194], some (196, 195)⟩]) (.kp [2, 3, 4, 5, 9, 196] (.cond (.t 196) (.reg [zF 197 3 1,zL 198 197,zF 199 2 2,zL 200 199,zJ 201 1 198 200,zL 202 201,zM 9 202]) (.skip)))) (A11))
def ZN : ACode := .kp [2, 3, 4, 5, 6, 7, 8, 9, 10] (.reg [zM 35 10,zE 36 .add 35 1,zM 10 36])
def A0a : ACode := .kp [2, 3, 4, 5, 6, 7, 8, 9, 10, 11] (.seq (.reg [zF 169 5 0,zL 170 169,zM 171 11,⟨some 172, .bsl 3 none [(.t 171)], none⟩,⟨some 173, .app 3 1 8 (.t 170) (.t 172), none⟩,zF 174 5 0,zU 174 173]) (.kp [2, 3, 4, 5, 6, 7, 8, 9, 10] (.regD .plain [] [zF 175 5 1,zL 176 175,zF 177 3 1,zL 178 177,zM 179 10,zE 180 .add 179 1,zJ 181 1 178 180,zL 182 181,⟨some 183, .bsl 22 none [(.t 182)], none⟩,⟨some 184, .app 22 1 24 (.t 176) (.t 183), none⟩,zF 185 5 1,zU 185 184])))
def A12 : ACode := .kp [2, 3, 4, 5, 6, 7, 8, 9, 10, 11, 12] (.seq (.reg [zM 168 12]) (.kp [2, 3, 4, 5, 6, 7, 8, 9, 10, 11, 168] (.cond (.t 168) (A0a) (.skip))))
def A0v : ACode := .kp [2, 3, 4, 5, 6, 7, 8, 9, 10, 11] (.reg [zM 113 8,zN 114 113,zM 12 114])
def A1q : ACode := .kp [2, 3, 4, 5, 6, 7, 8, 9, 10, 11, 12, 13] (.reg [zM 157 13,zE 158 .add 157 1,zM 13 158])
def A1h : ACode := .kp [2, 3, 4, 5, 6, 7, 8, 9, 10, 11, 12, 13] (.seq (.block 3 (.reg [zF 159 2 1,zL 160 159,zM 161 11,zF 162 3 0,zL 163 162,zM 164 13,zJ 165 1 163 164,zL 166 165,⟨some 167, .callp 80 [(.t 160), (.t 161), (.t 166)], none⟩,zM 11 167])) (A1q))
def ZX : ACode := .ke [2, 3, 4, 5, 6, 7, 8, 9, 10, 11, 12, 13] (.seq (.seq (.reg [zM 154 13,zM 155 10,zD 156 .leq 154 155]) (.kp [2, 3, 4, 5, 6, 7, 8, 9, 10, 11, 12, 13, 156] (.cond (.t 156) (.skip) (.exit 2)))) (A1h))
def Xm : ACode := .kp [2, 3, 4, 5, 6, 7, 8, 9, 10, 12] (.seq (.reg [zF 140 3 0,zL 141 140,zM 142 10,zF 143 2 2,zL 144 143,zD 145 .sub 142 144,zE 146 .add 145 1,zJ 147 1 141 146,zL 148 147,zM 11 148]) (.kp [2, 3, 4, 5, 6, 7, 8, 9, 10, 11, 12] (.seq (.reg [zM 149 10,zF 150 2 2,zL 151 150,zD 152 .sub 149 151,zE 153 .add 152 2,zM 13 153]) (.kp [2, 3, 4, 5, 6, 7, 8, 9, 10, 11, 12, 13] (.block 2 (.kp [2, 3, 4, 5, 6, 7, 8, 9, 10, 11, 12, 13] (.loop ZX)))))))
def Xa : ACode := .kp [2, 3, 4, 5, 6, 7, 8, 9, 10, 11] (.seq (.reg [zM 134 10,zF 135 2 2,zL 136 135,zE 137 .sub 136 1,zD 138 .geq 134 137,zM 12 138]) (.kp [2, 3, 4, 5, 6, 7, 8, 9, 10, 11, 12] (.seq (.reg [zM 139 12]) (.kp [2, 3, 4, 5, 6, 7, 8, 9, 10, 11, 12, 139] (.cond (.t 139) (Xm) (.skip))))))
def Yq : ACode := .kp [2, 3, 4, 5, 6, 7, 8, 9, 10, 11] (.seq (.reg [zM 127 11,zM 128 7,zD 129 .neq 127 128,zM 12 129]) (.kp [2, 3, 4, 5, 6, 8, 9, 10, 11, 12] (.reg [zM 130 11,zM 7 130])))
def YG : ACode := .kp [2, 3, 4, 5, 6, 7, 8, 9, 10, 11, 12] (.seq (.reg [zF 131 2 0,zL 132 131,zE 133 .eql 132 10]) (.kp [2, 3, 4, 5, 6, 7, 8, 9, 10, 11, 12, 133] (.cond (.t 133) (Xa) (.skip))))
def YB : ACode := .kp [2, 3, 4, 5, 6, 7, 8, 9, 10, 11, 12] (.seq (.reg [zF 118 2 1,zL 119 118,zM 120 6,zM 121 11,⟨some 122, .callp 80 [(.t 119), (.t 120), (.t 121)], none⟩,zM 6 122]) (.kp [2, 3, 4, 5, 6, 7, 8, 9, 10, 12] (.reg [zM 123 6,zM 11 123])))
def Z2 : ACode := .kp [2, 3, 4, 5, 6, 7, 8, 9, 10, 11, 12] (.seq (.reg [zF 124 2 0,zL 125 124,zE 126 .eql 125 11]) (.kp [2, 3, 4, 5, 6, 7, 8, 9, 10, 11, 12, 126] (.cond (.t 126) (Yq) (YG))))
def XZ : ACode := .kp [2, 3, 4, 5, 6, 7, 8, 9, 10, 11] (.seq (.seq (.segs [⟨none, [zM 103 8,zM 104 103], none⟩,⟨some (104, true), [zF 105 2 1,zL 106 105,zM 107 11,zF 108 2 2,zL 109 108,⟨some 110, .callp 81 [(.t 106), (.t 107), (.t 109)], none⟩,zN 111 110], none⟩,⟨none, [zP 112 104 111], none⟩]) (.kp [2, 3, 4, 5, 6, 7, 8, 9, 10, 11, 112] (.cond (.t 112) (.reg [zB 8 false]) (.skip)))) (A0v))
def YW : ACode := .kp [2, 3, 4, 5, 6, 7, 8, 9, 10, 11, 12] (.seq (.reg [zF 115 2 0,zL 116 115,zE 117 .eql 116 9]) (.kp [2, 3, 4, 5, 6, 7, 8, 9, 10, 11, 12, 117] (.cond (.t 117) (YB) (Z2))))
def Xo : ACode := .kp [2, 3, 4, 5, 6, 7, 8, 9, 10, 11, 12] (.seq (.reg [zF 100 2 0,zL 101 100,zE 102 .eql 101 8]) (.kp [2, 3, 4, 5, 6, 7, 8, 9, 10, 11, 12, 102] (.cond (.t 102) (XZ) (YW))))
def Yd : ACode := .kp [2, 3, 4, 5, 6, 7, 8, 9, 10, 11, 12] (.seq (.reg [zF 93 2 0,zL 94 93,zE 95 .eql 94 6]) (.kp [2, 3, 4, 5, 6, 7, 8, 9, 10, 11, 12, 95] (.cond (.t 95) (.reg [zM 96 10,zF 97 2 2,zL 98 97,zD 99 .geq 96 98,zM 12 99]) (Xo))))
def Xt : ACode := .kp [2, 3, 4, 5, 6, 7, 8, 9, 10, 11, 12] (.seq (.reg [zF 84 2 0,zL 85 84,zE 86 .eql 85 4]) (.kp [2, 3, 4, 5, 6, 7, 8, 9, 10, 11, 12, 86] (.cond (.t 86) (.reg [zF 87 2 1,zL 88 87,zM 89 11,zF 90 2 2,zL 91 90,⟨some 92, .callp 81 [(.t 88), (.t 89), (.t 91)], none⟩,zM 12 92]) (Yd))))
def XW : ACode := .kp [2, 3, 4, 5, 6, 7, 8, 9, 10, 11, 12] (.seq (.seq (.reg [zF 75 2 0,zL 76 75,zE 77 .eql 76 3]) (.kp [2, 3, 4, 5, 6, 7, 8, 9, 10, 11, 12, 77] (.cond (.t 77) (.reg [zF 78 2 1,zL 79 78,zM 80 11,zF 81 2 2,zL 82 81,⟨some 83, .callp 80 [(.t 79), (.t 80), (.t 82)], none⟩,zM 11 83]) (Xt)))) (A12))
def Y4 : ACode := .kp [2, 3, 4, 5, 6, 7, 8, 9, 10, 11, 12] (.seq (.seq (.segs [⟨none, [zF 57 2 0,zL 58 57,zE 59 .eql 58 7,zM 60 59], none⟩,⟨some (60, true), [zF 61 2 1,zL 62 61,zM 63 11,zF 64 2 2,zL 65 64,⟨some 66, .callp 81 [(.t 62), (.t 63), (.t 65)], none⟩,zN 67 66], none⟩,⟨none, [zP 68 60 67], none⟩]) (.kp [2, 3, 4, 5, 6, 7, 8, 9, 10, 11, 12, 68] (.cond (.t 68) (.seq (.reg [zF 69 3 1,zL 70 69,zM 71 10,zE 72 .add 71 1,zJ 73 1 70 72,zL 74 73,zM 9 74]) (.exit 0)) (.skip)))) (XW))
def YJ : ACode := .kp [2, 3, 4, 5, 6, 7, 8, 9, 10] (.seq (.block 1 (.seq (.reg [zF 37 3 0,zL 38 37,zM 39 10,zJ 40 1 38 39,zL 41 40,zM 11 41]) (.kp [2, 3, 4, 5, 6, 7, 8, 9, 10, 11] (.seq (.reg [zB 12 true]) (.kp [2, 3, 4, 5, 6, 7, 8, 9, 10, 11, 12] (.seq (.seq (.segs [⟨none, [zF 42 2 0,zL 43 42,zE 44 .eql 43 5,zM 45 44], none⟩,⟨some (45, true), [zM 46 10,zF 47 2 2,zL 48 47,zD 49 .geq 46 48], some (50, 49)⟩]) (.kp [2, 3, 4, 5, 6, 7, 8, 9, 10, 11, 12, 50] (.cond (.t 50) (.seq (.reg [zF 51 3 1,zL 52 51,zF 53 2 2,zL 54 53,zJ 55 1 52 54,zL 56 55,zM 9 56]) (.exit 0)) (.skip)))) (Y4))))))) (ZN))
def Yz : ACode := .ke [2, 3, 4, 5, 6, 7, 8, 9, 10] (.seq (.seq (.reg [zM 30 10,zF 31 3 0,zL 32 31,zY 33 32,zD 34 .lss 30 33]) (.kp [2, 3, 4, 5, 6, 7, 8, 9, 10, 34] (.cond (.t 34) (.skip) (.exit 0)))) (YJ))
def c51 : AFun := { nargs := 2, nt := 210, res := [.cell 4 (some 2)], code := .seq (.reg [zH 2 25 5 0,zH 3 40 2 1,⟨some 4, .alloc 40 [(.sl 0 [] .nil), (.sl 0 [] .nil)], none⟩]) (.kp [2, 3, 4] (.seq (.reg [zF 14 3 1,zL 15 14,⟨some 16, .iaddr 1 none (.t 15) (.c (.int .i64 0)), none⟩,zL 17 16,⟨some 18, .bsl 22 none [(.t 17)], none⟩,⟨some 19, .build [(.sl 0 [] .nil), (.sl 0 [] .nil)] [(1, none, (.t 18))], none⟩,⟨some 5, .alloc 40 [(.sl 0 [] .nil), (.sl 0 [] .nil)], none⟩,zS 2 5 19]) (.kp [2, 3, 4, 5] (.seq (.reg [zF 20 2 2,zL 21 20,zM 6 21]) (.kp [2, 3, 4, 5, 6] (.seq (.reg [zI 7 (-1)]) (.kp [2, 3, 4, 5, 6, 7] (.seq (.reg [zB 8 true]) (.kp [2, 3, 4, 5, 6, 7, 8] (.seq (.reg [zF 22 3 1,zL 23 22,zF 24 3 0,zL 25 24,zY 26 25,zE 27 .add 26 1,zJ 28 1 23 27,zL 29 28,zM 9 29]) (.kp [2, 3, 4, 5, 6, 7, 8, 9] (.seq (.seq (.reg [zI 10 0]) (.kp [2, 3, 4, 5, 6, 7, 8, 9, 10] (.block 0 (.kp [2, 3, 4, 5, 6, 7, 8, 9, 10] (.loop Yz))))) (Zz))))))))))))) }
theorem Ao {P : Program} {c d : ACode} (h : c = d) {Q : AExit → AS → Prop} {e : AT} {n : Nat} {H : A4} : aw P c Q ⟨e, n, H⟩ = aw P d Q ⟨e, n, H⟩ := by rw [h]
def c59 : AFun := { nargs := 1, nt := 9, res := [.tmp 2], code := .seq (.reg [⟨some 2, .mv (.c (.str [])), none⟩]) (.kp [0] (.seq (.reg [⟨some 4, .bsl 9 none [(.c (.str [])), (.c (.str [118, 97, 108, 117, 101, 115])), (.c (.str [114, 97, 110, 103, 101])), (.c (.str [109, 97, 112])), (.c (.str [102, 105, 108, 116, 101, 114])), (.c (.str [116, 97, 107, 101])), (.c (.str [100, 114, 111, 112])), (.c (.str [119, 104, 105, 108, 101])), (.c (.str [115, 107, 105, 112])), (.c (.str [115, 99, 97, 110])), (.c (.str [119, 105, 110, 100, 111, 119])), (.c (.str [114, 117, 110, 115])), (.c (.str [114, 101, 112, 101, 97, 116])), (.c (.str [99, 104, 97, 105, 110])), (.c (.str [116, 117, 114, 110, 115])), (.c (.str [122, 105, 112])), (.c (.str [109, 101, 114, 103, 101]))], none⟩,zM 3 4]) (.kp [0, 3] (.seq (.reg [zM 5 3,zM 6 0,zJ 7 1 5 6,zL 8 7,zM 2 8]) (.ret))))) }
theorem A1u : (Aw Tryz.prog Cs Tryz.f59).map (fun x => (x.nargs, x.nt, x.res, x.code)) = some (c59.nargs, c59.nt, c59.res, bare c59.code) := by kernel_rfl
def c54 : AFun := { nargs := 1, nt := 9, res := [.tmp 2], code := .seq (.reg [⟨some 2, .mv (.c (.str [])), none⟩]) (.kp [0] (.seq (.reg [⟨some 4, .bsl 9 none [(.c (.str [])), (.c (.str [112, 108, 117, 115])), (.c (.str [109, 105, 110, 117, 115])), (.c (.str [116, 105, 109, 101, 115])), (.c (.str [109, 97, 120])), (.c (.str [109, 105, 110])), (.c (.str [109, 111, 100]))], none⟩,zM 3 4]) (.kp [0, 3] (.seq (.reg [zM 5 3,zM 6 0,zJ 7 1 5 6,zL 8 7,zM 2 8]) (.ret))))) }
theorem A1s : (Aw Tryz.prog Cs Tryz.f54).map (fun x => (x.nargs, x.nt, x.res, x.code)) = some (c54.nargs, c54.nt, c54.res, bare c54.code) := by kernel_rfl
def c56 : AFun := { nargs := 1, nt := 9, res := [.tmp 2], code := .seq (.reg [⟨some 2, .mv (.c (.str [])), none⟩]) (.kp [0] (.seq (.reg [⟨some 4, .bsl 9 none [(.c (.str [])), (.c (.str [98, 101, 108, 111, 119])), (.c (.str [97, 98, 111, 118, 101])), (.c (.str [100, 105, 118, 105, 115, 105, 98, 108, 101]))], none⟩,zM 3 4]) (.kp [0, 3] (.seq (.reg [zM 5 3,zM 6 0,zJ 7 1 5 6,zL 8 7,zM 2 8]) (.ret))))) }
theorem A34 : (Aw Tryz.prog Cs Tryz.f56).map (fun x => (x.nargs, x.nt, x.res, x.code)) = some (c56.nargs, c56.nt, c56.res, bare c56.code) := by kernel_rfl
def c57_k1 : ACode := .kp [0] (.seq (.reg [zM 29 0,zE 30 .quo 29 10,zV 31 57 30,zM 32 0,zE 33 .rem 32 10,⟨some 34, .bin .add (.c (.int .i64 48)) (.t 33), none⟩,⟨some 35, .cvi .i32 (.t 34), none⟩,⟨some 36, .r2s (.t 35), none⟩,zD 37 .add 31 36,zM 2 37]) (.ret))
def I9 {Q e n H} := @Ao Tryz.prog _ _ c57_k1.eq_1 Q e n H
def c57_k2 : ACode := .kp [0] (.seq (.seq (.reg [zM 23 0,zE 24 .lss 23 10]) (.kp [0, 24] (.cond (.t 24) (.seq (.reg [zM 25 0,⟨some 26, .bin .add (.c (.int .i64 48)) (.t 25), none⟩,⟨some 27, .cvi .i32 (.t 26), none⟩,⟨some 28, .r2s (.t 27), none⟩,zM 2 28]) (.ret)) (.skip)))) (c57_k1))
def Hv {Q e n H} := @Ao Tryz.prog _ _ c57_k2.eq_1 Q e n H
def c57_k3 : ACode := .kp [0] (.seq (.reg [zM 18 0,⟨some 19, .bin .sub (.c (.int .i64 48)) (.t 18), none⟩,⟨some 20, .cvi .i32 (.t 19), none⟩,⟨some 21, .r2s (.t 20), none⟩,⟨some 22, .bin .add (.c (.str [45])) (.t 21), none⟩,zM 2 22]) (.ret))
def Hr {Q e n H} := @Ao Tryz.prog _ _ c57_k3.eq_1 Q e n H
def c57_t4 : ACode := .kp [0] (.seq (.seq (.reg [zM 5 0,zE 6 .lss 5 (-9)]) (.kp [0, 6] (.cond (.t 6) (.seq (.reg [zM 7 0,zE 8 .quo 7 10,⟨some 9, .neg (.t 8), none⟩,zV 10 57 9,⟨some 11, .bin .add (.c (.str [45])) (.t 10), none⟩,zM 12 0,zE 13 .rem 12 10,⟨some 14, .bin .sub (.c (.int .i64 48)) (.t 13), none⟩,⟨some 15, .cvi .i32 (.t 14), none⟩,⟨some 16, .r2s (.t 15), none⟩,zD 17 .add 11 16,zM 2 17]) (.ret)) (.skip)))) (c57_k3))
def Hu {Q e n H} := @Ao Tryz.prog _ _ c57_t4.eq_1 Q e n H
def c57 : AFun := { nargs := 1, nt := 38, res := [.tmp 2], code := .seq (.reg [⟨some 2, .mv (.c (.str [])), none⟩]) (.kp [0] (.seq (.seq (.reg [zM 3 0,zE 4 .lss 3 0]) (.kp [0, 4] (.cond (.t 4) (c57_t4) (.skip)))) (c57_k2))) }
theorem UF : (Aw Tryz.prog Cs Tryz.f57).map (fun x => (x.nargs, x.nt, x.res, x.code)) = some (c57.nargs, c57.nt, c57.res, bare c57.code) := by kernel_rfl
def c129 : AFun := { nargs := 1, nt := 9, res := [.tmp 2], code := .seq (.reg [zB 2 false]) (.kp [0] (.seq (.segs [⟨none, [zM 3 0,⟨some 4, .bin .geq (.t 3) (.c (.int .u8 48)), none⟩,zM 5 4], none⟩,⟨some (5, true), [zM 6 0,⟨some 7, .bin .leq (.t 6) (.c (.int .u8 57)), none⟩], some (8, 7)⟩,⟨none, [zM 2 8], none⟩]) (.ret))) }
theorem T4 : (Aw Tryz.prog Cs Tryz.f129).map (fun x => (x.nargs, x.nt, x.res, x.code)) = some (c129.nargs, c129.nt, c129.res, bare c129.code) := by kernel_rfl
def c88_k1 : ACode := .kp [0, 4, 5] (.seq (.segs [⟨none, [zM 45 5,zM 46 0,⟨some 47, .lenS (.t 46), none⟩,zM 48 4,zD 49 .gtr 47 48,zM 50 49], none⟩,⟨some (50, true), [zM 51 5,zV 52 57 51,zM 53 0,zD 54 .eql 52 53], none⟩,⟨none, [zP 55 50 54,zM 2 45,zM 3 55], none⟩]) (.ret))
def Cc {Q e n H} := @Ao Tryz.prog _ _ c88_k1.eq_1 Q e n H
def c88_k2 : ACode := .kp [0, 4, 5] (.seq (.seq (.reg [zM 41 4,zE 42 .eql 41 1]) (.kp [0, 4, 5, 42] (.cond (.t 42) (.reg [zM 43 5,⟨some 44, .neg (.t 43), none⟩,zM 5 44]) (.skip)))) (c88_k1))
def CZ {Q e n H} := @Ao Tryz.prog _ _ c88_k2.eq_1 Q e n H
def c88_k3 : ACode := .kp [0, 4, 5, 6] (.reg [zM 20 6,zE 21 .add 20 1,zM 6 21])
def Cb {Q e n H} := @Ao Tryz.prog _ _ c88_k3.eq_1 Q e n H
def c88_k4 : ACode := .kp [0, 4, 5, 6] (.reg [zM 33 5,⟨some 34, .bin .mul (.c (.int .i64 10)) (.t 33), none⟩,zM 35 0,zM 36 6,⟨some 37, .sidx (.t 35) (.t 36), none⟩,⟨some 38, .cvi .i64 (.t 37), none⟩,zD 39 .add 34 38,zE 40 .sub 39 48,zM 5 40])
def Cf {Q e n H} := @Ao Tryz.prog _ _ c88_k4.eq_1 Q e n H
def c88_k5 : ACode := .kp [0, 4, 5, 6] (.seq (.block 1 (.seq (.seq (.segs [⟨none, [zM 22 0,zM 23 6,⟨some 24, .sidx (.t 22) (.t 23), none⟩,zV 25 129 24,zN 26 25,zM 27 26], none⟩,⟨some (27, false), [zM 28 6,zM 29 4,zD 30 .sub 28 29,zE 31 .gtr 30 8], some (32, 31)⟩]) (.kp [0, 4, 5, 6, 32] (.cond (.t 32) (.seq (.reg [zI 2 0,zB 3 false]) (.ret)) (.skip)))) (c88_k4))) (c88_k3))
def Cq {Q e n H} := @Ao Tryz.prog _ _ c88_k5.eq_1 Q e n H
def c88_L6 : ACode := .ke [0, 4, 5, 6] (.seq (.seq (.reg [zM 16 6,zM 17 0,⟨some 18, .lenS (.t 17), none⟩,zD 19 .lss 16 18]) (.kp [0, 4, 5, 6, 19] (.cond (.t 19) (.skip) (.exit 0)))) (c88_k5))
def Cd {Q e n H} := @Ao Tryz.prog _ _ c88_L6.eq_1 Q e n H
def c88_k7 : ACode := .kp [0, 4] (.seq (.reg [zI 5 0]) (.kp [0, 4, 5] (.seq (.seq (.reg [zM 15 4,zM 6 15]) (.kp [0, 4, 5, 6] (.block 0 (.kp [0, 4, 5, 6] (.loop c88_L6))))) (c88_k2))))
def CL {Q e n H} := @Ao Tryz.prog _ _ c88_k7.eq_1 Q e n H
def c88 : AFun := { nargs := 1, nt := 56, res := [.tmp 2, .tmp 3], code := .seq (.reg [zI 2 0,zB 3 false]) (.kp [0] (.seq (.reg [zI 4 0]) (.kp [0, 4] (.seq (.seq (.segs [⟨none, [zM 7 0,⟨some 8, .lenS (.t 7), none⟩,zE 9 .gtr 8 0,zM 10 9], none⟩,⟨some (10, true), [zM 11 0,⟨some 12, .sidx (.t 11) (.c (.int .i64 0)), none⟩,⟨some 13, .bin .eql (.t 12) (.c (.int .u8 45)), none⟩], some (14, 13)⟩]) (.kp [0, 4, 14] (.cond (.t 14) (.reg [zI 4 1]) (.skip)))) (c88_k7))))) }
theorem A2o : (Aw Tryz.prog Cs Tryz.f88).map (fun x => (x.nargs, x.nt, x.res, x.code)) = some (c88.nargs, c88.nt, c88.res, bare c88.code) := by kernel_rfl
def c63 : AFun := { nargs := 1, nt := 18, res := [.tmp 2, .tmp 3], code := .seq (.reg [zI 2 0,zB 3 false]) (.kp [0] (.seq (.reg [zM 7 0,zV 8 88 7,zM 6 8,zX 9 6 0,zX 10 6 1,zM 4 9,zM 5 10]) (.kp [0, 4, 5] (.seq (.segs [⟨none, [zM 11 4,zM 12 5,zM 13 12], none⟩,⟨some (13, true), [zM 14 0,⟨some 15, .sidx (.t 14) (.c (.int .i64 0)), none⟩,⟨some 16, .bin .neq (.t 15) (.c (.int .u8 45)), none⟩], some (17, 16)⟩,⟨none, [zM 2 11,zM 3 17], none⟩]) (.ret))))) }
theorem Tu : (Aw Tryz.prog Cs Tryz.f63).map (fun x => (x.nargs, x.nt, x.res, x.code)) = some (c63.nargs, c63.nt, c63.res, bare c63.code) := by kernel_rfl
def c64_k1 : ACode := .kp [] (.seq (.reg [zI 4 0]) (.ret))
def Em {Q e n H} := @Ao Tryz.prog _ _ c64_k1.eq_1 Q e n H
def c64_k2 : ACode := .kp [0, 1, 5] (.reg [zM 8 5,zE 9 .add 8 1,zM 5 9])
def Ek {Q e n H} := @Ao Tryz.prog _ _ c64_k2.eq_1 Q e n H
def c64_k3 : ACode := .kp [0, 1, 5] (.seq (.block 1 (.seq (.segs [⟨none, [zM 10 1,zM 11 10], none⟩,⟨some (11, true), [zM 12 5,zV 13 54 12,zM 14 0,zD 15 .eql 13 14], none⟩,⟨none, [zP 16 11 15,zM 17 16], none⟩,⟨some (17, false), [zM 18 1,zN 19 18,zM 20 19], none⟩,⟨some (20, true), [zM 21 5,zE 22 .leq 21 3], none⟩,⟨some (17, false), [zP 23 20 22,zM 24 23], none⟩,⟨some (24, true), [zM 25 5,zV 26 56 25,zM 27 0,zD 28 .eql 26 27], none⟩,⟨some (17, false), [zP 29 24 28], some (30, 29)⟩]) (.kp [0, 1, 5, 30] (.cond (.t 30) (.seq (.reg [zM 31 5,zM 4 31]) (.ret)) (.skip))))) (c64_k2))
def EW {Q e n H} := @Ao Tryz.prog _ _ c64_k3.eq_1 Q e n H
def c64_L4 : ACode := .ke [0, 1, 5] (.seq (.seq (.reg [zM 6 5,zE 7 .leq 6 6]) (.kp [0, 1, 5, 7] (.cond (.t 7) (.skip) (.exit 0)))) (c64_k3))
def Eb {Q e n H} := @Ao Tryz.prog _ _ c64_L4.eq_1 Q e n H
def c64 : AFun := { nargs := 2, nt := 32, res := [.tmp 4], code := .seq (.reg [zI 4 0]) (.kp [0, 1] (.seq (.seq (.reg [zI 5 1]) (.kp [0, 1, 5] (.block 0 (.kp [0, 1, 5] (.loop c64_L4))))) (c64_k1))) }
theorem A36 : (Aw Tryz.prog Cs Tryz.f64).map (fun x => (x.nargs, x.nt, x.res, x.code)) = some (c64.nargs, c64.nt, c64.res, bare c64.code) := by kernel_rfl
def c62_k1 : ACode := .kp [4, 5] (.seq (.reg [zM 60 4,zM 61 5,zE 62 .eql 61 0,zM 2 60,zM 3 62]) (.ret))
def I5 {Q e n H} := @Ao Tryz.prog _ _ c62_k1.eq_1 Q e n H
def c62_k2 : ACode := .kp [4, 5] (.seq (.seq (.segs [⟨none, [zM 51 4,zY 52 51,zE 53 .eql 52 1,zM 54 53], none⟩,⟨some (54, true), [zM 55 4,⟨some 56, .iaddr 1 none (.t 55) (.c (.int .i64 0)), none⟩,zL 57 56,⟨some 58, .bin .eql (.t 57) (.c (.str [])), none⟩], some (59, 58)⟩]) (.kp [4, 5, 59] (.cond (.t 59) (.reg [⟨some 4, .mv (.c (.sl 0 [] .nil)), none⟩]) (.skip)))) (c62_k1))
def IC {Q e n H} := @Ao Tryz.prog _ _ c62_k2.eq_1 Q e n H
def c62_k3 : ACode := .kp [0, 4, 5, 6, 7] (.reg [zM 12 7,zE 13 .add 12 1,zM 7 13])
def FO {Q e n H} := @Ao Tryz.prog _ _ c62_k3.eq_1 Q e n H
def c62_k4 : ACode := .kp [0, 4, 5, 6, 7] (.seq (.reg [zM 49 5,zE 50 .lss 49 0]) (.kp [0, 4, 5, 6, 7, 50] (.cond (.t 50) (.seq (.reg [⟨some 2, .mv (.c (.sl 0 [] .nil)), none⟩,zB 3 false]) (.ret)) (.skip))))
def GN {Q e n H} := @Ao Tryz.prog _ _ c62_k4.eq_1 Q e n H
def c62_k5 : ACode := .kp [0, 4, 5, 6, 7] (.seq (.seq (.reg [zM 43 0,zM 44 7,⟨some 45, .sidx (.t 43) (.t 44), none⟩,⟨some 46, .bin .eql (.t 45) (.c (.int .u8 41)), none⟩]) (.kp [0, 4, 5, 6, 7, 46] (.cond (.t 46) (.reg [zM 47 5,zE 48 .sub 47 1,zM 5 48]) (.skip)))) (c62_k4))
def GJ {Q e n H} := @Ao Tryz.prog _ _ c62_k5.eq_1 Q e n H
def c62_k6 : ACode := .kp [0, 4, 5, 6, 7] (.seq (.seq (.reg [zM 37 0,zM 38 7,⟨some 39, .sidx (.t 37) (.t 38), none⟩,⟨some 40, .bin .eql (.t 39) (.c (.int .u8 40)), none⟩]) (.kp [0, 4, 5, 6, 7, 40] (.cond (.t 40) (.reg [zM 41 5,zE 42 .add 41 1,zM 5 42]) (.skip)))) (c62_k5))
def GO {Q e n H} := @Ao Tryz.prog _ _ c62_k6.eq_1 Q e n H
def c62_t7 : ACode := .kp [0, 4, 5, 6, 7] (.seq (.reg [zM 28 4,zM 29 0,zM 30 6,zM 31 7,⟨some 32, .cutS (.t 29) (some (.t 30)) (some (.t 31)), none⟩,⟨some 33, .bsl 9 none [(.t 32)], none⟩,⟨some 34, .app 9 1 16 (.t 28) (.t 33), none⟩,zM 4 34]) (.kp [0, 4, 5, 7] (.seq (.reg [zM 35 7,zE 36 .add 35 1,zM 6 36]) (.exit 1))))
def QL {Q e n H} := @Ao Tryz.prog _ _ c62_t7.eq_1 Q e n H
def c62_k8 : ACode := .kp [0, 4, 5, 6, 7] (.seq (.block 1 (.seq (.seq (.segs [⟨none, [zM 14 7,zM 15 0,⟨some 16, .lenS (.t 15), none⟩,zD 17 .eql 14 16,zM 18 17], none⟩,⟨some (18, false), [zM 19 0,zM 20 7,⟨some 21, .sidx (.t 19) (.t 20), none⟩,⟨some 22, .bin .eql (.t 21) (.c (.int .u8 44)), none⟩,zM 23 22], none⟩,⟨some (23, true), [zM 24 5,zE 25 .eql 24 0], none⟩,⟨some (18, false), [zP 26 23 25], some (27, 26)⟩]) (.kp [0, 4, 5, 6, 7, 27] (.cond (.t 27) (c62_t7) (.skip)))) (c62_k6))) (c62_k3))
def Eg {Q e n H} := @Ao Tryz.prog _ _ c62_k8.eq_1 Q e n H
def c62_L9 : ACode := .ke [0, 4, 5, 6, 7] (.seq (.seq (.reg [zM 8 7,zM 9 0,⟨some 10, .lenS (.t 9), none⟩,zD 11 .leq 8 10]) (.kp [0, 4, 5, 6, 7, 11] (.cond (.t 11) (.skip) (.exit 0)))) (c62_k8))
def CC {Q e n H} := @Ao Tryz.prog _ _ c62_L9.eq_1 Q e n H
def c62 : AFun := { nargs := 1, nt := 63, res := [.tmp 2, .tmp 3], code := .seq (.reg [⟨some 2, .mv (.c (.sl 0 [] .nil)), none⟩,zB 3 false]) (.kp [0] (.seq (.reg [⟨some 4, .mv (.c (.sl 0 [] .nil)), none⟩]) (.kp [0, 4] (.seq (.reg [zI 5 0]) (.kp [0, 4, 5] (.seq (.reg [zI 6 0]) (.kp [0, 4, 5, 6] (.seq (.seq (.reg [zI 7 0]) (.kp [0, 4, 5, 6, 7] (.block 0 (.kp [0, 4, 5, 6, 7] (.loop c62_L9))))) (c62_k2))))))))) }
theorem A2d : (Aw Tryz.prog Cs Tryz.f62).map (fun x => (x.nargs, x.nt, x.res, x.code)) = some (c62.nargs, c62.nt, c62.res, bare c62.code) := by kernel_rfl
def c27_k1 : ACode := .kp [2, 6, 10] (.seq (.reg [zF 205 6 4,zL 206 205,zY 207 206,zM 22 207]) (.kp [2, 6, 10, 22] (.seq (.segs [⟨none, [zM 208 10,zE 209 .eql 208 15,zM 210 209], none⟩,⟨some (210, false), [zM 211 10,zE 212 .eql 211 16], some (213, 212)⟩,⟨none, [zM 23 213], none⟩]) (.kp [2, 6, 10, 22, 23] (.seq (.segs [⟨none, [zM 214 10,zE 215 .eql 214 13,zM 216 215], none⟩,⟨some (216, false), [zM 217 10,zE 218 .eql 217 14], some (219, 218)⟩,⟨none, [zM 24 219], none⟩]) (.kp [2, 6, 22, 23, 24] (.seq (.segs [⟨none, [zG 220 5 6,zM 221 24,zM 222 221], none⟩,⟨some (222, false), [zM 223 23,zM 224 223], none⟩,⟨some (224, true), [zM 225 22,zE 226 .eql 225 2], none⟩,⟨some (222, false), [zP 227 224 226], some (228, 227)⟩,⟨none, [zM 229 228], none⟩,⟨some (229, false), [zM 230 23,zN 231 230,zM 232 231], none⟩,⟨some (232, true), [zM 233 22,zE 234 .eql 233 1], none⟩,⟨some (229, false), [zP 235 232 234], some (236, 235)⟩,⟨none, [zS 5 2 220,zM 3 236], none⟩]) (.ret))))))))
def CE {Q e n H} := @Ao Tryz.prog _ _ c27_k1.eq_1 Q e n H
def c27_k2 : ACode := .kp [2, 4, 6, 8, 10, 19] (.reg [zM 186 19,zE 187 .add 186 1,zM 19 187])
def Vc {Q e n H} := @Ao Tryz.prog _ _ c27_k2.eq_1 Q e n H
def c27_k3 : ACode := .kp [2, 4, 6, 8, 10, 19, 20] (.reg [zF 199 6 4,zL 200 199,zG 201 5 20,⟨some 202, .bsl 25 (some 5) [(.t 201)], none⟩,⟨some 203, .app 25 5 72 (.t 200) (.t 202), none⟩,zF 204 6 4,zU 204 203])
def Ul {Q e n H} := @Ao Tryz.prog _ _ c27_k3.eq_1 Q e n H
def c27_k4 : ACode := .kp [2, 4, 6, 8, 10, 19] (.seq (.block 9 (.seq (.reg [zM 189 8,zM 190 19,zJ 191 1 189 190,zL 192 191,zV 193 27 192,zM 188 193,zX 194 188 0,zX 195 188 1,⟨some 20, .alloc 25 [(.int .i64 0), (.int .i64 0), (.int .i64 0), (.sl 0 [] .nil), (.sl 0 [] .nil)], none⟩,zS 5 20 194,zM 21 195]) (.kp [2, 4, 6, 8, 10, 19, 20, 21] (.seq (.seq (.reg [zM 196 21,zN 197 196]) (.kp [2, 4, 6, 8, 10, 19, 20, 197] (.cond (.t 197) (.seq (.reg [zG 198 5 4,zS 5 2 198,zB 3 false]) (.ret)) (.skip)))) (c27_k3))))) (c27_k2))
def PY {Q e n H} := @Ao Tryz.prog _ _ c27_k4.eq_1 Q e n H
def c27_L5 : ACode := .ke [2, 4, 6, 8, 10, 19] (.seq (.seq (.reg [zM 182 19,zM 183 8,zY 184 183,zD 185 .lss 182 184]) (.kp [2, 4, 6, 8, 10, 19, 185] (.cond (.t 185) (.skip) (.exit 8)))) (c27_k4))
def Mg {Q e n H} := @Ao Tryz.prog _ _ c27_L5.eq_1 Q e n H
def c27_k6 : ACode := .kp [2, 4, 6, 8, 10, 14] (.seq (.seq (.reg [zM 181 14,zM 19 181]) (.kp [2, 4, 6, 8, 10, 19] (.block 8 (.kp [2, 4, 6, 8, 10, 19] (.loop c27_L5))))) (c27_k1))
def VL {Q e n H} := @Ao Tryz.prog _ _ c27_k6.eq_1 Q e n H
def c27_k7 : ACode := .kp [2, 4, 6, 8, 10, 14, 17] (.reg [zM 179 17,zF 180 6 2,zU 180 179])
def PP {Q e n H} := @Ao Tryz.prog _ _ c27_k7.eq_1 Q e n H
def c27_t8 : ACode := .kp [2, 4, 6, 8, 10, 14, 15] (.seq (.reg [zM 172 15,zV 173 63 172,zM 171 173,zX 174 171 0,zX 175 171 1,zM 17 174,zM 18 175]) (.kp [2, 4, 6, 8, 10, 14, 17, 18] (.seq (.seq (.reg [zM 176 18,zN 177 176]) (.kp [2, 4, 6, 8, 10, 14, 17, 177] (.cond (.t 177) (.seq (.reg [zG 178 5 4,zS 5 2 178,zB 3 false]) (.ret)) (.skip)))) (c27_k7))))
def Hs {Q e n H} := @Ao Tryz.prog _ _ c27_t8.eq_1 Q e n H
def c27_k9 : ACode := .kp [2, 4, 6, 8, 10, 14, 15] (.seq (.reg [zM 169 10,zE 170 .neq 169 15]) (.kp [2, 4, 6, 8, 10, 14, 15, 170] (.cond (.t 170) (c27_t8) (.skip))))
def Gs {Q e n H} := @Ao Tryz.prog _ _ c27_k9.eq_1 Q e n H
def c27_k10 : ACode := .kp [2, 4, 6, 8, 10, 14, 15, 16] (.seq (.reg [zM 163 10,zE 164 .neq 163 15]) (.kp [2, 4, 6, 8, 10, 14, 15, 16, 164] (.cond (.t 164) (.reg [zM 165 15,zM 166 16,zE 167 .add 166 1,⟨some 168, .cutS (.t 165) (some (.t 167)) none, none⟩,zM 15 168]) (.skip))))
def Jk {Q e n H} := @Ao Tryz.prog _ _ c27_k10.eq_1 Q e n H
def c27_k11 : ACode := .kp [2, 4, 6, 8, 10, 14, 15, 16] (.seq (.reg [zM 143 15,zM 144 16,⟨some 145, .cutS (.t 143) none (some (.t 144)), none⟩,zM 146 10,zV 147 53 146,zW 148 64 145 147,zF 149 6 1,zU 149 148]) (.kp [2, 4, 6, 8, 10, 14, 15, 16] (.seq (.seq (.segs [⟨none, [zF 150 6 1,zL 151 150,zE 152 .eql 151 0,zM 153 152], none⟩,⟨some (153, false), [zM 154 10,zE 155 .eql 154 15,zM 156 16,zM 157 15,⟨some 158, .lenS (.t 157), none⟩,zD 159 .eql 156 158,⟨some 160, .eqb true (.t 155) (.t 159), none⟩], some (161, 160)⟩]) (.kp [2, 4, 6, 8, 10, 14, 15, 16, 161] (.cond (.t 161) (.seq (.reg [zG 162 5 4,zS 5 2 162,zB 3 false]) (.ret)) (.skip)))) (c27_k10))))
def Ea {Q e n H} := @Ao Tryz.prog _ _ c27_k11.eq_1 Q e n H
def c27_k12 : ACode := .kp [2, 4, 6, 8, 10, 14, 15, 16] (.block 7 (.reg [zM 141 16,zE 142 .add 141 1,zM 16 142]))
def T2 {Q e n H} := @Ao Tryz.prog _ _ c27_k12.eq_1 Q e n H
def c27_L13 : ACode := .ke [2, 4, 6, 8, 10, 14, 15, 16] (.seq (.seq (.segs [⟨none, [zM 131 16,zM 132 15,⟨some 133, .lenS (.t 132), none⟩,zD 134 .lss 131 133,zM 135 134], none⟩,⟨some (135, true), [zM 136 15,zM 137 16,⟨some 138, .sidx (.t 136) (.t 137), none⟩,⟨some 139, .bin .neq (.t 138) (.c (.int .u8 32)), none⟩], some (140, 139)⟩]) (.kp [2, 4, 6, 8, 10, 14, 15, 16, 140] (.cond (.t 140) (.skip) (.exit 6)))) (c27_k12))
def K0 {Q e n H} := @Ao Tryz.prog _ _ c27_L13.eq_1 Q e n H
def c27_t14 : ACode := .kp [2, 4, 6, 8, 10, 14, 15] (.seq (.reg [zI 16 0]) (.kp [2, 4, 6, 8, 10, 14, 15, 16] (.seq (.block 6 (.kp [2, 4, 6, 8, 10, 14, 15, 16] (.loop c27_L13))) (c27_k11))))
def OP {Q e n H} := @Ao Tryz.prog _ _ c27_t14.eq_1 Q e n H
def c27_k15 : ACode := .kp [2, 4, 6, 8, 10, 14] (.seq (.reg [zM 125 8,⟨some 126, .iaddr 1 none (.t 125) (.c (.int .i64 0)), none⟩,zL 127 126,zM 15 127]) (.kp [2, 4, 6, 8, 10, 14, 15] (.seq (.seq (.reg [zM 128 10,zV 129 58 128,zN 130 129]) (.kp [2, 4, 6, 8, 10, 14, 15, 130] (.cond (.t 130) (c27_t14) (.skip)))) (c27_k9))))
def H6 {Q e n H} := @Ao Tryz.prog _ _ c27_k15.eq_1 Q e n H
def c27_t16 : ACode := .kp [2, 4, 6, 8, 10] (.seq (.reg [zI 14 1]) (.kp [2, 4, 6, 8, 10, 14] (.seq (.seq (.reg [zM 121 8,zY 122 121,zE 123 .eql 122 0]) (.kp [2, 4, 6, 8, 10, 14, 123] (.cond (.t 123) (.seq (.reg [zG 124 5 4,zS 5 2 124,zB 3 false]) (.ret)) (.skip)))) (c27_k15))))
def Da {Q e n H} := @Ao Tryz.prog _ _ c27_t16.eq_1 Q e n H
def c27_k17 : ACode := .kp [2, 4, 6, 8, 10] (.seq (.reg [zI 14 0]) (.kp [2, 4, 6, 8, 10, 14] (.seq (.seq (.segs [⟨none, [zM 111 10,zV 112 53 111,zM 113 112], none⟩,⟨some (113, false), [zM 114 10,zV 115 55 114], none⟩,⟨none, [zO 116 113 115,zM 117 116], none⟩,⟨some (117, false), [zM 118 10,zV 119 58 118], none⟩,⟨none, [zO 120 117 119], none⟩]) (.kp [2, 4, 6, 8, 10, 14, 120] (.cond (.t 120) (c27_t16) (.skip)))) (c27_k6))))
def CV {Q e n H} := @Ao Tryz.prog _ _ c27_k17.eq_1 Q e n H
def c27_k18 : ACode := .kp [2, 6] (.seq (.reg [zG 110 5 6,zS 5 2 110,zB 3 true]) (.ret))
def Sj {Q e n H} := @Ao Tryz.prog _ _ c27_k18.eq_1 Q e n H
def c27_k19 : ACode := .kp [2, 4, 6, 8, 11] (.reg [zM 91 11,zE 92 .add 91 1,zM 11 92])
def TN {Q e n H} := @Ao Tryz.prog _ _ c27_k19.eq_1 Q e n H
def c27_k20 : ACode := .kp [2, 4, 6, 8, 11, 12] (.reg [zF 104 6 3,zL 105 104,zM 106 12,⟨some 107, .bsl 3 none [(.t 106)], none⟩,⟨some 108, .app 3 1 8 (.t 105) (.t 107), none⟩,zF 109 6 3,zU 109 108])
def TF {Q e n H} := @Ao Tryz.prog _ _ c27_k20.eq_1 Q e n H
def c27_k21 : ACode := .kp [2, 4, 6, 8, 11] (.seq (.block 5 (.seq (.reg [zM 94 8,zM 95 11,zJ 96 1 94 95,zL 97 96,zV 98 63 97,zM 93 98,zX 99 93 0,zX 100 93 1,zM 12 99,zM 13 100]) (.kp [2, 4, 6, 8, 11, 12, 13] (.seq (.seq (.reg [zM 101 13,zN 102 101]) (.kp [2, 4, 6, 8, 11, 12, 102] (.cond (.t 102) (.seq (.reg [zG 103 5 4,zS 5 2 103,zB 3 false]) (.ret)) (.skip)))) (c27_k20))))) (c27_k19))
def O4 {Q e n H} := @Ao Tryz.prog _ _ c27_k21.eq_1 Q e n H
def c27_L22 : ACode := .ke [2, 4, 6, 8, 11] (.seq (.seq (.reg [zM 87 11,zM 88 8,zY 89 88,zD 90 .lss 87 89]) (.kp [2, 4, 6, 8, 11, 90] (.cond (.t 90) (.skip) (.exit 4)))) (c27_k21))
def Jb {Q e n H} := @Ao Tryz.prog _ _ c27_L22.eq_1 Q e n H
def c27_t23 : ACode := .kp [2, 4, 6, 8] (.seq (.seq (.reg [zI 11 0]) (.kp [2, 4, 6, 8, 11] (.block 4 (.kp [2, 4, 6, 8, 11] (.loop c27_L22))))) (c27_k18))
def T8 {Q e n H} := @Ao Tryz.prog _ _ c27_t23.eq_1 Q e n H
def c27_k24 : ACode := .kp [2, 4, 6, 8] (.seq (.reg [zF 83 6 0,zL 84 83,zM 10 84]) (.kp [2, 4, 6, 8, 10] (.seq (.seq (.reg [zM 85 10,zV 86 44 85]) (.kp [2, 4, 6, 8, 10, 86] (.cond (.t 86) (c27_t23) (.skip)))) (c27_k17))))
def P1 {Q e n H} := @Ao Tryz.prog _ _ c27_k24.eq_1 Q e n H
def c27_k25 : ACode := .kp [0, 2, 4, 5, 6] (.seq (.reg [zM 65 0,zM 66 5,zE 67 .add 66 1,zM 68 0,⟨some 69, .lenS (.t 68), none⟩,zE 70 .sub 69 1,⟨some 71, .cutS (.t 65) (some (.t 67)) (some (.t 70)), none⟩,zV 72 62 71,zM 64 72,zX 73 64 0,zX 74 64 1,zM 8 73,zM 9 74]) (.kp [2, 4, 6, 8, 9] (.seq (.seq (.segs [⟨none, [zF 75 6 0,zL 76 75,zE 77 .eql 76 0,zM 78 77], none⟩,⟨some (78, false), [zM 79 9,zN 80 79], some (81, 80)⟩]) (.kp [2, 4, 6, 8, 81] (.cond (.t 81) (.seq (.reg [zG 82 5 4,zS 5 2 82,zB 3 false]) (.ret)) (.skip)))) (c27_k24))))
def Lt {Q e n H} := @Ao Tryz.prog _ _ c27_k25.eq_1 Q e n H
def c27_k26 : ACode := .kp [0, 2, 4, 5, 6, 7] (.reg [zM 54 7,zE 55 .add 54 1,zM 7 55])
def Of {Q e n H} := @Ao Tryz.prog _ _ c27_k26.eq_1 Q e n H
def c27_k27 : ACode := .kp [0, 2, 4, 5, 6, 7] (.seq (.block 3 (.seq (.reg [zM 56 7,zV 57 59 56,zM 58 0,zM 59 5,⟨some 60, .cutS (.t 58) none (some (.t 59)), none⟩,zD 61 .eql 57 60]) (.kp [0, 2, 4, 5, 6, 7, 61] (.cond (.t 61) (.reg [zM 62 7,zF 63 6 0,zU 63 62]) (.skip))))) (c27_k26))
def OS {Q e n H} := @Ao Tryz.prog _ _ c27_k27.eq_1 Q e n H
def c27_L28 : ACode := .ke [0, 2, 4, 5, 6, 7] (.seq (.seq (.reg [zM 52 7,zE 53 .leq 52 16]) (.kp [0, 2, 4, 5, 6, 7, 53] (.cond (.t 53) (.skip) (.exit 2)))) (c27_k27))
def J2 {Q e n H} := @Ao Tryz.prog _ _ c27_L28.eq_1 Q e n H
def c27_k29 : ACode := .kp [0, 2, 4, 5] (.seq (.reg [⟨some 51, .build [(.int .i64 0), (.int .i64 0), (.int .i64 0), (.sl 0 [] .nil), (.sl 0 [] .nil)] [], none⟩,⟨some 6, .alloc 25 [(.int .i64 0), (.int .i64 0), (.int .i64 0), (.sl 0 [] .nil), (.sl 0 [] .nil)], none⟩,zS 5 6 51]) (.kp [0, 2, 4, 5, 6] (.seq (.seq (.reg [zI 7 1]) (.kp [0, 2, 4, 5, 6, 7] (.block 2 (.kp [0, 2, 4, 5, 6, 7] (.loop c27_L28))))) (c27_k25))))
def T3 {Q e n H} := @Ao Tryz.prog _ _ c27_k29.eq_1 Q e n H
def c27_k30 : ACode := .kp [0, 2, 4, 5] (.seq (.seq (.segs [⟨none, [zM 38 5,zM 39 0,⟨some 40, .lenS (.t 39), none⟩,zD 41 .eql 38 40,zM 42 41], none⟩,⟨some (42, false), [zM 43 0,zM 44 0,⟨some 45, .lenS (.t 44), none⟩,zE 46 .sub 45 1,⟨some 47, .sidx (.t 43) (.t 46), none⟩,⟨some 48, .bin .neq (.t 47) (.c (.int .u8 41)), none⟩], some (49, 48)⟩]) (.kp [0, 2, 4, 5, 49] (.cond (.t 49) (.seq (.reg [zG 50 5 4,zS 5 2 50,zB 3 false]) (.ret)) (.skip)))) (c27_k29))
def Gv {Q e n H} := @Ao Tryz.prog _ _ c27_k30.eq_1 Q e n H
def c27_k31 : ACode := .kp [0, 2, 4, 5] (.block 1 (.reg [zM 36 5,zE 37 .add 36 1,zM 5 37]))
def Sh {Q e n H} := @Ao Tryz.prog _ _ c27_k31.eq_1 Q e n H
def c27_L32 : ACode := .ke [0, 2, 4, 5] (.seq (.seq (.segs [⟨none, [zM 26 5,zM 27 0,⟨some 28, .lenS (.t 27), none⟩,zD 29 .lss 26 28,zM 30 29], none⟩,⟨some (30, true), [zM 31 0,zM 32 5,⟨some 33, .sidx (.t 31) (.t 32), none⟩,⟨some 34, .bin .neq (.t 33) (.c (.int .u8 40)), none⟩], some (35, 34)⟩]) (.kp [0, 2, 4, 5, 35] (.cond (.t 35) (.skip) (.exit 0)))) (c27_k31))
def KU {Q e n H} := @Ao Tryz.prog _ _ c27_L32.eq_1 Q e n H
def c27 : AFun := { nargs := 1, nt := 237, res := [.cell 2 (some 5), .tmp 3], code := .seq (.reg [⟨some 2, .alloc 25 [(.int .i64 0), (.int .i64 0), (.int .i64 0), (.sl 0 [] .nil), (.sl 0 [] .nil)], none⟩,zB 3 false]) (.kp [0, 2] (.seq (.reg [⟨some 25, .build [(.int .i64 0), (.int .i64 0), (.int .i64 0), (.sl 0 [] .nil), (.sl 0 [] .nil)] [], none⟩,⟨some 4, .alloc 25 [(.int .i64 0), (.int .i64 0), (.int .i64 0), (.sl 0 [] .nil), (.sl 0 [] .nil)], none⟩,zS 5 4 25]) (.kp [0, 2, 4] (.seq (.reg [zI 5 0]) (.kp [0, 2, 4, 5] (.seq (.block 0 (.kp [0, 2, 4, 5] (.loop c27_L32))) (c27_k30))))))) }
theorem A2j : (Aw Tryz.prog Cs Tryz.f27).map (fun x => (x.nargs, x.nt, x.res, x.code)) = some (c27.nargs, c27.nt, c27.res, bare c27.code) := by kernel_rfl
end Go.Proofs.YtjdccdelcnmocaaGreatDoor
