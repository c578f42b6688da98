/- The code of some functions on plain data, by program, and that it is what the program's text gives; no condition. -/
import Derived.Test.YtjdccdelcnmocaaGreatDoorAdE
import Derived.Test.YtjdccdelcnmocaaGreatDoorProg
import Derived.KernelRfl
set_option linter.all false
set_option linter.unusedSimpArgs false
set_option linter.unusedVariables false
namespace Go.Proofs.YtjdccdelcnmocaaGreatDoor
theorem Av {P : Program} {c d : ACode} (h : c = d) {Q : AExit → AS → Prop} {e : AW} {n : Nat} {H : A2} : aw P c Q ⟨e, n, H⟩ = aw P d Q ⟨e, n, H⟩ := by rw [h]
def c96_k1 : ACode := .kp [0, 1] (.seq (.reg [zL 8 1,⟨some 9, .callv (.t 8) [], none⟩,zM 7 9,zX 10 7 0,zX 11 7 1,zM 4 10,zM 5 11]) (.kp [0, 4, 5] (.seq (.reg [zM 12 5,zN 13 12,zU 0 13]) (.kp [4, 5] (.seq (.reg [zM 14 4,zM 15 5,zM 2 14,zM 3 15]) (.ret))))))
def Kk {Q e n H} := @Av Tryz.prog _ _ c96_k1.eq_1 Q e n H
def c96 : AFun := { nargs := 2, nt := 16, res := [.tmp 2, .tmp 3], code := .seq (.reg [zI 2 0,zB 3 false]) (.kp [0, 1] (.seq (.seq (.reg [zL 6 0]) (.kp [0, 1, 6] (.cond (.t 6) (.seq (.reg [zI 2 0,zB 3 false]) (.ret)) (.skip)))) (c96_k1))) }
theorem YO : (Ah Tryz.prog C8 Tryz.f96).map (fun x => (x.nargs, x.nt, x.res, x.code)) = some (c96.nargs, c96.nt, c96.res, bare c96.code) := by kernel_rfl
def c97_k1 : ACode := .kp [0, 1, 2, 5] (.seq (.reg [zL 17 0,zZ 18 17,zF 19 18 0,zL 20 19,zL 21 1,zJ 22 1 20 21,zL 23 22,zE 24 .add 23 1,zJ 25 1 20 21,zU 25 24]) (.kp [2, 5] (.seq (.reg [zL 26 2,zM 27 5,zJ 28 1 26 27,zL 29 28,zM 3 29,zB 4 true]) (.ret))))
def Q0 {Q e n H} := @Av Tryz.prog _ _ c97_k1.eq_1 Q e n H
def c97 : AFun := { nargs := 3, nt := 30, res := [.tmp 3, .tmp 4], code := .seq (.reg [zI 3 0,zB 4 false]) (.kp [0, 1, 2] (.seq (.reg [zL 6 0,zZ 7 6,zF 8 7 0,zL 9 8,zL 10 1,zJ 11 1 9 10,zL 12 11,zM 5 12]) (.kp [0, 1, 2, 5] (.seq (.seq (.reg [zM 13 5,zL 14 2,zY 15 14,zD 16 .eql 13 15]) (.kp [0, 1, 2, 5, 16] (.cond (.t 16) (.seq (.reg [zI 3 0,zB 4 false]) (.ret)) (.skip)))) (c97_k1))))) }
theorem A0r : (Ah Tryz.prog C8 Tryz.f97).map (fun x => (x.nargs, x.nt, x.res, x.code)) = some (c97.nargs, c97.nt, c97.res, bare c97.code) := by kernel_rfl
def c98_k1 : ACode := .kp [] (.seq (.reg [zI 1 0,zB 2 false]) (.ret))
def Ij {Q e n H} := @Av Tryz.prog _ _ c98_k1.eq_1 Q e n H
def c98_k2 : ACode := .kp [0] (.reg [zL 17 0,⟨some 18, .cut 1 (.t 17) (some (.c (.int .i64 1))) none, none⟩,zU 0 18])
def IL {Q e n H} := @Av Tryz.prog _ _ c98_k2.eq_1 Q e n H
def c98_k3 : ACode := .kp [0] (.block 1 (.seq (.seq (.reg [zL 9 0,⟨some 10, .iaddr 1 none (.t 9) (.c (.int .i64 0)), none⟩,zL 11 10,⟨some 12, .callv (.t 11) [], none⟩,zM 8 12,zX 13 8 0,zX 14 8 1,zM 3 13,zM 4 14]) (.kp [0, 3, 4] (.seq (.reg [zM 15 4]) (.kp [0, 3, 15] (.cond (.t 15) (.seq (.reg [zM 16 3,zM 1 16,zB 2 true]) (.ret)) (.skip)))))) (c98_k2)))
def IP {Q e n H} := @Av Tryz.prog _ _ c98_k3.eq_1 Q e n H
def c98_L4 : ACode := .ke [0] (.seq (.seq (.reg [zL 5 0,zY 6 5,zE 7 .gtr 6 0]) (.kp [0, 7] (.cond (.t 7) (.skip) (.exit 0)))) (c98_k3))
def Ia {Q e n H} := @Av Tryz.prog _ _ c98_L4.eq_1 Q e n H
def c98 : AFun := { nargs := 1, nt := 19, res := [.tmp 1, .tmp 2], code := .seq (.reg [zI 1 0,zB 2 false]) (.kp [0] (.seq (.block 0 (.kp [0] (.loop c98_L4))) (c98_k1))) }
theorem A4u : (Ah Tryz.prog C8 Tryz.f98).map (fun x => (x.nargs, x.nt, x.res, x.code)) = some (c98.nargs, c98.nt, c98.res, bare c98.code) := by kernel_rfl
def c99_k1 : ACode := .kp [] (.seq (.reg [zI 1 0,zB 2 false]) (.ret))
def Fw {Q e n H} := @Av Tryz.prog _ _ c99_k1.eq_1 Q e n H
def c99_t2 : ACode := .kp [0, 3, 4] (.seq (.reg [zL 20 0,⟨some 21, .call 100 [(.t 20)], none⟩,zM 22 3,⟨some 23, .bsl 76 none [(.t 22)], none⟩,⟨some 24, .app 76 1 8 (.t 21) (.t 23), none⟩,zU 0 24]) (.kp [4] (.seq (.reg [zM 25 4,zM 1 25,zB 2 true]) (.ret))))
def Fz {Q e n H} := @Av Tryz.prog _ _ c99_t2.eq_1 Q e n H
def c99_k3 : ACode := .kp [0] (.block 1 (.seq (.reg [zL 9 0,⟨some 10, .iaddr 1 none (.t 9) (.c (.int .i64 0)), none⟩,zL 11 10,zM 3 11]) (.kp [0, 3] (.seq (.reg [zL 12 0,⟨some 13, .cut 1 (.t 12) (some (.c (.int .i64 1))) none, none⟩,zU 0 13]) (.kp [0, 3] (.seq (.reg [zM 15 3,⟨some 16, .callv (.t 15) [], none⟩,zM 14 16,zX 17 14 0,zX 18 14 1,zM 4 17,zM 5 18]) (.kp [0, 3, 4, 5] (.seq (.reg [zM 19 5]) (.kp [0, 3, 4, 19] (.cond (.t 19) (c99_t2) (.skip)))))))))))
def Fm {Q e n H} := @Av Tryz.prog _ _ c99_k3.eq_1 Q e n H
def c99_L4 : ACode := .ke [0] (.seq (.seq (.reg [zL 6 0,zY 7 6,zE 8 .gtr 7 0]) (.kp [0, 8] (.cond (.t 8) (.skip) (.exit 0)))) (c99_k3))
def G6 {Q e n H} := @Av Tryz.prog _ _ c99_L4.eq_1 Q e n H
def c99 : AFun := { nargs := 1, nt := 26, res := [.tmp 1, .tmp 2], code := .seq (.reg [zI 1 0,zB 2 false]) (.kp [0] (.seq (.block 0 (.kp [0] (.loop c99_L4))) (c99_k1))) }
theorem A3z : (Ah Tryz.prog C8 Tryz.f99).map (fun x => (x.nargs, x.nt, x.res, x.code)) = some (c99.nargs, c99.nt, c99.res, bare c99.code) := by kernel_rfl
def c101_k1 : ACode := .kp [2, 5, 7] (.seq (.reg [zL 22 2,zM 23 5,zM 24 7,⟨some 25, .callp 102 [(.t 22), (.t 23), (.t 24)], none⟩,zM 3 25,zB 4 true]) (.ret))
def JO {Q e n H} := @Av Tryz.prog _ _ c101_k1.eq_1 Q e n H
def c101_k2 : ACode := .kp [1, 2, 5] (.seq (.reg [zL 16 1,⟨some 17, .callv (.t 16) [], none⟩,zM 15 17,zX 18 15 0,zX 19 15 1,zM 7 18,zM 6 19]) (.kp [2, 5, 6, 7] (.seq (.seq (.reg [zM 20 6,zN 21 20]) (.kp [2, 5, 7, 21] (.cond (.t 21) (.seq (.reg [zI 3 0,zB 4 false]) (.ret)) (.skip)))) (c101_k1))))
def JA {Q e n H} := @Av Tryz.prog _ _ c101_k2.eq_1 Q e n H
def c101 : AFun := { nargs := 3, nt := 26, res := [.tmp 3, .tmp 4], code := .seq (.reg [zI 3 0,zB 4 false]) (.kp [0, 1, 2] (.seq (.reg [zL 9 0,⟨some 10, .callv (.t 9) [], none⟩,zM 8 10,zX 11 8 0,zX 12 8 1,zM 5 11,zM 6 12]) (.kp [1, 2, 5, 6] (.seq (.seq (.reg [zM 13 6,zN 14 13]) (.kp [1, 2, 5, 14] (.cond (.t 14) (.seq (.reg [zI 3 0,zB 4 false]) (.ret)) (.skip)))) (c101_k2))))) }
theorem Tz : (Ah Tryz.prog C8 Tryz.f101).map (fun x => (x.nargs, x.nt, x.res, x.code)) = some (c101.nargs, c101.nt, c101.res, bare c101.code) := by kernel_rfl
def c103_k1 : ACode := .kp [1, 2, 7] (.seq (.reg [zM 47 7,⟨some 48, .aaddr 2 1 none (.t 1) (.t 47), none⟩,⟨none, .store none (.t 48) (.c (.bool false)), none⟩]) (.kp [2, 7] (.seq (.reg [zM 49 7,⟨some 50, .aaddr 2 1 none (.t 2) (.t 49), none⟩,zL 51 50,zM 3 51,zB 4 true]) (.ret))))
def CL {Q e n H} := @Av Tryz.prog _ _ c103_k1.eq_1 Q e n H
def c103_k2 : ACode := .kp [1, 2, 7] (.seq (.seq (.reg [zM 43 7,⟨some 44, .aaddr 2 1 none (.t 1) (.t 43), none⟩,zL 45 44,zN 46 45]) (.kp [1, 2, 7, 46] (.cond (.t 46) (.seq (.reg [zI 3 0,zB 4 false]) (.ret)) (.skip)))) (c103_k1))
def CQ {Q e n H} := @Av Tryz.prog _ _ c103_k2.eq_1 Q e n H
def c103_k3 : ACode := .kp [1, 2] (.seq (.reg [zI 7 0]) (.kp [1, 2, 7] (.seq (.seq (.segs [⟨none, [⟨some 29, .aaddr 2 1 none (.t 1) (.c (.int .i64 0)), none⟩,zL 30 29,zN 31 30,zM 32 31], none⟩,⟨some (32, false), [⟨some 33, .aaddr 2 1 none (.t 1) (.c (.int .i64 1)), none⟩,zL 34 33,zM 35 34], none⟩,⟨some (35, true), [⟨some 36, .aaddr 2 1 none (.t 2) (.c (.int .i64 1)), none⟩,zL 37 36,⟨some 38, .aaddr 2 1 none (.t 2) (.c (.int .i64 0)), none⟩,zL 39 38,zD 40 .lss 37 39], none⟩,⟨some (32, false), [zP 41 35 40], some (42, 41)⟩]) (.kp [1, 2, 7, 42] (.cond (.t 42) (.reg [zI 7 1]) (.skip)))) (c103_k2))))
def CF {Q e n H} := @Av Tryz.prog _ _ c103_k3.eq_1 Q e n H
def c103_k4 : ACode := .kp [1, 2, 8, 9, 10] (.reg [zE 28 .add 10 1,zM 10 28])
def CC {Q e n H} := @Av Tryz.prog _ _ c103_k4.eq_1 Q e n H
def c103_k5 : ACode := .kp [1, 2, 8, 9, 10] (.seq (.block 1 (.seq (.reg [zM 12 10,zJ 13 1 8 10,zL 14 13,zM 5 12,zM 6 14]) (.kp [1, 2, 5, 6, 8, 9, 10] (.seq (.reg [zM 15 5,⟨some 16, .aaddr 2 1 none (.t 1) (.t 15), none⟩,zL 17 16,zN 18 17]) (.kp [1, 2, 5, 6, 8, 9, 10, 18] (.cond (.t 18) (.reg [zM 20 5,zM 21 5,zM 22 6,⟨some 23, .callv (.t 22) [], none⟩,zM 19 23,zX 24 19 0,zX 25 19 1,⟨some 26, .aaddr 2 1 none (.t 2) (.t 20), none⟩,zU 26 24,⟨some 27, .aaddr 2 1 none (.t 1) (.t 21), none⟩,zU 27 25]) (.skip))))))) (c103_k4))
def CM {Q e n H} := @Av Tryz.prog _ _ c103_k5.eq_1 Q e n H
def c103_L6 : ACode := .ke [1, 2, 8, 9, 10] (.seq (.reg [zD 11 .lss 10 9]) (.kp [1, 2, 8, 9, 10, 11] (.seq (.cond (.t 11) (.skip) (.exit 0)) (c103_k5))))
def CI {Q e n H} := @Av Tryz.prog _ _ c103_L6.eq_1 Q e n H
def c103 : AFun := { nargs := 3, nt := 52, res := [.tmp 3, .tmp 4], code := .seq (.reg [zI 3 0,zB 4 false]) (.kp [0, 1, 2] (.seq (.seq (.reg [zL 8 0,zY 9 8,zI 10 0]) (.kp [1, 2, 8, 9, 10] (.block 0 (.kp [1, 2, 8, 9, 10] (.loop c103_L6))))) (c103_k3))) }
theorem A3c : (Ah Tryz.prog C8 Tryz.f103).map (fun x => (x.nargs, x.nt, x.res, x.code)) = some (c103.nargs, c103.nt, c103.res, bare c103.code) := by kernel_rfl
def c104_k1 : ACode := .kp [1, 4] (.seq (.reg [zF 13 1 1,zL 14 13,zM 15 4,zF 16 1 2,zL 17 16,⟨some 18, .callp 102 [(.t 14), (.t 15), (.t 17)], none⟩,zM 2 18,zB 3 true]) (.ret))
def PU {Q e n H} := @Av Tryz.prog _ _ c104_k1.eq_1 Q e n H
def c104 : AFun := { nargs := 2, nt := 19, res := [.tmp 2, .tmp 3], code := .seq (.reg [zI 2 0,zB 3 false]) (.kp [0, 1] (.seq (.reg [zL 7 0,⟨some 8, .callv (.t 7) [], none⟩,zM 6 8,zX 9 6 0,zX 10 6 1,zM 4 9,zM 5 10]) (.kp [1, 4, 5] (.seq (.seq (.reg [zM 11 5,zN 12 11]) (.kp [1, 4, 12] (.cond (.t 12) (.seq (.reg [zI 2 0,zB 3 false]) (.ret)) (.skip)))) (c104_k1))))) }
theorem XZ : (Ah Tryz.prog C8 Tryz.f104).map (fun x => (x.nargs, x.nt, x.res, x.code)) = some (c104.nargs, c104.nt, c104.res, bare c104.code) := by kernel_rfl
def c105 : AFun := { nargs := 2, nt := 9, res := [.tmp 2, .tmp 3], code := .seq (.reg [zI 2 0,zB 3 false]) (.kp [0, 1] (.seq (.reg [zL 4 0,⟨some 5, .mkfn 107 [] [(.t 1)], none⟩,⟨some 6, .call 106 [(.t 4), (.t 5)], none⟩,zX 7 6 0,zX 8 6 1,zM 2 7,zM 3 8]) (.ret))) }
theorem Xq : (Ah Tryz.prog C8 Tryz.f105).map (fun x => (x.nargs, x.nt, x.res, x.code)) = some (c105.nargs, c105.nt, c105.res, bare c105.code) := by kernel_rfl
def c107 : AFun := { nargs := 2, nt := 10, res := [.tmp 3], code := .seq (.reg [zB 3 false]) (.kp [0, 1] (.seq (.reg [zF 4 1 1,zL 5 4,zM 6 0,zF 7 1 2,zL 8 7,⟨some 9, .callp 108 [(.t 5), (.t 6), (.t 8)], none⟩,zM 3 9]) (.ret))) }
theorem A32 : (Ah Tryz.prog C8 Tryz.f107).map (fun x => (x.nargs, x.nt, x.res, x.code)) = some (c107.nargs, c107.nt, c107.res, bare c107.code) := by kernel_rfl
def c111 : AFun := { nargs := 2, nt := 21, res := [.tmp 2, .tmp 3], code := .seq (.reg [zI 2 0,zB 3 false]) (.kp [0, 1] (.seq (.reg [zL 7 0,⟨some 8, .callv (.t 7) [], none⟩,zM 6 8,zX 9 6 0,zX 10 6 1,zM 4 9,zM 5 10]) (.kp [1, 4, 5] (.seq (.segs [⟨none, [zM 11 4,zM 12 5,zM 13 12], none⟩,⟨some (13, true), [zF 14 1 1,zL 15 14,zM 16 4,zF 17 1 2,zL 18 17,⟨some 19, .callp 108 [(.t 15), (.t 16), (.t 18)], none⟩], none⟩,⟨none, [zP 20 13 19,zM 2 11,zM 3 20], none⟩]) (.ret))))) }
theorem Tw : (Ah Tryz.prog C8 Tryz.f111).map (fun x => (x.nargs, x.nt, x.res, x.code)) = some (c111.nargs, c111.nt, c111.res, bare c111.code) := by kernel_rfl
def c115 : AFun := { nargs := 2, nt := 15, res := [.tmp 2, .tmp 3], code := .seq (.reg [zI 2 0,zB 3 false]) (.kp [0, 1] (.seq (.reg [zL 7 0,⟨some 8, .mkfn 116 [] [(.t 1)], none⟩,⟨some 9, .call 106 [(.t 7), (.t 8)], none⟩,zM 6 9,zX 10 6 0,zX 11 6 1,zM 4 10,zM 5 11]) (.kp [1, 4, 5] (.seq (.reg [zM 12 4,zU 1 12]) (.kp [4, 5] (.seq (.reg [zM 13 4,zM 14 5,zM 2 13,zM 3 14]) (.ret))))))) }
theorem X2 : (Ah Tryz.prog C8 Tryz.f115).map (fun x => (x.nargs, x.nt, x.res, x.code)) = some (c115.nargs, c115.nt, c115.res, bare c115.code) := by kernel_rfl
def c116 : AFun := { nargs := 2, nt := 7, res := [.tmp 3], code := .seq (.reg [zB 3 false]) (.kp [0, 1] (.seq (.reg [zM 4 0,zL 5 1,zD 6 .neq 4 5,zM 3 6]) (.ret))) }
theorem A3j : (Ah Tryz.prog C8 Tryz.f116).map (fun x => (x.nargs, x.nt, x.res, x.code)) = some (c116.nargs, c116.nt, c116.res, bare c116.code) := by kernel_rfl
def c132_k1 : ACode := .kp [0, 1] (.seq (.reg [zL 6 0,zE 7 .sub 6 1,zU 0 7]) (.kp [1] (.seq (.reg [zL 8 1,⟨some 9, .callv (.t 8) [], none⟩,zX 10 9 0,zX 11 9 1,zM 2 10,zM 3 11]) (.ret))))
def JG {Q e n H} := @Av Tryz.prog _ _ c132_k1.eq_1 Q e n H
def c132 : AFun := { nargs := 2, nt := 12, res := [.tmp 2, .tmp 3], code := .seq (.reg [zI 2 0,zB 3 false]) (.kp [0, 1] (.seq (.seq (.reg [zL 4 0,zE 5 .eql 4 0]) (.kp [0, 1, 5] (.cond (.t 5) (.seq (.reg [zI 2 0,zB 3 false]) (.ret)) (.skip)))) (c132_k1))) }
theorem U8 : (Ah Tryz.prog C8 Tryz.f132).map (fun x => (x.nargs, x.nt, x.res, x.code)) = some (c132.nargs, c132.nt, c132.res, bare c132.code) := by kernel_rfl
def c133_k1 : ACode := .kp [1] (.seq (.reg [zL 17 1,⟨some 18, .callv (.t 17) [], none⟩,zX 19 18 0,zX 20 18 1,zM 2 19,zM 3 20]) (.ret))
def GB {Q e n H} := @Av Tryz.prog _ _ c133_k1.eq_1 Q e n H
def c133_k2 : ACode := .kp [0, 1] (.reg [zL 8 0,zE 9 .sub 8 1,zU 0 9])
def GF {Q e n H} := @Av Tryz.prog _ _ c133_k2.eq_1 Q e n H
def c133_k3 : ACode := .kp [0, 1] (.seq (.block 1 (.seq (.reg [zL 11 1,⟨some 12, .callv (.t 11) [], none⟩,zM 10 12,zX 13 10 0,zX 14 10 1,zM 4 13,zM 5 14]) (.kp [0, 1, 5] (.seq (.reg [zM 15 5,zN 16 15]) (.kp [0, 1, 16] (.cond (.t 16) (.seq (.reg [zI 2 0,zB 3 false]) (.ret)) (.skip))))))) (c133_k2))
def GK {Q e n H} := @Av Tryz.prog _ _ c133_k3.eq_1 Q e n H
def c133_L4 : ACode := .ke [0, 1] (.seq (.seq (.reg [zL 6 0,zE 7 .gtr 6 0]) (.kp [0, 1, 7] (.cond (.t 7) (.skip) (.exit 0)))) (c133_k3))
def GI {Q e n H} := @Av Tryz.prog _ _ c133_L4.eq_1 Q e n H
def c133 : AFun := { nargs := 2, nt := 21, res := [.tmp 2, .tmp 3], code := .seq (.reg [zI 2 0,zB 3 false]) (.kp [0, 1] (.seq (.block 0 (.kp [0, 1] (.loop c133_L4))) (c133_k1))) }
theorem A3s : (Ah Tryz.prog C8 Tryz.f133).map (fun x => (x.nargs, x.nt, x.res, x.code)) = some (c133.nargs, c133.nt, c133.res, bare c133.code) := by kernel_rfl
def c134_k1 : ACode := .kp [0, 1, 2] (.seq (.reg [⟨none, .store none (.t 0) (.c (.bool true)), none⟩]) (.kp [1, 2] (.seq (.reg [zL 10 1,⟨some 11, .mkfn 135 [] [(.t 2)], none⟩,⟨some 12, .call 106 [(.t 10), (.t 11)], none⟩,zX 13 12 0,zX 14 12 1,zM 3 13,zM 4 14]) (.ret))))
def Hq {Q e n H} := @Av Tryz.prog _ _ c134_k1.eq_1 Q e n H
def c134 : AFun := { nargs := 3, nt := 15, res := [.tmp 3, .tmp 4], code := .seq (.reg [zI 3 0,zB 4 false]) (.kp [0, 1, 2] (.seq (.seq (.reg [zL 5 0]) (.kp [0, 1, 2, 5] (.cond (.t 5) (.seq (.reg [zL 6 1,⟨some 7, .callv (.t 6) [], none⟩,zX 8 7 0,zX 9 7 1,zM 3 8,zM 4 9]) (.ret)) (.skip)))) (c134_k1))) }
theorem RQ : (Ah Tryz.prog C8 Tryz.f134).map (fun x => (x.nargs, x.nt, x.res, x.code)) = some (c134.nargs, c134.nt, c134.res, bare c134.code) := by kernel_rfl
def c135 : AFun := { nargs := 2, nt := 11, res := [.tmp 3], code := .seq (.reg [zB 3 false]) (.kp [0, 1] (.seq (.reg [zF 4 1 1,zL 5 4,zM 6 0,zF 7 1 2,zL 8 7,⟨some 9, .callp 108 [(.t 5), (.t 6), (.t 8)], none⟩,zN 10 9,zM 3 10]) (.ret))) }
theorem A3f : (Ah Tryz.prog C8 Tryz.f135).map (fun x => (x.nargs, x.nt, x.res, x.code)) = some (c135.nargs, c135.nt, c135.res, bare c135.code) := by kernel_rfl
def c136_k1 : ACode := .kp [1, 2, 5] (.seq (.reg [zF 14 1 1,zL 15 14,zL 16 2,zM 17 5,⟨some 18, .callp 102 [(.t 15), (.t 16), (.t 17)], none⟩,zU 2 18]) (.kp [2] (.seq (.reg [zL 19 2,zM 3 19,zB 4 true]) (.ret))))
def PV {Q e n H} := @Av Tryz.prog _ _ c136_k1.eq_1 Q e n H
def c136 : AFun := { nargs := 3, nt := 20, res := [.tmp 3, .tmp 4], code := .seq (.reg [zI 3 0,zB 4 false]) (.kp [0, 1, 2] (.seq (.reg [zL 8 0,⟨some 9, .callv (.t 8) [], none⟩,zM 7 9,zX 10 7 0,zX 11 7 1,zM 5 10,zM 6 11]) (.kp [1, 2, 5, 6] (.seq (.seq (.reg [zM 12 6,zN 13 12]) (.kp [1, 2, 5, 13] (.cond (.t 13) (.seq (.reg [zI 3 0,zB 4 false]) (.ret)) (.skip)))) (c136_k1))))) }
theorem XG : (Ah Tryz.prog C8 Tryz.f136).map (fun x => (x.nargs, x.nt, x.res, x.code)) = some (c136.nargs, c136.nt, c136.res, bare c136.code) := by kernel_rfl
def c137_k1 : ACode := .kp [8] (.seq (.reg [zM 54 8,zM 3 54,zB 4 true]) (.ret))
def Cv {Q e n H} := @Av Tryz.prog _ _ c137_k1.eq_1 Q e n H
def c137_k2 : ACode := .kp [1, 8, 42, 43, 44] (.reg [zE 53 .add 44 1,zM 44 53])
def Cm {Q e n H} := @Av Tryz.prog _ _ c137_k2.eq_1 Q e n H
def c137_k3 : ACode := .kp [1, 8, 42, 43, 44] (.seq (.block 3 (.seq (.reg [zJ 46 1 42 44,zL 47 46,zM 10 47]) (.kp [1, 8, 10, 42, 43, 44] (.reg [zF 48 1 1,zL 49 48,zM 50 8,zM 51 10,⟨some 52, .callp 102 [(.t 49), (.t 50), (.t 51)], none⟩,zM 8 52])))) (c137_k2))
def Cl {Q e n H} := @Av Tryz.prog _ _ c137_k3.eq_1 Q e n H
def c137_L4 : ACode := .ke [1, 8, 42, 43, 44] (.seq (.reg [zD 45 .lss 44 43]) (.kp [1, 8, 42, 43, 44, 45] (.seq (.cond (.t 45) (.skip) (.exit 2)) (c137_k3))))
def Cp {Q e n H} := @Av Tryz.prog _ _ c137_L4.eq_1 Q e n H
def c137_k5 : ACode := .kp [0, 1] (.seq (.reg [zL 30 0,zL 31 0,zY 32 31,zF 33 1 2,zL 34 33,zD 35 .sub 32 34,⟨some 36, .cut 1 (.t 30) (some (.t 35)) none, none⟩,⟨some 37, .call 92 [(.t 36)], none⟩,zU 0 37]) (.kp [0, 1] (.seq (.reg [zL 38 0,⟨some 39, .iaddr 1 none (.t 38) (.c (.int .i64 0)), none⟩,zL 40 39,zM 8 40]) (.kp [0, 1, 8] (.seq (.seq (.reg [zL 41 0,⟨some 42, .cut 1 (.t 41) (some (.c (.int .i64 1))) none, none⟩,zY 43 42,zI 44 0]) (.kp [1, 8, 42, 43, 44] (.block 2 (.kp [1, 8, 42, 43, 44] (.loop c137_L4))))) (c137_k1))))))
def Cq {Q e n H} := @Av Tryz.prog _ _ c137_k5.eq_1 Q e n H
def c137_k6 : ACode := .kp [0, 1, 2] (.reg [zB 5 false])
def Cn {Q e n H} := @Av Tryz.prog _ _ c137_k6.eq_1 Q e n H
def c137_k7 : ACode := .kp [0, 1, 2, 6] (.reg [zL 26 0,zM 27 6,⟨some 28, .bsl 3 none [(.t 27)], none⟩,⟨some 29, .app 3 1 8 (.t 26) (.t 28), none⟩,zU 0 29])
def Co {Q e n H} := @Av Tryz.prog _ _ c137_k7.eq_1 Q e n H
def c137_k8 : ACode := .kp [0, 1, 2] (.seq (.block 1 (.seq (.reg [zL 20 2,⟨some 21, .callv (.t 20) [], none⟩,zM 19 21,zX 22 19 0,zX 23 19 1,zM 6 22,zM 7 23]) (.kp [0, 1, 2, 6, 7] (.seq (.seq (.reg [zM 24 7,zN 25 24]) (.kp [0, 1, 2, 6, 25] (.cond (.t 25) (.seq (.reg [zI 3 0,zB 4 false]) (.ret)) (.skip)))) (c137_k7))))) (c137_k6))
def Cs {Q e n H} := @Av Tryz.prog _ _ c137_k8.eq_1 Q e n H
def c137_L9 : ACode := .ke [0, 1, 2, 5] (.seq (.seq (.segs [⟨none, [zM 11 5,zM 12 11], none⟩,⟨some (12, false), [zL 13 0,zY 14 13,zF 15 1 2,zL 16 15,zD 17 .lss 14 16], some (18, 17)⟩]) (.kp [0, 1, 2, 18] (.cond (.t 18) (.skip) (.exit 0)))) (c137_k8))
def Ct {Q e n H} := @Av Tryz.prog _ _ c137_L9.eq_1 Q e n H
def c137 : AFun := { nargs := 3, nt := 55, res := [.tmp 3, .tmp 4], code := .seq (.reg [zI 3 0,zB 4 false]) (.kp [0, 1, 2] (.seq (.seq (.reg [zB 5 true]) (.kp [0, 1, 2, 5] (.block 0 (.kp [0, 1, 2, 5] (.loop c137_L9))))) (c137_k5))) }
theorem A1p : (Ah Tryz.prog C8 Tryz.f137).map (fun x => (x.nargs, x.nt, x.res, x.code)) = some (c137.nargs, c137.nt, c137.res, bare c137.code) := by kernel_rfl
def c138_k1 : ACode := .kp [1, 3] (.seq (.reg [zL 38 1,zE 39 .add 38 1,zU 1 39]) (.kp [1, 3] (.seq (.reg [zL 40 3,zL 41 1,zE 42 .sub 41 1,zJ 43 1 40 42,zL 44 43,zM 4 44,zB 5 true]) (.ret))))
def CK {Q e n H} := @Av Tryz.prog _ _ c138_k1.eq_1 Q e n H
def c138_k2 : ACode := .kp [0, 1, 3] (.seq (.seq (.segs [⟨none, [zL 31 0,zE 32 .leq 31 0,zM 33 32], none⟩,⟨some (33, false), [zL 34 3,zY 35 34,zE 36 .eql 35 0], some (37, 36)⟩]) (.kp [1, 3, 37] (.cond (.t 37) (.seq (.reg [zI 4 0,zB 5 false]) (.ret)) (.skip)))) (c138_k1))
def CG {Q e n H} := @Av Tryz.prog _ _ c138_k2.eq_1 Q e n H
def c138_t3 : ACode := .kp [0, 1, 3] (.seq (.reg [⟨none, .store none (.t 1) (.c (.int .i64 0)), none⟩]) (.kp [0, 1, 3] (.reg [zL 29 0,zE 30 .sub 29 1,zU 0 30])))
def CP {Q e n H} := @Av Tryz.prog _ _ c138_t3.eq_1 Q e n H
def c138_k4 : ACode := .kp [0, 1, 3] (.seq (.seq (.reg [zL 25 1,zL 26 3,zY 27 26,zD 28 .eql 25 27]) (.kp [0, 1, 3, 28] (.cond (.t 28) (c138_t3) (.skip)))) (c138_k2))
def CJ {Q e n H} := @Av Tryz.prog _ _ c138_k4.eq_1 Q e n H
def c138_k5 : ACode := .kp [0, 1, 3] (.seq (.reg [⟨none, .store none (.t 1) (.c (.int .i64 0)), none⟩]) (.kp [0, 1, 3] (.reg [zL 23 0,zE 24 .sub 23 1,zU 0 24])))
def CE {Q e n H} := @Av Tryz.prog _ _ c138_k5.eq_1 Q e n H
def c138_t6 : ACode := .kp [3, 6] (.seq (.reg [zL 18 3,zM 19 6,⟨some 20, .bsl 3 none [(.t 19)], none⟩,⟨some 21, .app 3 1 8 (.t 18) (.t 20), none⟩,zU 3 21]) (.kp [6] (.seq (.reg [zM 22 6,zM 4 22,zB 5 true]) (.ret))))
def CO {Q e n H} := @Av Tryz.prog _ _ c138_t6.eq_1 Q e n H
def c138_t7 : ACode := .kp [0, 1, 2, 3] (.seq (.reg [zL 13 2,⟨some 14, .callv (.t 13) [], none⟩,zM 12 14,zX 15 12 0,zX 16 12 1,zM 6 15,zM 7 16]) (.kp [0, 1, 3, 6, 7] (.seq (.seq (.reg [zM 17 7]) (.kp [0, 1, 3, 6, 17] (.cond (.t 17) (c138_t6) (.skip)))) (c138_k5))))
def CN {Q e n H} := @Av Tryz.prog _ _ c138_t7.eq_1 Q e n H
def c138_k8 : ACode := .kp [0, 1, 2, 3] (.seq (.seq (.reg [zL 10 1,zE 11 .lss 10 0]) (.kp [0, 1, 2, 3, 11] (.cond (.t 11) (c138_t7) (.skip)))) (c138_k4))
def CB {Q e n H} := @Av Tryz.prog _ _ c138_k8.eq_1 Q e n H
def c138 : AFun := { nargs := 4, nt := 45, res := [.tmp 4, .tmp 5], code := .seq (.reg [zI 4 0,zB 5 false]) (.kp [0, 1, 2, 3] (.seq (.seq (.reg [zL 8 0,zE 9 .eql 8 0]) (.kp [0, 1, 2, 3, 9] (.cond (.t 9) (.seq (.reg [zI 4 0,zB 5 false]) (.ret)) (.skip)))) (c138_k8))) }
theorem Mm : (Ah Tryz.prog C8 Tryz.f138).map (fun x => (x.nargs, x.nt, x.res, x.code)) = some (c138.nargs, c138.nt, c138.res, bare c138.code) := by kernel_rfl
def c100_k1 : ACode := .kp [0] (.seq (.reg [⟨some 5, .bsl 76 none [], none⟩,zM 6 0,⟨some 7, .app 76 1 8 (.t 5) (.t 6), none⟩,zM 2 7]) (.ret))
def PT {Q e n H} := @Av Tryz.prog _ _ c100_k1.eq_1 Q e n H
def c100 : AFun := { nargs := 1, nt := 8, res := [.tmp 2], code := .seq (.reg [⟨some 2, .mv (.c (.sl 0 [] .nil)), none⟩]) (.kp [0] (.seq (.seq (.reg [zM 3 0,⟨some 4, .eqn false (.t 3), none⟩]) (.kp [0, 4] (.cond (.t 4) (.seq (.reg [⟨some 2, .mv (.c (.sl 0 [] .nil)), none⟩]) (.ret)) (.skip)))) (c100_k1))) }
theorem A1n : (Ah Tryz.prog C8 Tryz.f100).map (fun x => (x.nargs, x.nt, x.res, x.code)) = some (c100.nargs, c100.nt, c100.res, bare c100.code) := by kernel_rfl
def c92_k1 : ACode := .kp [0] (.seq (.reg [⟨some 5, .bsl 3 none [], none⟩,zM 6 0,⟨some 7, .app 3 1 8 (.t 5) (.t 6), none⟩,zM 2 7]) (.ret))
def QD {Q e n H} := @Av Tryz.prog _ _ c92_k1.eq_1 Q e n H
def c92 : AFun := { nargs := 1, nt := 8, res := [.tmp 2], code := .seq (.reg [⟨some 2, .mv (.c (.sl 0 [] .nil)), none⟩]) (.kp [0] (.seq (.seq (.reg [zM 3 0,⟨some 4, .eqn false (.t 3), none⟩]) (.kp [0, 4] (.cond (.t 4) (.seq (.reg [⟨some 2, .mv (.c (.sl 0 [] .nil)), none⟩]) (.ret)) (.skip)))) (c92_k1))) }
theorem A53 : (Ah Tryz.prog C8 Tryz.f92).map (fun x => (x.nargs, x.nt, x.res, x.code)) = some (c92.nargs, c92.nt, c92.res, bare c92.code) := by kernel_rfl
def A1c : ACode := .kp [1, 2, 3] (.seq (.reg [zG 67 5 1,zM 68 3,⟨some 69, .iaddr 2 (some 2) (.t 68) (.c (.int .i64 0)), none⟩,zG 70 2 69,zW 71 51 67 70,zS 2 2 71]) (.ret))
def A21 : ACode := .kp [1, 2, 3] (.seq (.seq (.reg [zF 58 1 0,zL 59 58,zE 60 .eql 59 12]) (.kp [1, 2, 3, 60] (.cond (.t 60) (.seq (.reg [zF 61 1 2,zL 62 61,zM 63 3,⟨some 64, .iaddr 2 (some 2) (.t 63) (.c (.int .i64 0)), none⟩,zG 65 2 64,zW 66 50 62 65,zS 2 2 66]) (.ret)) (.skip)))) (A1c))
def A2v : ACode := .kp [1, 2, 3] (.seq (.seq (.reg [zF 48 1 0,zL 49 48,zE 50 .eql 49 16]) (.kp [1, 2, 3, 50] (.cond (.t 50) (.seq (.reg [zM 51 3,⟨some 52, .iaddr 2 (some 2) (.t 51) (.c (.int .i64 0)), none⟩,zG 53 2 52,zM 54 3,⟨some 55, .iaddr 2 (some 2) (.t 54) (.c (.int .i64 1)), none⟩,zG 56 2 55,zW 57 49 53 56,zS 2 2 57]) (.ret)) (.skip)))) (A21))
def A2t : ACode := .kp [1, 2, 3] (.seq (.seq (.reg [zF 36 1 0,zL 37 36,zE 38 .eql 37 15]) (.kp [1, 2, 3, 38] (.cond (.t 38) (.seq (.reg [zF 39 1 1,zL 40 39,zM 41 3,⟨some 42, .iaddr 2 (some 2) (.t 41) (.c (.int .i64 0)), none⟩,zG 43 2 42,zM 44 3,⟨some 45, .iaddr 2 (some 2) (.t 44) (.c (.int .i64 1)), none⟩,zG 46 2 45,⟨some 47, .callp 48 [(.t 40), (.t 43), (.t 46)], none⟩,zS 2 2 47]) (.ret)) (.skip)))) (A2v))
def A3t : ACode := .kp [1, 2, 3] (.seq (.seq (.reg [zF 31 1 0,zL 32 31,zE 33 .eql 32 14]) (.kp [1, 2, 3, 33] (.cond (.t 33) (.seq (.reg [zM 34 3,zV 35 47 34,zS 2 2 35]) (.ret)) (.skip)))) (A2t))
def A3r : ACode := .kp [1, 2, 3] (.seq (.seq (.reg [zF 26 1 0,zL 27 26,zE 28 .eql 27 13]) (.kp [1, 2, 3, 28] (.cond (.t 28) (.seq (.reg [zM 29 3,zV 30 46 29,zS 2 2 30]) (.ret)) (.skip)))) (A3t))
def A2r : ACode := .kp [1, 2, 3, 4] (.reg [zM 15 4,zE 16 .add 15 1,zM 4 16])
def A2k : ACode := .kp [1, 2, 3, 4] (.seq (.block 1 (.reg [zM 17 3,zF 18 1 4,zL 19 18,zM 20 4,⟨some 21, .iaddr 5 (some 5) (.t 19) (.t 20), none⟩,zG 22 5 21,zV 23 21 22,⟨some 24, .bsl 40 (some 2) [(.t 23)], none⟩,⟨some 25, .app 40 2 48 (.t 17) (.t 24), none⟩,zM 3 25])) (A2r))
def A0s : ACode := .ke [1, 2, 3, 4] (.seq (.seq (.reg [zM 10 4,zF 11 1 4,zL 12 11,zY 13 12,zD 14 .lss 10 13]) (.kp [1, 2, 3, 4, 14] (.cond (.t 14) (.skip) (.exit 0)))) (A2k))
def Yd : ACode := .kp [1, 2] (.seq (.reg [⟨some 3, .mv (.c (.sl 0 [] .nil)), none⟩]) (.kp [1, 2, 3] (.seq (.seq (.reg [zI 4 0]) (.kp [1, 2, 3, 4] (.block 0 (.kp [1, 2, 3, 4] (.loop A0s))))) (A3r))))
def c21 : AFun := { nargs := 1, nt := 72, res := [.cell 2 (some 2)], code := .seq (.reg [zH 1 25 5 0,⟨some 2, .alloc 40 [(.sl 0 [] .nil), (.sl 0 [] .nil)], none⟩]) (.kp [1, 2] (.seq (.seq (.reg [zF 5 1 0,zL 6 5,zV 7 44 6]) (.kp [1, 2, 7] (.cond (.t 7) (.seq (.reg [zG 8 5 1,zV 9 45 8,zS 2 2 9]) (.ret)) (.skip)))) (Yd))) }
def A1f : ACode := .kp [4, 5, 9] (.seq (.reg [zF 203 5 1,zL 204 203,zM 205 9,⟨some 206, .bsl 22 none [(.t 205)], none⟩,⟨some 207, .app 22 1 24 (.t 204) (.t 206), none⟩,zF 208 5 1,zU 208 207]) (.kp [4, 5] (.seq (.reg [zG 209 2 5,zS 2 4 209]) (.ret))))
def A22 : ACode := .kp [2, 3, 4, 5, 9] (.seq (.seq (.segs [⟨none, [zF 186 2 0,zL 187 186,zE 188 .eql 187 5,zM 189 188], none⟩,⟨some (189, true), [zF 190 2 2,zL 191 190,zF 192 3 0,zL 193 192,zY 194 193,zD 195 .leq 191 194], some (196, 195)⟩]) (.kp [2, 3, 4, 5, 9, 196] (.cond (.t 196) (.reg [zF 197 3 1,zL 198 197,zF 199 2 2,zL 200 199,zJ 201 1 198 200,zL 202 201,zM 9 202]) (.skip)))) (A1f))
def A3l : ACode := .kp [2, 3, 4, 5, 6, 7, 8, 9, 10] (.reg [zM 35 10,zE 36 .add 35 1,zM 10 36])
def A1v : ACode := .kp [2, 3, 4, 5, 6, 7, 8, 9, 10, 11] (.seq (.reg [zF 169 5 0,zL 170 169,zM 171 11,⟨some 172, .bsl 3 none [(.t 171)], none⟩,⟨some 173, .app 3 1 8 (.t 170) (.t 172), none⟩,zF 174 5 0,zU 174 173]) (.kp [2, 3, 4, 5, 6, 7, 8, 9, 10] (.regD .plain [] [zF 175 5 1,zL 176 175,zF 177 3 1,zL 178 177,zM 179 10,zE 180 .add 179 1,zJ 181 1 178 180,zL 182 181,⟨some 183, .bsl 22 none [(.t 182)], none⟩,⟨some 184, .app 22 1 24 (.t 176) (.t 183), none⟩,zF 185 5 1,zU 185 184])))
def A1x : ACode := .kp [2, 3, 4, 5, 6, 7, 8, 9, 10, 11, 12] (.seq (.reg [zM 168 12]) (.kp [2, 3, 4, 5, 6, 7, 8, 9, 10, 11, 168] (.cond (.t 168) (A1v) (.skip))))
def A2g : ACode := .kp [2, 3, 4, 5, 6, 7, 8, 9, 10, 11] (.reg [zM 113 8,zN 114 113,zM 12 114])
def A1e : ACode := .kp [2, 3, 4, 5, 6, 7, 8, 9, 10, 11, 12, 13] (.reg [zM 157 13,zE 158 .add 157 1,zM 13 158])
def A1y : ACode := .kp [2, 3, 4, 5, 6, 7, 8, 9, 10, 11, 12, 13] (.seq (.block 3 (.reg [zF 159 2 1,zL 160 159,zM 161 11,zF 162 3 0,zL 163 162,zM 164 13,zJ 165 1 163 164,zL 166 165,⟨some 167, .callp 80 [(.t 160), (.t 161), (.t 166)], none⟩,zM 11 167])) (A1e))
def A36 : ACode := .ke [2, 3, 4, 5, 6, 7, 8, 9, 10, 11, 12, 13] (.seq (.seq (.reg [zM 154 13,zM 155 10,zD 156 .leq 154 155]) (.kp [2, 3, 4, 5, 6, 7, 8, 9, 10, 11, 12, 13, 156] (.cond (.t 156) (.skip) (.exit 2)))) (A1y))
def Yx : ACode := .kp [2, 3, 4, 5, 6, 7, 8, 9, 10, 12] (.seq (.reg [zF 140 3 0,zL 141 140,zM 142 10,zF 143 2 2,zL 144 143,zD 145 .sub 142 144,zE 146 .add 145 1,zJ 147 1 141 146,zL 148 147,zM 11 148]) (.kp [2, 3, 4, 5, 6, 7, 8, 9, 10, 11, 12] (.seq (.reg [zM 149 10,zF 150 2 2,zL 151 150,zD 152 .sub 149 151,zE 153 .add 152 2,zM 13 153]) (.kp [2, 3, 4, 5, 6, 7, 8, 9, 10, 11, 12, 13] (.block 2 (.kp [2, 3, 4, 5, 6, 7, 8, 9, 10, 11, 12, 13] (.loop A36)))))))
def Yk : ACode := .kp [2, 3, 4, 5, 6, 7, 8, 9, 10, 11] (.seq (.reg [zM 134 10,zF 135 2 2,zL 136 135,zE 137 .sub 136 1,zD 138 .geq 134 137,zM 12 138]) (.kp [2, 3, 4, 5, 6, 7, 8, 9, 10, 11, 12] (.seq (.reg [zM 139 12]) (.kp [2, 3, 4, 5, 6, 7, 8, 9, 10, 11, 12, 139] (.cond (.t 139) (Yx) (.skip))))))
def Yz : ACode := .kp [2, 3, 4, 5, 6, 7, 8, 9, 10, 11] (.seq (.reg [zM 127 11,zM 128 7,zD 129 .neq 127 128,zM 12 129]) (.kp [2, 3, 4, 5, 6, 8, 9, 10, 11, 12] (.reg [zM 130 11,zM 7 130])))
def ZI : ACode := .kp [2, 3, 4, 5, 6, 7, 8, 9, 10, 11, 12] (.seq (.reg [zF 131 2 0,zL 132 131,zE 133 .eql 132 10]) (.kp [2, 3, 4, 5, 6, 7, 8, 9, 10, 11, 12, 133] (.cond (.t 133) (Yk) (.skip))))
def Zn : ACode := .kp [2, 3, 4, 5, 6, 7, 8, 9, 10, 11, 12] (.seq (.reg [zF 118 2 1,zL 119 118,zM 120 6,zM 121 11,⟨some 122, .callp 80 [(.t 119), (.t 120), (.t 121)], none⟩,zM 6 122]) (.kp [2, 3, 4, 5, 6, 7, 8, 9, 10, 12] (.reg [zM 123 6,zM 11 123])))
def Zj : ACode := .kp [2, 3, 4, 5, 6, 7, 8, 9, 10, 11, 12] (.seq (.reg [zF 124 2 0,zL 125 124,zE 126 .eql 125 11]) (.kp [2, 3, 4, 5, 6, 7, 8, 9, 10, 11, 12, 126] (.cond (.t 126) (Yz) (ZI))))
def ZX : ACode := .kp [2, 3, 4, 5, 6, 7, 8, 9, 10, 11] (.seq (.seq (.segs [⟨none, [zM 103 8,zM 104 103], none⟩,⟨some (104, true), [zF 105 2 1,zL 106 105,zM 107 11,zF 108 2 2,zL 109 108,⟨some 110, .callp 81 [(.t 106), (.t 107), (.t 109)], none⟩,zN 111 110], none⟩,⟨none, [zP 112 104 111], none⟩]) (.kp [2, 3, 4, 5, 6, 7, 8, 9, 10, 11, 112] (.cond (.t 112) (.reg [zB 8 false]) (.skip)))) (A2g))
def Zu : ACode := .kp [2, 3, 4, 5, 6, 7, 8, 9, 10, 11, 12] (.seq (.reg [zF 115 2 0,zL 116 115,zE 117 .eql 116 9]) (.kp [2, 3, 4, 5, 6, 7, 8, 9, 10, 11, 12, 117] (.cond (.t 117) (Zn) (Zj))))
def Z4 : ACode := .kp [2, 3, 4, 5, 6, 7, 8, 9, 10, 11, 12] (.seq (.reg [zF 100 2 0,zL 101 100,zE 102 .eql 101 8]) (.kp [2, 3, 4, 5, 6, 7, 8, 9, 10, 11, 12, 102] (.cond (.t 102) (ZX) (Zu))))
def Yb : ACode := .kp [2, 3, 4, 5, 6, 7, 8, 9, 10, 11, 12] (.seq (.reg [zF 93 2 0,zL 94 93,zE 95 .eql 94 6]) (.kp [2, 3, 4, 5, 6, 7, 8, 9, 10, 11, 12, 95] (.cond (.t 95) (.reg [zM 96 10,zF 97 2 2,zL 98 97,zD 99 .geq 96 98,zM 12 99]) (Z4))))
def Yj : ACode := .kp [2, 3, 4, 5, 6, 7, 8, 9, 10, 11, 12] (.seq (.reg [zF 84 2 0,zL 85 84,zE 86 .eql 85 4]) (.kp [2, 3, 4, 5, 6, 7, 8, 9, 10, 11, 12, 86] (.cond (.t 86) (.reg [zF 87 2 1,zL 88 87,zM 89 11,zF 90 2 2,zL 91 90,⟨some 92, .callp 81 [(.t 88), (.t 89), (.t 91)], none⟩,zM 12 92]) (Yb))))
def ZG : ACode := .kp [2, 3, 4, 5, 6, 7, 8, 9, 10, 11, 12] (.seq (.seq (.reg [zF 75 2 0,zL 76 75,zE 77 .eql 76 3]) (.kp [2, 3, 4, 5, 6, 7, 8, 9, 10, 11, 12, 77] (.cond (.t 77) (.reg [zF 78 2 1,zL 79 78,zM 80 11,zF 81 2 2,zL 82 81,⟨some 83, .callp 80 [(.t 79), (.t 80), (.t 82)], none⟩,zM 11 83]) (Yj)))) (A1x))
def Za : ACode := .kp [2, 3, 4, 5, 6, 7, 8, 9, 10, 11, 12] (.seq (.seq (.segs [⟨none, [zF 57 2 0,zL 58 57,zE 59 .eql 58 7,zM 60 59], none⟩,⟨some (60, true), [zF 61 2 1,zL 62 61,zM 63 11,zF 64 2 2,zL 65 64,⟨some 66, .callp 81 [(.t 62), (.t 63), (.t 65)], none⟩,zN 67 66], none⟩,⟨none, [zP 68 60 67], none⟩]) (.kp [2, 3, 4, 5, 6, 7, 8, 9, 10, 11, 12, 68] (.cond (.t 68) (.seq (.reg [zF 69 3 1,zL 70 69,zM 71 10,zE 72 .add 71 1,zJ 73 1 70 72,zL 74 73,zM 9 74]) (.exit 0)) (.skip)))) (ZG))
def ZU : ACode := .kp [2, 3, 4, 5, 6, 7, 8, 9, 10] (.seq (.block 1 (.seq (.reg [zF 37 3 0,zL 38 37,zM 39 10,zJ 40 1 38 39,zL 41 40,zM 11 41]) (.kp [2, 3, 4, 5, 6, 7, 8, 9, 10, 11] (.seq (.reg [zB 12 true]) (.kp [2, 3, 4, 5, 6, 7, 8, 9, 10, 11, 12] (.seq (.seq (.segs [⟨none, [zF 42 2 0,zL 43 42,zE 44 .eql 43 5,zM 45 44], none⟩,⟨some (45, true), [zM 46 10,zF 47 2 2,zL 48 47,zD 49 .geq 46 48], some (50, 49)⟩]) (.kp [2, 3, 4, 5, 6, 7, 8, 9, 10, 11, 12, 50] (.cond (.t 50) (.seq (.reg [zF 51 3 1,zL 52 51,zF 53 2 2,zL 54 53,zJ 55 1 52 54,zL 56 55,zM 9 56]) (.exit 0)) (.skip)))) (Za))))))) (A3l))
def Z5 : ACode := .ke [2, 3, 4, 5, 6, 7, 8, 9, 10] (.seq (.seq (.reg [zM 30 10,zF 31 3 0,zL 32 31,zY 33 32,zD 34 .lss 30 33]) (.kp [2, 3, 4, 5, 6, 7, 8, 9, 10, 34] (.cond (.t 34) (.skip) (.exit 0)))) (ZU))
def c51 : AFun := { nargs := 2, nt := 210, res := [.cell 4 (some 2)], code := .seq (.reg [zH 2 25 5 0,zH 3 40 2 1,⟨some 4, .alloc 40 [(.sl 0 [] .nil), (.sl 0 [] .nil)], none⟩]) (.kp [2, 3, 4] (.seq (.reg [zF 14 3 1,zL 15 14,⟨some 16, .iaddr 1 none (.t 15) (.c (.int .i64 0)), none⟩,zL 17 16,⟨some 18, .bsl 22 none [(.t 17)], none⟩,⟨some 19, .build [(.sl 0 [] .nil), (.sl 0 [] .nil)] [(1, none, (.t 18))], none⟩,⟨some 5, .alloc 40 [(.sl 0 [] .nil), (.sl 0 [] .nil)], none⟩,zS 2 5 19]) (.kp [2, 3, 4, 5] (.seq (.reg [zF 20 2 2,zL 21 20,zM 6 21]) (.kp [2, 3, 4, 5, 6] (.seq (.reg [zI 7 (-1)]) (.kp [2, 3, 4, 5, 6, 7] (.seq (.reg [zB 8 true]) (.kp [2, 3, 4, 5, 6, 7, 8] (.seq (.reg [zF 22 3 1,zL 23 22,zF 24 3 0,zL 25 24,zY 26 25,zE 27 .add 26 1,zJ 28 1 23 27,zL 29 28,zM 9 29]) (.kp [2, 3, 4, 5, 6, 7, 8, 9] (.seq (.seq (.reg [zI 10 0]) (.kp [2, 3, 4, 5, 6, 7, 8, 9, 10] (.block 0 (.kp [2, 3, 4, 5, 6, 7, 8, 9, 10] (.loop Z5))))) (A22))))))))))))) }
theorem JS {P : Program} {c d : ACode} (h : c = d) {Q : AExit → AS → Prop} {e : AW} {n : Nat} {H : A2} : aw P c Q ⟨e, n, H⟩ = aw P d Q ⟨e, n, H⟩ := by rw [h]
def c59 : AFun := { nargs := 1, nt := 9, res := [.tmp 2], code := .seq (.reg [⟨some 2, .mv (.c (.str [])), none⟩]) (.kp [0] (.seq (.reg [⟨some 4, .bsl 9 none [(.c (.str [])), (.c (.str [118, 97, 108, 117, 101, 115])), (.c (.str [114, 97, 110, 103, 101])), (.c (.str [109, 97, 112])), (.c (.str [102, 105, 108, 116, 101, 114])), (.c (.str [116, 97, 107, 101])), (.c (.str [100, 114, 111, 112])), (.c (.str [119, 104, 105, 108, 101])), (.c (.str [115, 107, 105, 112])), (.c (.str [115, 99, 97, 110])), (.c (.str [119, 105, 110, 100, 111, 119])), (.c (.str [114, 117, 110, 115])), (.c (.str [114, 101, 112, 101, 97, 116])), (.c (.str [99, 104, 97, 105, 110])), (.c (.str [116, 117, 114, 110, 115])), (.c (.str [122, 105, 112])), (.c (.str [109, 101, 114, 103, 101]))], none⟩,zM 3 4]) (.kp [0, 3] (.seq (.reg [zM 5 3,zM 6 0,zJ 7 1 5 6,zL 8 7,zM 2 8]) (.ret))))) }
theorem A40 : (Ah Tryz.prog C8 Tryz.f59).map (fun x => (x.nargs, x.nt, x.res, x.code)) = some (c59.nargs, c59.nt, c59.res, bare c59.code) := by kernel_rfl
def c54 : AFun := { nargs := 1, nt := 9, res := [.tmp 2], code := .seq (.reg [⟨some 2, .mv (.c (.str [])), none⟩]) (.kp [0] (.seq (.reg [⟨some 4, .bsl 9 none [(.c (.str [])), (.c (.str [112, 108, 117, 115])), (.c (.str [109, 105, 110, 117, 115])), (.c (.str [116, 105, 109, 101, 115])), (.c (.str [109, 97, 120])), (.c (.str [109, 105, 110])), (.c (.str [109, 111, 100]))], none⟩,zM 3 4]) (.kp [0, 3] (.seq (.reg [zM 5 3,zM 6 0,zJ 7 1 5 6,zL 8 7,zM 2 8]) (.ret))))) }
theorem A4n : (Ah Tryz.prog C8 Tryz.f54).map (fun x => (x.nargs, x.nt, x.res, x.code)) = some (c54.nargs, c54.nt, c54.res, bare c54.code) := by kernel_rfl
def c56 : AFun := { nargs := 1, nt := 9, res := [.tmp 2], code := .seq (.reg [⟨some 2, .mv (.c (.str [])), none⟩]) (.kp [0] (.seq (.reg [⟨some 4, .bsl 9 none [(.c (.str [])), (.c (.str [98, 101, 108, 111, 119])), (.c (.str [97, 98, 111, 118, 101])), (.c (.str [100, 105, 118, 105, 115, 105, 98, 108, 101]))], none⟩,zM 3 4]) (.kp [0, 3] (.seq (.reg [zM 5 3,zM 6 0,zJ 7 1 5 6,zL 8 7,zM 2 8]) (.ret))))) }
theorem A51 : (Ah Tryz.prog C8 Tryz.f56).map (fun x => (x.nargs, x.nt, x.res, x.code)) = some (c56.nargs, c56.nt, c56.res, bare c56.code) := by kernel_rfl
def c57_k1 : ACode := .kp [0] (.seq (.reg [zM 29 0,zE 30 .quo 29 10,zV 31 57 30,zM 32 0,zE 33 .rem 32 10,⟨some 34, .bin .add (.c (.int .i64 48)) (.t 33), none⟩,⟨some 35, .cvi .i32 (.t 34), none⟩,⟨some 36, .r2s (.t 35), none⟩,zD 37 .add 31 36,zM 2 37]) (.ret))
def IW {Q e n H} := @JS Tryz.prog _ _ c57_k1.eq_1 Q e n H
def c57_k2 : ACode := .kp [0] (.seq (.seq (.reg [zM 23 0,zE 24 .lss 23 10]) (.kp [0, 24] (.cond (.t 24) (.seq (.reg [zM 25 0,⟨some 26, .bin .add (.c (.int .i64 48)) (.t 25), none⟩,⟨some 27, .cvi .i32 (.t 26), none⟩,⟨some 28, .r2s (.t 27), none⟩,zM 2 28]) (.ret)) (.skip)))) (c57_k1))
def IX {Q e n H} := @JS Tryz.prog _ _ c57_k2.eq_1 Q e n H
def c57_k3 : ACode := .kp [0] (.seq (.reg [zM 18 0,⟨some 19, .bin .sub (.c (.int .i64 48)) (.t 18), none⟩,⟨some 20, .cvi .i32 (.t 19), none⟩,⟨some 21, .r2s (.t 20), none⟩,⟨some 22, .bin .add (.c (.str [45])) (.t 21), none⟩,zM 2 22]) (.ret))
def IR {Q e n H} := @JS Tryz.prog _ _ c57_k3.eq_1 Q e n H
def c57_t4 : ACode := .kp [0] (.seq (.seq (.reg [zM 5 0,zE 6 .lss 5 (-9)]) (.kp [0, 6] (.cond (.t 6) (.seq (.reg [zM 7 0,zE 8 .quo 7 10,⟨some 9, .neg (.t 8), none⟩,zV 10 57 9,⟨some 11, .bin .add (.c (.str [45])) (.t 10), none⟩,zM 12 0,zE 13 .rem 12 10,⟨some 14, .bin .sub (.c (.int .i64 48)) (.t 13), none⟩,⟨some 15, .cvi .i32 (.t 14), none⟩,⟨some 16, .r2s (.t 15), none⟩,zD 17 .add 11 16,zM 2 17]) (.ret)) (.skip)))) (c57_k3))
def Ik {Q e n H} := @JS Tryz.prog _ _ c57_t4.eq_1 Q e n H
def c57 : AFun := { nargs := 1, nt := 38, res := [.tmp 2], code := .seq (.reg [⟨some 2, .mv (.c (.str [])), none⟩]) (.kp [0] (.seq (.seq (.reg [zM 3 0,zE 4 .lss 3 0]) (.kp [0, 4] (.cond (.t 4) (c57_t4) (.skip)))) (c57_k2))) }
theorem V9 : (Ah Tryz.prog C8 Tryz.f57).map (fun x => (x.nargs, x.nt, x.res, x.code)) = some (c57.nargs, c57.nt, c57.res, bare c57.code) := by kernel_rfl
def c60_k1 : ACode := .kp [5] (.seq (.reg [zM 24 5,zM 4 24]) (.ret))
def Hd {Q e n H} := @JS Tryz.prog _ _ c60_k1.eq_1 Q e n H
def c60_k2 : ACode := .kp [0, 1, 5, 6] (.reg [zM 11 6,zE 12 .add 11 1,zM 6 12])
def Fl {Q e n H} := @JS Tryz.prog _ _ c60_k2.eq_1 Q e n H
def c60_k3 : ACode := .kp [0, 1, 5, 6] (.reg [zM 18 5,zM 19 0,zM 20 6,zJ 21 1 19 20,zL 22 21,zD 23 .add 18 22,zM 5 23])
def Fr {Q e n H} := @JS Tryz.prog _ _ c60_k3.eq_1 Q e n H
def c60_k4 : ACode := .kp [0, 1, 5, 6] (.seq (.block 1 (.seq (.seq (.reg [zM 13 6,zE 14 .gtr 13 0]) (.kp [0, 1, 5, 6, 14] (.cond (.t 14) (.reg [zM 15 5,zM 16 1,zD 17 .add 15 16,zM 5 17]) (.skip)))) (c60_k3))) (c60_k2))
def Fv {Q e n H} := @JS Tryz.prog _ _ c60_k4.eq_1 Q e n H
def c60_L5 : ACode := .ke [0, 1, 5, 6] (.seq (.seq (.reg [zM 7 6,zM 8 0,zY 9 8,zD 10 .lss 7 9]) (.kp [0, 1, 5, 6, 10] (.cond (.t 10) (.skip) (.exit 0)))) (c60_k4))
def Ee {Q e n H} := @JS Tryz.prog _ _ c60_L5.eq_1 Q e n H
def c60 : AFun := { nargs := 2, nt := 25, res := [.tmp 4], code := .seq (.reg [⟨some 4, .mv (.c (.str [])), none⟩]) (.kp [0, 1] (.seq (.reg [⟨some 5, .mv (.c (.str [])), none⟩]) (.kp [0, 1, 5] (.seq (.seq (.reg [zI 6 0]) (.kp [0, 1, 5, 6] (.block 0 (.kp [0, 1, 5, 6] (.loop c60_L5))))) (c60_k1))))) }
theorem A0l : (Ah Tryz.prog C8 Tryz.f60).map (fun x => (x.nargs, x.nt, x.res, x.code)) = some (c60.nargs, c60.nt, c60.res, bare c60.code) := by kernel_rfl
end Go.Proofs.YtjdccdelcnmocaaGreatDoor
