/- The code of some functions on plain data, by program, and that it is what the program's text gives; no condition. -/
import Derived.Test.YtjdccdelcnmocaaGreatDoorAdE
import Derived.Test.YtjdccdelcnmocaaGreatDoorProg
import Derived.KernelRfl
set_option linter.all false
set_option linter.unusedSimpArgs false
set_option linter.unusedVariables false
namespace Go.Proofs.YtjdccdelcnmocaaGreatDoor
theorem Ao {P : Program} {c d : ACode} (h : c = d) {Q : AExit → AS → Prop} {e : AT} {n : Nat} {H : A3} : aw P c Q ⟨e, n, H⟩ = aw P d Q ⟨e, n, H⟩ := by rw [h]
def c96_k1 : ACode := .kp [0, 1] (.seq (.reg [zL 8 1,⟨some 9, .callv (.t 8) [], none⟩,zM 7 9,zX 10 7 0,zX 11 7 1,zM 4 10,zM 5 11]) (.kp [0, 4, 5] (.seq (.reg [zM 12 5,zN 13 12,zU 0 13]) (.kp [4, 5] (.seq (.reg [zM 14 4,zM 15 5,zM 2 14,zM 3 15]) (.ret))))))
def Jd {Q e n H} := @Ao Tryz.prog _ _ c96_k1.eq_1 Q e n H
def c96 : AFun := { nargs := 2, nt := 16, res := [.tmp 2, .tmp 3], code := .seq (.reg [zI 2 0,zB 3 false]) (.kp [0, 1] (.seq (.seq (.reg [zL 6 0]) (.kp [0, 1, 6] (.cond (.t 6) (.seq (.reg [zI 2 0,zB 3 false]) (.ret)) (.skip)))) (c96_k1))) }
theorem Xg : (Ah Tryz.prog DI Tryz.f96).map (fun x => (x.nargs, x.nt, x.res, x.code)) = some (c96.nargs, c96.nt, c96.res, bare c96.code) := by kernel_rfl
def c97_k1 : ACode := .kp [0, 1, 2, 5] (.seq (.reg [zL 17 0,zZ 18 17,zF 19 18 0,zL 20 19,zL 21 1,zJ 22 1 20 21,zL 23 22,zE 24 .add 23 1,zJ 25 1 20 21,zU 25 24]) (.kp [2, 5] (.seq (.reg [zL 26 2,zM 27 5,zJ 28 1 26 27,zL 29 28,zM 3 29,zB 4 true]) (.ret))))
def NB {Q e n H} := @Ao Tryz.prog _ _ c97_k1.eq_1 Q e n H
def c97 : AFun := { nargs := 3, nt := 30, res := [.tmp 3, .tmp 4], code := .seq (.reg [zI 3 0,zB 4 false]) (.kp [0, 1, 2] (.seq (.reg [zL 6 0,zZ 7 6,zF 8 7 0,zL 9 8,zL 10 1,zJ 11 1 9 10,zL 12 11,zM 5 12]) (.kp [0, 1, 2, 5] (.seq (.seq (.reg [zM 13 5,zL 14 2,zY 15 14,zD 16 .eql 13 15]) (.kp [0, 1, 2, 5, 16] (.cond (.t 16) (.seq (.reg [zI 3 0,zB 4 false]) (.ret)) (.skip)))) (c97_k1))))) }
theorem A03 : (Ah Tryz.prog DI Tryz.f97).map (fun x => (x.nargs, x.nt, x.res, x.code)) = some (c97.nargs, c97.nt, c97.res, bare c97.code) := by kernel_rfl
def c98_k1 : ACode := .kp [] (.seq (.reg [zI 1 0,zB 2 false]) (.ret))
def Hr {Q e n H} := @Ao Tryz.prog _ _ c98_k1.eq_1 Q e n H
def c98_k2 : ACode := .kp [0] (.reg [zL 17 0,⟨some 18, .cut 1 (.t 17) (some (.c (.int .i64 1))) none, none⟩,zU 0 18])
def Hg {Q e n H} := @Ao Tryz.prog _ _ c98_k2.eq_1 Q e n H
def c98_k3 : ACode := .kp [0] (.block 1 (.seq (.seq (.reg [zL 9 0,⟨some 10, .iaddr 1 none (.t 9) (.c (.int .i64 0)), none⟩,zL 11 10,⟨some 12, .callv (.t 11) [], none⟩,zM 8 12,zX 13 8 0,zX 14 8 1,zM 3 13,zM 4 14]) (.kp [0, 3, 4] (.seq (.reg [zM 15 4]) (.kp [0, 3, 15] (.cond (.t 15) (.seq (.reg [zM 16 3,zM 1 16,zB 2 true]) (.ret)) (.skip)))))) (c98_k2)))
def Hm {Q e n H} := @Ao Tryz.prog _ _ c98_k3.eq_1 Q e n H
def c98_L4 : ACode := .ke [0] (.seq (.seq (.reg [zL 5 0,zY 6 5,zE 7 .gtr 6 0]) (.kp [0, 7] (.cond (.t 7) (.skip) (.exit 0)))) (c98_k3))
def Hj {Q e n H} := @Ao Tryz.prog _ _ c98_L4.eq_1 Q e n H
def c98 : AFun := { nargs := 1, nt := 19, res := [.tmp 1, .tmp 2], code := .seq (.reg [zI 1 0,zB 2 false]) (.kp [0] (.seq (.block 0 (.kp [0] (.loop c98_L4))) (c98_k1))) }
theorem A1z : (Ah Tryz.prog DI Tryz.f98).map (fun x => (x.nargs, x.nt, x.res, x.code)) = some (c98.nargs, c98.nt, c98.res, bare c98.code) := by kernel_rfl
def c99_k1 : ACode := .kp [] (.seq (.reg [zI 1 0,zB 2 false]) (.ret))
def F8 {Q e n H} := @Ao Tryz.prog _ _ c99_k1.eq_1 Q e n H
def c99_t2 : ACode := .kp [0, 3, 4] (.seq (.reg [zL 20 0,⟨some 21, .call 100 [(.t 20)], none⟩,zM 22 3,⟨some 23, .bsl 76 none [(.t 22)], none⟩,⟨some 24, .app 76 1 8 (.t 21) (.t 23), none⟩,zU 0 24]) (.kp [4] (.seq (.reg [zM 25 4,zM 1 25,zB 2 true]) (.ret))))
def F2 {Q e n H} := @Ao Tryz.prog _ _ c99_t2.eq_1 Q e n H
def c99_k3 : ACode := .kp [0] (.block 1 (.seq (.reg [zL 9 0,⟨some 10, .iaddr 1 none (.t 9) (.c (.int .i64 0)), none⟩,zL 11 10,zM 3 11]) (.kp [0, 3] (.seq (.reg [zL 12 0,⟨some 13, .cut 1 (.t 12) (some (.c (.int .i64 1))) none, none⟩,zU 0 13]) (.kp [0, 3] (.seq (.reg [zM 15 3,⟨some 16, .callv (.t 15) [], none⟩,zM 14 16,zX 17 14 0,zX 18 14 1,zM 4 17,zM 5 18]) (.kp [0, 3, 4, 5] (.seq (.reg [zM 19 5]) (.kp [0, 3, 4, 19] (.cond (.t 19) (c99_t2) (.skip)))))))))))
def F0 {Q e n H} := @Ao Tryz.prog _ _ c99_k3.eq_1 Q e n H
def c99_L4 : ACode := .ke [0] (.seq (.seq (.reg [zL 6 0,zY 7 6,zE 8 .gtr 7 0]) (.kp [0, 8] (.cond (.t 8) (.skip) (.exit 0)))) (c99_k3))
def Ey {Q e n H} := @Ao Tryz.prog _ _ c99_L4.eq_1 Q e n H
def c99 : AFun := { nargs := 1, nt := 26, res := [.tmp 1, .tmp 2], code := .seq (.reg [zI 1 0,zB 2 false]) (.kp [0] (.seq (.block 0 (.kp [0] (.loop c99_L4))) (c99_k1))) }
theorem A2h : (Ah Tryz.prog DI Tryz.f99).map (fun x => (x.nargs, x.nt, x.res, x.code)) = some (c99.nargs, c99.nt, c99.res, bare c99.code) := by kernel_rfl
def c101_k1 : ACode := .kp [2, 5, 7] (.seq (.reg [zL 22 2,zM 23 5,zM 24 7,⟨some 25, .callp 102 [(.t 22), (.t 23), (.t 24)], none⟩,zM 3 25,zB 4 true]) (.ret))
def IN {Q e n H} := @Ao Tryz.prog _ _ c101_k1.eq_1 Q e n H
def c101_k2 : ACode := .kp [1, 2, 5] (.seq (.reg [zL 16 1,⟨some 17, .callv (.t 16) [], none⟩,zM 15 17,zX 18 15 0,zX 19 15 1,zM 7 18,zM 6 19]) (.kp [2, 5, 6, 7] (.seq (.seq (.reg [zM 20 6,zN 21 20]) (.kp [2, 5, 7, 21] (.cond (.t 21) (.seq (.reg [zI 3 0,zB 4 false]) (.ret)) (.skip)))) (c101_k1))))
def Ib {Q e n H} := @Ao Tryz.prog _ _ c101_k2.eq_1 Q e n H
def c101 : AFun := { nargs := 3, nt := 26, res := [.tmp 3, .tmp 4], code := .seq (.reg [zI 3 0,zB 4 false]) (.kp [0, 1, 2] (.seq (.reg [zL 9 0,⟨some 10, .callv (.t 9) [], none⟩,zM 8 10,zX 11 8 0,zX 12 8 1,zM 5 11,zM 6 12]) (.kp [1, 2, 5, 6] (.seq (.seq (.reg [zM 13 6,zN 14 13]) (.kp [1, 2, 5, 14] (.cond (.t 14) (.seq (.reg [zI 3 0,zB 4 false]) (.ret)) (.skip)))) (c101_k2))))) }
theorem Tr : (Ah Tryz.prog DI Tryz.f101).map (fun x => (x.nargs, x.nt, x.res, x.code)) = some (c101.nargs, c101.nt, c101.res, bare c101.code) := by kernel_rfl
def c103_k1 : ACode := .kp [1, 2, 7] (.seq (.reg [zM 47 7,⟨some 48, .aaddr 2 1 none (.t 1) (.t 47), none⟩,⟨none, .store none (.t 48) (.c (.bool false)), none⟩]) (.kp [2, 7] (.seq (.reg [zM 49 7,⟨some 50, .aaddr 2 1 none (.t 2) (.t 49), none⟩,zL 51 50,zM 3 51,zB 4 true]) (.ret))))
def CM {Q e n H} := @Ao Tryz.prog _ _ c103_k1.eq_1 Q e n H
def c103_k2 : ACode := .kp [1, 2, 7] (.seq (.seq (.reg [zM 43 7,⟨some 44, .aaddr 2 1 none (.t 1) (.t 43), none⟩,zL 45 44,zN 46 45]) (.kp [1, 2, 7, 46] (.cond (.t 46) (.seq (.reg [zI 3 0,zB 4 false]) (.ret)) (.skip)))) (c103_k1))
def CW {Q e n H} := @Ao Tryz.prog _ _ c103_k2.eq_1 Q e n H
def c103_k3 : ACode := .kp [1, 2] (.seq (.reg [zI 7 0]) (.kp [1, 2, 7] (.seq (.seq (.segs [⟨none, [⟨some 29, .aaddr 2 1 none (.t 1) (.c (.int .i64 0)), none⟩,zL 30 29,zN 31 30,zM 32 31], none⟩,⟨some (32, false), [⟨some 33, .aaddr 2 1 none (.t 1) (.c (.int .i64 1)), none⟩,zL 34 33,zM 35 34], none⟩,⟨some (35, true), [⟨some 36, .aaddr 2 1 none (.t 2) (.c (.int .i64 1)), none⟩,zL 37 36,⟨some 38, .aaddr 2 1 none (.t 2) (.c (.int .i64 0)), none⟩,zL 39 38,zD 40 .lss 37 39], none⟩,⟨some (32, false), [zP 41 35 40], some (42, 41)⟩]) (.kp [1, 2, 7, 42] (.cond (.t 42) (.reg [zI 7 1]) (.skip)))) (c103_k2))))
def CN {Q e n H} := @Ao Tryz.prog _ _ c103_k3.eq_1 Q e n H
def c103_k4 : ACode := .kp [1, 2, 8, 9, 10] (.reg [zE 28 .add 10 1,zM 10 28])
def CZ {Q e n H} := @Ao Tryz.prog _ _ c103_k4.eq_1 Q e n H
def c103_k5 : ACode := .kp [1, 2, 8, 9, 10] (.seq (.block 1 (.seq (.reg [zM 12 10,zJ 13 1 8 10,zL 14 13,zM 5 12,zM 6 14]) (.kp [1, 2, 5, 6, 8, 9, 10] (.seq (.reg [zM 15 5,⟨some 16, .aaddr 2 1 none (.t 1) (.t 15), none⟩,zL 17 16,zN 18 17]) (.kp [1, 2, 5, 6, 8, 9, 10, 18] (.cond (.t 18) (.reg [zM 20 5,zM 21 5,zM 22 6,⟨some 23, .callv (.t 22) [], none⟩,zM 19 23,zX 24 19 0,zX 25 19 1,⟨some 26, .aaddr 2 1 none (.t 2) (.t 20), none⟩,zU 26 24,⟨some 27, .aaddr 2 1 none (.t 1) (.t 21), none⟩,zU 27 25]) (.skip))))))) (c103_k4))
def CV {Q e n H} := @Ao Tryz.prog _ _ c103_k5.eq_1 Q e n H
def c103_L6 : ACode := .ke [1, 2, 8, 9, 10] (.seq (.reg [zD 11 .lss 10 9]) (.kp [1, 2, 8, 9, 10, 11] (.seq (.cond (.t 11) (.skip) (.exit 0)) (c103_k5))))
def CS {Q e n H} := @Ao Tryz.prog _ _ c103_L6.eq_1 Q e n H
def c103 : AFun := { nargs := 3, nt := 52, res := [.tmp 3, .tmp 4], code := .seq (.reg [zI 3 0,zB 4 false]) (.kp [0, 1, 2] (.seq (.seq (.reg [zL 8 0,zY 9 8,zI 10 0]) (.kp [1, 2, 8, 9, 10] (.block 0 (.kp [1, 2, 8, 9, 10] (.loop c103_L6))))) (c103_k3))) }
theorem A0u : (Ah Tryz.prog DI Tryz.f103).map (fun x => (x.nargs, x.nt, x.res, x.code)) = some (c103.nargs, c103.nt, c103.res, bare c103.code) := by kernel_rfl
def c104_k1 : ACode := .kp [1, 4] (.seq (.reg [zF 13 1 1,zL 14 13,zM 15 4,zF 16 1 2,zL 17 16,⟨some 18, .callp 102 [(.t 14), (.t 15), (.t 17)], none⟩,zM 2 18,zB 3 true]) (.ret))
def L6 {Q e n H} := @Ao Tryz.prog _ _ c104_k1.eq_1 Q e n H
def c104 : AFun := { nargs := 2, nt := 19, res := [.tmp 2, .tmp 3], code := .seq (.reg [zI 2 0,zB 3 false]) (.kp [0, 1] (.seq (.reg [zL 7 0,⟨some 8, .callv (.t 7) [], none⟩,zM 6 8,zX 9 6 0,zX 10 6 1,zM 4 9,zM 5 10]) (.kp [1, 4, 5] (.seq (.seq (.reg [zM 11 5,zN 12 11]) (.kp [1, 4, 12] (.cond (.t 12) (.seq (.reg [zI 2 0,zB 3 false]) (.ret)) (.skip)))) (c104_k1))))) }
theorem XR : (Ah Tryz.prog DI Tryz.f104).map (fun x => (x.nargs, x.nt, x.res, x.code)) = some (c104.nargs, c104.nt, c104.res, bare c104.code) := by kernel_rfl
def c105 : AFun := { nargs := 2, nt := 9, res := [.tmp 2, .tmp 3], code := .seq (.reg [zI 2 0,zB 3 false]) (.kp [0, 1] (.seq (.reg [zL 4 0,⟨some 5, .mkfn 107 [] [(.t 1)], none⟩,⟨some 6, .call 106 [(.t 4), (.t 5)], none⟩,zX 7 6 0,zX 8 6 1,zM 2 7,zM 3 8]) (.ret))) }
theorem Xq : (Ah Tryz.prog DI Tryz.f105).map (fun x => (x.nargs, x.nt, x.res, x.code)) = some (c105.nargs, c105.nt, c105.res, bare c105.code) := by kernel_rfl
def c107 : AFun := { nargs := 2, nt := 10, res := [.tmp 3], code := .seq (.reg [zB 3 false]) (.kp [0, 1] (.seq (.reg [zF 4 1 1,zL 5 4,zM 6 0,zF 7 1 2,zL 8 7,⟨some 9, .callp 108 [(.t 5), (.t 6), (.t 8)], none⟩,zM 3 9]) (.ret))) }
theorem A1r : (Ah Tryz.prog DI Tryz.f107).map (fun x => (x.nargs, x.nt, x.res, x.code)) = some (c107.nargs, c107.nt, c107.res, bare c107.code) := by kernel_rfl
def c111 : AFun := { nargs := 2, nt := 21, res := [.tmp 2, .tmp 3], code := .seq (.reg [zI 2 0,zB 3 false]) (.kp [0, 1] (.seq (.reg [zL 7 0,⟨some 8, .callv (.t 7) [], none⟩,zM 6 8,zX 9 6 0,zX 10 6 1,zM 4 9,zM 5 10]) (.kp [1, 4, 5] (.seq (.segs [⟨none, [zM 11 4,zM 12 5,zM 13 12], none⟩,⟨some (13, true), [zF 14 1 1,zL 15 14,zM 16 4,zF 17 1 2,zL 18 17,⟨some 19, .callp 108 [(.t 15), (.t 16), (.t 18)], none⟩], none⟩,⟨none, [zP 20 13 19,zM 2 11,zM 3 20], none⟩]) (.ret))))) }
theorem Tm : (Ah Tryz.prog DI Tryz.f111).map (fun x => (x.nargs, x.nt, x.res, x.code)) = some (c111.nargs, c111.nt, c111.res, bare c111.code) := by kernel_rfl
def c115 : AFun := { nargs := 2, nt := 15, res := [.tmp 2, .tmp 3], code := .seq (.reg [zI 2 0,zB 3 false]) (.kp [0, 1] (.seq (.reg [zL 7 0,⟨some 8, .mkfn 116 [] [(.t 1)], none⟩,⟨some 9, .call 106 [(.t 7), (.t 8)], none⟩,zM 6 9,zX 10 6 0,zX 11 6 1,zM 4 10,zM 5 11]) (.kp [1, 4, 5] (.seq (.reg [zM 12 4,zU 1 12]) (.kp [4, 5] (.seq (.reg [zM 13 4,zM 14 5,zM 2 13,zM 3 14]) (.ret))))))) }
theorem Xp : (Ah Tryz.prog DI Tryz.f115).map (fun x => (x.nargs, x.nt, x.res, x.code)) = some (c115.nargs, c115.nt, c115.res, bare c115.code) := by kernel_rfl
def c116 : AFun := { nargs := 2, nt := 7, res := [.tmp 3], code := .seq (.reg [zB 3 false]) (.kp [0, 1] (.seq (.reg [zM 4 0,zL 5 1,zD 6 .neq 4 5,zM 3 6]) (.ret))) }
theorem A1c : (Ah Tryz.prog DI Tryz.f116).map (fun x => (x.nargs, x.nt, x.res, x.code)) = some (c116.nargs, c116.nt, c116.res, bare c116.code) := by kernel_rfl
def c132_k1 : ACode := .kp [0, 1] (.seq (.reg [zL 6 0,zE 7 .sub 6 1,zU 0 7]) (.kp [1] (.seq (.reg [zL 8 1,⟨some 9, .callv (.t 8) [], none⟩,zX 10 9 0,zX 11 9 1,zM 2 10,zM 3 11]) (.ret))))
def IU {Q e n H} := @Ao Tryz.prog _ _ c132_k1.eq_1 Q e n H
def c132 : AFun := { nargs := 2, nt := 12, res := [.tmp 2, .tmp 3], code := .seq (.reg [zI 2 0,zB 3 false]) (.kp [0, 1] (.seq (.seq (.reg [zL 4 0,zE 5 .eql 4 0]) (.kp [0, 1, 5] (.cond (.t 5) (.seq (.reg [zI 2 0,zB 3 false]) (.ret)) (.skip)))) (c132_k1))) }
theorem T5 : (Ah Tryz.prog DI Tryz.f132).map (fun x => (x.nargs, x.nt, x.res, x.code)) = some (c132.nargs, c132.nt, c132.res, bare c132.code) := by kernel_rfl
def c133_k1 : ACode := .kp [1] (.seq (.reg [zL 17 1,⟨some 18, .callv (.t 17) [], none⟩,zX 19 18 0,zX 20 18 1,zM 2 19,zM 3 20]) (.ret))
def FL {Q e n H} := @Ao Tryz.prog _ _ c133_k1.eq_1 Q e n H
def c133_k2 : ACode := .kp [0, 1] (.reg [zL 8 0,zE 9 .sub 8 1,zU 0 9])
def FE {Q e n H} := @Ao Tryz.prog _ _ c133_k2.eq_1 Q e n H
def c133_k3 : ACode := .kp [0, 1] (.seq (.block 1 (.seq (.reg [zL 11 1,⟨some 12, .callv (.t 11) [], none⟩,zM 10 12,zX 13 10 0,zX 14 10 1,zM 4 13,zM 5 14]) (.kp [0, 1, 5] (.seq (.reg [zM 15 5,zN 16 15]) (.kp [0, 1, 16] (.cond (.t 16) (.seq (.reg [zI 2 0,zB 3 false]) (.ret)) (.skip))))))) (c133_k2))
def FC {Q e n H} := @Ao Tryz.prog _ _ c133_k3.eq_1 Q e n H
def c133_L4 : ACode := .ke [0, 1] (.seq (.seq (.reg [zL 6 0,zE 7 .gtr 6 0]) (.kp [0, 1, 7] (.cond (.t 7) (.skip) (.exit 0)))) (c133_k3))
def FA {Q e n H} := @Ao Tryz.prog _ _ c133_L4.eq_1 Q e n H
def c133 : AFun := { nargs := 2, nt := 21, res := [.tmp 2, .tmp 3], code := .seq (.reg [zI 2 0,zB 3 false]) (.kp [0, 1] (.seq (.block 0 (.kp [0, 1] (.loop c133_L4))) (c133_k1))) }
theorem A1o : (Ah Tryz.prog DI Tryz.f133).map (fun x => (x.nargs, x.nt, x.res, x.code)) = some (c133.nargs, c133.nt, c133.res, bare c133.code) := by kernel_rfl
def c134_k1 : ACode := .kp [0, 1, 2] (.seq (.reg [⟨none, .store none (.t 0) (.c (.bool true)), none⟩]) (.kp [1, 2] (.seq (.reg [zL 10 1,⟨some 11, .mkfn 135 [] [(.t 2)], none⟩,⟨some 12, .call 106 [(.t 10), (.t 11)], none⟩,zX 13 12 0,zX 14 12 1,zM 3 13,zM 4 14]) (.ret))))
def GW {Q e n H} := @Ao Tryz.prog _ _ c134_k1.eq_1 Q e n H
def c134 : AFun := { nargs := 3, nt := 15, res := [.tmp 3, .tmp 4], code := .seq (.reg [zI 3 0,zB 4 false]) (.kp [0, 1, 2] (.seq (.seq (.reg [zL 5 0]) (.kp [0, 1, 2, 5] (.cond (.t 5) (.seq (.reg [zL 6 1,⟨some 7, .callv (.t 6) [], none⟩,zX 8 7 0,zX 9 7 1,zM 3 8,zM 4 9]) (.ret)) (.skip)))) (c134_k1))) }
theorem Pm : (Ah Tryz.prog DI Tryz.f134).map (fun x => (x.nargs, x.nt, x.res, x.code)) = some (c134.nargs, c134.nt, c134.res, bare c134.code) := by kernel_rfl
def c135 : AFun := { nargs := 2, nt := 11, res := [.tmp 3], code := .seq (.reg [zB 3 false]) (.kp [0, 1] (.seq (.reg [zF 4 1 1,zL 5 4,zM 6 0,zF 7 1 2,zL 8 7,⟨some 9, .callp 108 [(.t 5), (.t 6), (.t 8)], none⟩,zN 10 9,zM 3 10]) (.ret))) }
theorem A0y : (Ah Tryz.prog DI Tryz.f135).map (fun x => (x.nargs, x.nt, x.res, x.code)) = some (c135.nargs, c135.nt, c135.res, bare c135.code) := by kernel_rfl
def c136_k1 : ACode := .kp [1, 2, 5] (.seq (.reg [zF 14 1 1,zL 15 14,zL 16 2,zM 17 5,⟨some 18, .callp 102 [(.t 15), (.t 16), (.t 17)], none⟩,zU 2 18]) (.kp [2] (.seq (.reg [zL 19 2,zM 3 19,zB 4 true]) (.ret))))
def L0 {Q e n H} := @Ao Tryz.prog _ _ c136_k1.eq_1 Q e n H
def c136 : AFun := { nargs := 3, nt := 20, res := [.tmp 3, .tmp 4], code := .seq (.reg [zI 3 0,zB 4 false]) (.kp [0, 1, 2] (.seq (.reg [zL 8 0,⟨some 9, .callv (.t 8) [], none⟩,zM 7 9,zX 10 7 0,zX 11 7 1,zM 5 10,zM 6 11]) (.kp [1, 2, 5, 6] (.seq (.seq (.reg [zM 12 6,zN 13 12]) (.kp [1, 2, 5, 13] (.cond (.t 13) (.seq (.reg [zI 3 0,zB 4 false]) (.ret)) (.skip)))) (c136_k1))))) }
theorem X8 : (Ah Tryz.prog DI Tryz.f136).map (fun x => (x.nargs, x.nt, x.res, x.code)) = some (c136.nargs, c136.nt, c136.res, bare c136.code) := by kernel_rfl
def c137_k1 : ACode := .kp [8] (.seq (.reg [zM 54 8,zM 3 54,zB 4 true]) (.ret))
def D8 {Q e n H} := @Ao Tryz.prog _ _ c137_k1.eq_1 Q e n H
def c137_k2 : ACode := .kp [1, 8, 42, 43, 44] (.reg [zE 53 .add 44 1,zM 44 53])
def D9 {Q e n H} := @Ao Tryz.prog _ _ c137_k2.eq_1 Q e n H
def c137_k3 : ACode := .kp [1, 8, 42, 43, 44] (.seq (.block 3 (.seq (.reg [zJ 46 1 42 44,zL 47 46,zM 10 47]) (.kp [1, 8, 10, 42, 43, 44] (.reg [zF 48 1 1,zL 49 48,zM 50 8,zM 51 10,⟨some 52, .callp 102 [(.t 49), (.t 50), (.t 51)], none⟩,zM 8 52])))) (c137_k2))
def DB {Q e n H} := @Ao Tryz.prog _ _ c137_k3.eq_1 Q e n H
def c137_L4 : ACode := .ke [1, 8, 42, 43, 44] (.seq (.reg [zD 45 .lss 44 43]) (.kp [1, 8, 42, 43, 44, 45] (.seq (.cond (.t 45) (.skip) (.exit 2)) (c137_k3))))
def DA {Q e n H} := @Ao Tryz.prog _ _ c137_L4.eq_1 Q e n H
def c137_k5 : ACode := .kp [0, 1] (.seq (.reg [zL 30 0,zL 31 0,zY 32 31,zF 33 1 2,zL 34 33,zD 35 .sub 32 34,⟨some 36, .cut 1 (.t 30) (some (.t 35)) none, none⟩,⟨some 37, .call 92 [(.t 36)], none⟩,zU 0 37]) (.kp [0, 1] (.seq (.reg [zL 38 0,⟨some 39, .iaddr 1 none (.t 38) (.c (.int .i64 0)), none⟩,zL 40 39,zM 8 40]) (.kp [0, 1, 8] (.seq (.seq (.reg [zL 41 0,⟨some 42, .cut 1 (.t 41) (some (.c (.int .i64 1))) none, none⟩,zY 43 42,zI 44 0]) (.kp [1, 8, 42, 43, 44] (.block 2 (.kp [1, 8, 42, 43, 44] (.loop c137_L4))))) (c137_k1))))))
def Cx {Q e n H} := @Ao Tryz.prog _ _ c137_k5.eq_1 Q e n H
def c137_k6 : ACode := .kp [0, 1, 2] (.reg [zB 5 false])
def D5 {Q e n H} := @Ao Tryz.prog _ _ c137_k6.eq_1 Q e n H
def c137_k7 : ACode := .kp [0, 1, 2, 6] (.reg [zL 26 0,zM 27 6,⟨some 28, .bsl 3 none [(.t 27)], none⟩,⟨some 29, .app 3 1 8 (.t 26) (.t 28), none⟩,zU 0 29])
def Cw {Q e n H} := @Ao Tryz.prog _ _ c137_k7.eq_1 Q e n H
def c137_k8 : ACode := .kp [0, 1, 2] (.seq (.block 1 (.seq (.reg [zL 20 2,⟨some 21, .callv (.t 20) [], none⟩,zM 19 21,zX 22 19 0,zX 23 19 1,zM 6 22,zM 7 23]) (.kp [0, 1, 2, 6, 7] (.seq (.seq (.reg [zM 24 7,zN 25 24]) (.kp [0, 1, 2, 6, 25] (.cond (.t 25) (.seq (.reg [zI 3 0,zB 4 false]) (.ret)) (.skip)))) (c137_k7))))) (c137_k6))
def D4 {Q e n H} := @Ao Tryz.prog _ _ c137_k8.eq_1 Q e n H
def c137_L9 : ACode := .ke [0, 1, 2, 5] (.seq (.seq (.segs [⟨none, [zM 11 5,zM 12 11], none⟩,⟨some (12, false), [zL 13 0,zY 14 13,zF 15 1 2,zL 16 15,zD 17 .lss 14 16], some (18, 17)⟩]) (.kp [0, 1, 2, 18] (.cond (.t 18) (.skip) (.exit 0)))) (c137_k8))
def DD {Q e n H} := @Ao Tryz.prog _ _ c137_L9.eq_1 Q e n H
def c137 : AFun := { nargs := 3, nt := 55, res := [.tmp 3, .tmp 4], code := .seq (.reg [zI 3 0,zB 4 false]) (.kp [0, 1, 2] (.seq (.seq (.reg [zB 5 true]) (.kp [0, 1, 2, 5] (.block 0 (.kp [0, 1, 2, 5] (.loop c137_L9))))) (c137_k5))) }
theorem A1p : (Ah Tryz.prog DI Tryz.f137).map (fun x => (x.nargs, x.nt, x.res, x.code)) = some (c137.nargs, c137.nt, c137.res, bare c137.code) := by kernel_rfl
def c138_k1 : ACode := .kp [1, 3] (.seq (.reg [zL 38 1,zE 39 .add 38 1,zU 1 39]) (.kp [1, 3] (.seq (.reg [zL 40 3,zL 41 1,zE 42 .sub 41 1,zJ 43 1 40 42,zL 44 43,zM 4 44,zB 5 true]) (.ret))))
def CU {Q e n H} := @Ao Tryz.prog _ _ c138_k1.eq_1 Q e n H
def c138_k2 : ACode := .kp [0, 1, 3] (.seq (.seq (.segs [⟨none, [zL 31 0,zE 32 .leq 31 0,zM 33 32], none⟩,⟨some (33, false), [zL 34 3,zY 35 34,zE 36 .eql 35 0], some (37, 36)⟩]) (.kp [1, 3, 37] (.cond (.t 37) (.seq (.reg [zI 4 0,zB 5 false]) (.ret)) (.skip)))) (c138_k1))
def CP {Q e n H} := @Ao Tryz.prog _ _ c138_k2.eq_1 Q e n H
def c138_t3 : ACode := .kp [0, 1, 3] (.seq (.reg [⟨none, .store none (.t 1) (.c (.int .i64 0)), none⟩]) (.kp [0, 1, 3] (.reg [zL 29 0,zE 30 .sub 29 1,zU 0 30])))
def CR {Q e n H} := @Ao Tryz.prog _ _ c138_t3.eq_1 Q e n H
def c138_k4 : ACode := .kp [0, 1, 3] (.seq (.seq (.reg [zL 25 1,zL 26 3,zY 27 26,zD 28 .eql 25 27]) (.kp [0, 1, 3, 28] (.cond (.t 28) (c138_t3) (.skip)))) (c138_k2))
def CQ {Q e n H} := @Ao Tryz.prog _ _ c138_k4.eq_1 Q e n H
def c138_k5 : ACode := .kp [0, 1, 3] (.seq (.reg [⟨none, .store none (.t 1) (.c (.int .i64 0)), none⟩]) (.kp [0, 1, 3] (.reg [zL 23 0,zE 24 .sub 23 1,zU 0 24])))
def CX {Q e n H} := @Ao Tryz.prog _ _ c138_k5.eq_1 Q e n H
def c138_t6 : ACode := .kp [3, 6] (.seq (.reg [zL 18 3,zM 19 6,⟨some 20, .bsl 3 none [(.t 19)], none⟩,⟨some 21, .app 3 1 8 (.t 18) (.t 20), none⟩,zU 3 21]) (.kp [6] (.seq (.reg [zM 22 6,zM 4 22,zB 5 true]) (.ret))))
def CY {Q e n H} := @Ao Tryz.prog _ _ c138_t6.eq_1 Q e n H
def c138_t7 : ACode := .kp [0, 1, 2, 3] (.seq (.reg [zL 13 2,⟨some 14, .callv (.t 13) [], none⟩,zM 12 14,zX 15 12 0,zX 16 12 1,zM 6 15,zM 7 16]) (.kp [0, 1, 3, 6, 7] (.seq (.seq (.reg [zM 17 7]) (.kp [0, 1, 3, 6, 17] (.cond (.t 17) (c138_t6) (.skip)))) (c138_k5))))
def Ca {Q e n H} := @Ao Tryz.prog _ _ c138_t7.eq_1 Q e n H
def c138_k8 : ACode := .kp [0, 1, 2, 3] (.seq (.seq (.reg [zL 10 1,zE 11 .lss 10 0]) (.kp [0, 1, 2, 3, 11] (.cond (.t 11) (c138_t7) (.skip)))) (c138_k4))
def CL {Q e n H} := @Ao Tryz.prog _ _ c138_k8.eq_1 Q e n H
def c138 : AFun := { nargs := 4, nt := 45, res := [.tmp 4, .tmp 5], code := .seq (.reg [zI 4 0,zB 5 false]) (.kp [0, 1, 2, 3] (.seq (.seq (.reg [zL 8 0,zE 9 .eql 8 0]) (.kp [0, 1, 2, 3, 9] (.cond (.t 9) (.seq (.reg [zI 4 0,zB 5 false]) (.ret)) (.skip)))) (c138_k8))) }
theorem JW : (Ah Tryz.prog DI Tryz.f138).map (fun x => (x.nargs, x.nt, x.res, x.code)) = some (c138.nargs, c138.nt, c138.res, bare c138.code) := by kernel_rfl
def c100_k1 : ACode := .kp [0] (.seq (.reg [⟨some 5, .bsl 76 none [], none⟩,zM 6 0,⟨some 7, .app 76 1 8 (.t 5) (.t 6), none⟩,zM 2 7]) (.ret))
def Lk {Q e n H} := @Ao Tryz.prog _ _ c100_k1.eq_1 Q e n H
def c100 : AFun := { nargs := 1, nt := 8, res := [.tmp 2], code := .seq (.reg [⟨some 2, .mv (.c (.sl 0 [] .nil)), none⟩]) (.kp [0] (.seq (.seq (.reg [zM 3 0,⟨some 4, .eqn false (.t 3), none⟩]) (.kp [0, 4] (.cond (.t 4) (.seq (.reg [⟨some 2, .mv (.c (.sl 0 [] .nil)), none⟩]) (.ret)) (.skip)))) (c100_k1))) }
theorem A1d : (Ah Tryz.prog DI Tryz.f100).map (fun x => (x.nargs, x.nt, x.res, x.code)) = some (c100.nargs, c100.nt, c100.res, bare c100.code) := by kernel_rfl
def c92_k1 : ACode := .kp [0] (.seq (.reg [⟨some 5, .bsl 3 none [], none⟩,zM 6 0,⟨some 7, .app 3 1 8 (.t 5) (.t 6), none⟩,zM 2 7]) (.ret))
def Mt {Q e n H} := @Ao Tryz.prog _ _ c92_k1.eq_1 Q e n H
def c92 : AFun := { nargs := 1, nt := 8, res := [.tmp 2], code := .seq (.reg [⟨some 2, .mv (.c (.sl 0 [] .nil)), none⟩]) (.kp [0] (.seq (.seq (.reg [zM 3 0,⟨some 4, .eqn false (.t 3), none⟩]) (.kp [0, 4] (.cond (.t 4) (.seq (.reg [⟨some 2, .mv (.c (.sl 0 [] .nil)), none⟩]) (.ret)) (.skip)))) (c92_k1))) }
theorem A2e : (Ah Tryz.prog DI Tryz.f92).map (fun x => (x.nargs, x.nt, x.res, x.code)) = some (c92.nargs, c92.nt, c92.res, bare c92.code) := by kernel_rfl
theorem BT {P : Program} {c d : ACode} (h : c = d) {Q : AExit → AS → Prop} {e : AT} {n : Nat} {H : A3} : aw P c Q ⟨e, n, H⟩ = aw P d Q ⟨e, n, H⟩ := by rw [h]
def c66_k1 : ACode := .kp [1, 2, 3] (.seq (.reg [zM 23 3,zF 24 1 4,zU 24 23]) (.kp [1, 2] (.seq (.reg [zG 25 5 1,zS 5 2 25]) (.ret))))
def N5 {Q e n H} := @BT Tryz.prog _ _ c66_k1.eq_1 Q e n H
def c66_k2 : ACode := .kp [1, 2, 3, 11, 12, 13] (.reg [zE 22 .add 13 1,zM 13 22])
def N2 {Q e n H} := @BT Tryz.prog _ _ c66_k2.eq_1 Q e n H
def c66_k3 : ACode := .kp [1, 2, 3, 11, 12, 13] (.seq (.block 1 (.seq (.reg [⟨some 15, .iaddr 5 (some 5) (.t 11) (.t 13), none⟩,zG 16 5 15,⟨some 5, .alloc 25 [(.int .i64 0), (.int .i64 0), (.int .i64 0), (.sl 0 [] .nil), (.sl 0 [] .nil)], none⟩,zS 5 5 16]) (.kp [1, 2, 3, 5, 11, 12, 13] (.reg [zM 17 3,zG 18 5 5,⟨some 19, .call 66 [(.t 18)], none⟩,⟨some 20, .bsl 25 (some 5) [(.t 19)], none⟩,⟨some 21, .app 25 5 72 (.t 17) (.t 20), none⟩,zM 3 21])))) (c66_k2))
def Vq {Q e n H} := @BT Tryz.prog _ _ c66_k3.eq_1 Q e n H
def c66_L4 : ACode := .ke [1, 2, 3, 11, 12, 13] (.seq (.reg [zD 14 .lss 13 12]) (.kp [1, 2, 3, 11, 12, 13, 14] (.seq (.cond (.t 14) (.skip) (.exit 0)) (c66_k3))))
def Ju {Q e n H} := @BT Tryz.prog _ _ c66_L4.eq_1 Q e n H
def c66 : AFun := { nargs := 1, nt := 26, res := [.cell 2 (some 5)], code := .seq (.reg [zH 1 25 5 0,⟨some 2, .alloc 25 [(.int .i64 0), (.int .i64 0), (.int .i64 0), (.sl 0 [] .nil), (.sl 0 [] .nil)], none⟩]) (.kp [1, 2] (.seq (.reg [zF 6 1 3,zL 7 6,⟨some 8, .call 92 [(.t 7)], none⟩,zF 9 1 3,zU 9 8]) (.kp [1, 2] (.seq (.reg [⟨some 3, .mv (.c (.sl 0 [] .nil)), none⟩]) (.kp [1, 2, 3] (.seq (.seq (.reg [zF 10 1 4,zL 11 10,zY 12 11,zI 13 0]) (.kp [1, 2, 3, 11, 12, 13] (.block 0 (.kp [1, 2, 3, 11, 12, 13] (.loop c66_L4))))) (c66_k1))))))) }
theorem A1w : (Ah Tryz.prog DI Tryz.f66).map (fun x => (x.nargs, x.nt, x.res, x.code)) = some (c66.nargs, c66.nt, c66.res, bare c66.code) := by kernel_rfl
def c65_k1 : ACode := .gh (.kp [1, 2] (.seq (.reg [zG 41 5 1,zS 5 2 41]) (.ret)))
def Vn {Q e n H} := @BT Tryz.prog _ _ c65_k1.eq_1 Q e n H
def c65_k2 : ACode := .kp [1, 2, 5, 26, 27, 28] (.reg [zE 40 .add 28 1,zM 28 40])
def Ji {Q e n H} := @BT Tryz.prog _ _ c65_k2.eq_1 Q e n H
def c65_k3 : ACode := .kp [1, 2, 5, 26, 27, 28] (.seq (.block 5 (.seq (.reg [zJ 30 1 26 28,zL 31 30,zM 7 31]) (.kp [1, 2, 5, 7, 26, 27, 28] (.seq (.reg [zM 33 7,zG 34 5 1,⟨some 35, .callv (.t 33) [(.t 34)], none⟩,zM 32 35,zX 36 32 0,zX 37 32 1,⟨some 8, .alloc 25 [(.int .i64 0), (.int .i64 0), (.int .i64 0), (.sl 0 [] .nil), (.sl 0 [] .nil)], none⟩,zS 5 8 36,zM 9 37]) (.kp [1, 2, 5, 8, 9, 26, 27, 28] (.seq (.reg [zM 38 9]) (.kp [1, 2, 5, 8, 26, 27, 28, 38] (.cond (.t 38) (.seq (.reg [zG 39 5 8,zS 5 1 39,zB 5 true]) (.exit 4)) (.skip))))))))) (c65_k2))
def F1 {Q e n H} := @BT Tryz.prog _ _ c65_k3.eq_1 Q e n H
def c65_L4 : ACode := .ke [1, 2, 5, 26, 27, 28] (.seq (.reg [zD 29 .lss 28 27]) (.kp [1, 2, 5, 26, 27, 28, 29] (.seq (.cond (.t 29) (.skip) (.exit 4)) (c65_k3))))
def EO {Q e n H} := @BT Tryz.prog _ _ c65_L4.eq_1 Q e n H
def c65_k5 : ACode := .kp [1, 2] (.block 3 (.seq (.reg [zB 5 false]) (.kp [1, 2, 5] (.seq (.reg [⟨some 26, .bsl 98 none [(.c (.fn 89 [] [])), (.c (.fn 90 [] [])), (.c (.fn 91 [] []))], none⟩,zY 27 26,zI 28 0]) (.kp [1, 2, 5, 26, 27, 28] (.block 4 (.kp [1, 2, 5, 26, 27, 28] (.loop c65_L4))))))))
def Mq {Q e n H} := @BT Tryz.prog _ _ c65_k5.eq_1 Q e n H
def c65_L6 : ACode := .ke [1, 2, 5] (.seq (.seq (.reg [zM 25 5]) (.kp [1, 2, 25] (.cond (.t 25) (.skip) (.exit 2)))) (c65_k5))
def JU {Q e n H} := @BT Tryz.prog _ _ c65_L6.eq_1 Q e n H
def NG : ACode := .gh (.kp [1, 2] (.seq (.seq (.reg [zB 5 true]) (.kp [1, 2, 5] (.block 2 (.kp [1, 2, 5] (.loop c65_L6))))) (c65_k1)))
def c65_k8 : ACode := .kp [1, 2, 11, 12, 13] (.reg [zE 24 .add 13 1,zM 13 24])
def Uy {Q e n H} := @BT Tryz.prog _ _ c65_k8.eq_1 Q e n H
def c65_k9 : ACode := .kp [1, 2, 11, 12, 13] (.seq (.block 1 (.seq (.reg [zM 15 13,⟨some 16, .iaddr 5 (some 5) (.t 11) (.t 13), none⟩,zG 17 5 16,⟨some 4, .alloc 25 [(.int .i64 0), (.int .i64 0), (.int .i64 0), (.sl 0 [] .nil), (.sl 0 [] .nil)], none⟩,zM 3 15,zS 5 4 17]) (.kp [1, 2, 3, 4, 11, 12, 13] (.regD .plain [] [zF 18 1 4,zL 19 18,zM 20 3,zG 21 5 4,⟨some 22, .call 65 [(.t 21)], none⟩,⟨some 23, .iaddr 5 (some 5) (.t 19) (.t 20), none⟩,zS 5 23 22])))) (c65_k8))
def WA {Q e n H} := @BT Tryz.prog _ _ c65_k9.eq_1 Q e n H
def c65_L10 : ACode := .ke [1, 2, 11, 12, 13] (.seq (.reg [zD 14 .lss 13 12]) (.kp [1, 2, 11, 12, 13, 14] (.seq (.cond (.t 14) (.skip) (.exit 0)) (c65_k9))))
def IM {Q e n H} := @BT Tryz.prog _ _ c65_L10.eq_1 Q e n H
def c65 : AFun := { nargs := 1, nt := 42, res := [.cell 2 (some 5)], code := .seq (.reg [zH 1 25 5 0,⟨some 2, .alloc 25 [(.int .i64 0), (.int .i64 0), (.int .i64 0), (.sl 0 [] .nil), (.sl 0 [] .nil)], none⟩]) (.kp [1, 2] (.seq (.seq (.reg [zF 10 1 4,zL 11 10,zY 12 11,zI 13 0]) (.kp [1, 2, 11, 12, 13] (.block 0 (.kp [1, 2, 11, 12, 13] (.loop c65_L10))))) (NG))) }
theorem Zm : (Ah Tryz.prog DI Tryz.f65).map (fun x => (x.nargs, x.nt, x.res, x.code)) = some (c65.nargs, c65.nt, c65.res, bare c65.code) := by kernel_rfl
def c89_k1 : ACode := .kp [1, 2] (.seq (.reg [zF 57 1 4,zL 58 57,⟨some 59, .iaddr 5 (some 5) (.t 58) (.c (.int .i64 0)), none⟩,zG 60 5 59,zS 5 2 60,zB 3 true]) (.ret))
def Au {Q e n H} := @BT Tryz.prog _ _ c89_k1.eq_1 Q e n H
def c89_k2 : ACode := .kp [1, 2, 4] (.seq (.seq (.reg [zM 54 4,zN 55 54]) (.kp [1, 2, 55] (.cond (.t 55) (.seq (.reg [zG 56 5 1,zS 5 2 56,zB 3 false]) (.ret)) (.skip)))) (c89_k1))
def Ar {Q e n H} := @BT Tryz.prog _ _ c89_k2.eq_1 Q e n H
def c89_e3 : ACode := .kp [1, 2, 4, 6] (.seq (.reg [zE 45 .eql 6 5,zM 44 45]) (.kp [1, 2, 4, 44] (.cond (.t 44) (.reg [zF 46 1 2,zL 47 46,zF 48 1 4,zL 49 48,⟨some 50, .iaddr 5 (some 5) (.t 49) (.c (.int .i64 0)), none⟩,zG 51 5 50,zV 52 36 51,zD 53 .gtr 47 52,zM 4 53]) (.skip))))
def As {Q e n H} := @BT Tryz.prog _ _ c89_e3.eq_1 Q e n H
def c89_k4 : ACode := .kp [1, 2, 4, 6, 37] (.cond (.t 37) (.reg [zF 40 1 4,zL 41 40,zY 42 41,zE 43 .eql 42 1,zM 4 43]) (c89_e3))
def Aw {Q e n H} := @BT Tryz.prog _ _ c89_k4.eq_1 Q e n H
def c89_e5 : ACode := .kp [1, 2, 4, 6] (.seq (.seq (.reg [zE 38 .eql 6 13,zM 37 38]) (.kp [1, 2, 4, 6, 37] (.cond (.t 37) (.skip) (.reg [zE 39 .eql 6 14,zM 37 39])))) (c89_k4))
def Ay {Q e n H} := @BT Tryz.prog _ _ c89_e5.eq_1 Q e n H
def c89_e6 : ACode := .kp [1, 2, 4, 6] (.seq (.reg [zE 33 .eql 6 12,zM 32 33]) (.kp [1, 2, 4, 6, 32] (.cond (.t 32) (.reg [zF 34 1 2,zL 35 34,zE 36 .eql 35 1,zM 4 36]) (c89_e5))))
def Az {Q e n H} := @BT Tryz.prog _ _ c89_e6.eq_1 Q e n H
def c89_e7 : ACode := .kp [1, 2, 4, 6] (.seq (.reg [zE 28 .eql 6 6,zM 27 28]) (.kp [1, 2, 4, 6, 27] (.cond (.t 27) (.reg [zF 29 1 2,zL 30 29,zE 31 .eql 30 0,zM 4 31]) (c89_e6))))
def Av {Q e n H} := @BT Tryz.prog _ _ c89_e7.eq_1 Q e n H
def c89 : AFun := { nargs := 1, nt := 61, res := [.cell 2 (some 5), .tmp 3], code := .seq (.reg [zH 1 25 5 0,⟨some 2, .alloc 25 [(.int .i64 0), (.int .i64 0), (.int .i64 0), (.sl 0 [] .nil), (.sl 0 [] .nil)], none⟩,zB 3 false]) (.kp [1, 2] (.seq (.reg [zB 4 false]) (.kp [1, 2, 4] (.seq (.seq (.reg [zF 5 1 0,zL 6 5]) (.kp [1, 2, 4, 6] (.block 0 (.seq (.reg [zE 8 .eql 6 3,zM 7 8]) (.kp [1, 2, 4, 6, 7] (.cond (.t 7) (.segs [⟨none, [zF 9 1 1,zL 10 9,zE 11 .eql 10 1,zM 12 11], none⟩,⟨some (12, true), [zF 13 1 2,zL 14 13,zE 15 .eql 14 0], some (16, 15)⟩,⟨none, [zM 17 16], none⟩,⟨some (17, false), [zF 18 1 1,zL 19 18,zE 20 .eql 19 3,zM 21 20], none⟩,⟨some (21, true), [zF 22 1 2,zL 23 22,zE 24 .eql 23 1], none⟩,⟨some (17, false), [zP 25 21 24], some (26, 25)⟩,⟨none, [zM 4 26], none⟩]) (c89_e7))))))) (c89_k2))))) }
theorem EJ : (Ah Tryz.prog DI Tryz.f89).map (fun x => (x.nargs, x.nt, x.res, x.code)) = some (c89.nargs, c89.nt, c89.res, bare c89.code) := by kernel_rfl
def c90_k1 : ACode := .kp [2, 4, 5] (.seq (.reg [zM 112 5,zF 113 4 2,zU 113 112]) (.kp [2, 4] (.seq (.reg [zG 114 5 4,zS 5 2 114,zB 3 true]) (.ret))))
def BI {Q e n H} := @BT Tryz.prog _ _ c90_k1.eq_1 Q e n H
def c90_e2 : ACode := .kp [1, 2, 4, 5] (.seq (.reg [zF 109 1 0,zL 110 109,zE 111 .eql 110 11,zM 108 111]) (.kp [1, 2, 4, 5, 108] (.cond (.t 108) (.skip) (.seq (.reg [zG 35 5 1,zS 5 2 35,zB 3 false]) (.ret)))))
def BE {Q e n H} := @BT Tryz.prog _ _ c90_e2.eq_1 Q e n H
def c90_e3 : ACode := .kp [1, 2, 4, 5] (.seq (.reg [zF 99 1 0,zL 100 99,zE 101 .eql 100 6,zM 98 101]) (.kp [1, 2, 4, 5, 98] (.cond (.t 98) (.reg [zF 102 1 2,zL 103 102,zF 104 4 2,zL 105 104,zD 106 .add 103 105,⟨some 107, .mm false (.t 106) (.c (.int .i64 5000)), none⟩,zM 5 107]) (c90_e2))))
def BD {Q e n H} := @BT Tryz.prog _ _ c90_e3.eq_1 Q e n H
def c90_e4 : ACode := .kp [1, 2, 4, 5] (.seq (.segs [⟨none, [zF 85 1 0,zL 86 85,zE 87 .eql 86 4,zM 88 87], none⟩,⟨some (88, true), [zF 89 1 1,zL 90 89,zE 91 .eql 90 2], some (92, 91)⟩,⟨none, [zM 84 92], none⟩]) (.kp [1, 2, 4, 5, 84] (.cond (.t 84) (.reg [zF 93 1 2,zL 94 93,zF 95 4 2,zL 96 95,⟨some 97, .mm true (.t 94) (.t 96), none⟩,zM 5 97]) (c90_e3))))
def BL {Q e n H} := @BT Tryz.prog _ _ c90_e4.eq_1 Q e n H
def c90_k5 : ACode := .kp [1, 2, 4, 5, 67] (.cond (.t 67) (.reg [zF 79 1 2,zL 80 79,zF 81 4 2,zL 82 81,⟨some 83, .mm false (.t 80) (.t 82), none⟩,zM 5 83]) (c90_e4))
def BF {Q e n H} := @BT Tryz.prog _ _ c90_k5.eq_1 Q e n H
def c90_e6 : ACode := .kp [1, 2, 4, 5] (.seq (.seq (.segs [⟨none, [zF 68 1 0,zL 69 68,zE 70 .eql 69 4,zM 71 70], none⟩,⟨some (71, true), [zF 72 1 1,zL 73 72,zE 74 .eql 73 1], some (75, 74)⟩,⟨none, [zM 67 75], none⟩]) (.kp [1, 2, 4, 5, 67] (.cond (.t 67) (.skip) (.reg [zF 76 1 0,zL 77 76,zE 78 .eql 77 5,zM 67 78])))) (c90_k5))
def BO {Q e n H} := @BT Tryz.prog _ _ c90_e6.eq_1 Q e n H
def c90_k7 : ACode := .kp [1, 2] (.seq (.reg [zF 31 1 4,zL 32 31,⟨some 33, .iaddr 5 (some 5) (.t 32) (.c (.int .i64 0)), none⟩,zG 34 5 33,⟨some 4, .alloc 25 [(.int .i64 0), (.int .i64 0), (.int .i64 0), (.sl 0 [] .nil), (.sl 0 [] .nil)], none⟩,zS 5 4 34]) (.kp [1, 2, 4] (.seq (.reg [zI 5 0]) (.kp [1, 2, 4, 5] (.seq (.block 0 (.seq (.segs [⟨none, [zF 37 1 0,zL 38 37,zE 39 .eql 38 3,zM 40 39], none⟩,⟨some (40, true), [zF 41 1 1,zL 42 41,zE 43 .eql 42 1,zM 44 43], none⟩,⟨some (44, false), [zF 45 1 1,zL 46 45,zE 47 .eql 46 3], none⟩,⟨some (40, true), [zO 48 44 47,zM 49 48], none⟩,⟨some (49, false), [zF 50 1 1,zL 51 50,zE 52 .eql 51 4], none⟩,⟨some (40, true), [zO 53 49 52,zM 54 53], none⟩,⟨some (54, false), [zF 55 1 1,zL 56 55,zE 57 .eql 56 5], none⟩,⟨some (40, true), [zO 58 54 57], some (59, 58)⟩,⟨none, [zM 36 59], none⟩]) (.kp [1, 2, 4, 5, 36] (.cond (.t 36) (.reg [zF 60 1 1,zL 61 60,zF 62 1 2,zL 63 62,zF 64 4 2,zL 65 64,⟨some 66, .callp 102 [(.t 61), (.t 63), (.t 65)], none⟩,zM 5 66]) (c90_e6))))) (c90_k1))))))
def BK {Q e n H} := @BT Tryz.prog _ _ c90_k7.eq_1 Q e n H
def c90 : AFun := { nargs := 1, nt := 115, res := [.cell 2 (some 5), .tmp 3], code := .seq (.reg [zH 1 25 5 0,⟨some 2, .alloc 25 [(.int .i64 0), (.int .i64 0), (.int .i64 0), (.sl 0 [] .nil), (.sl 0 [] .nil)], none⟩,zB 3 false]) (.kp [1, 2] (.seq (.seq (.segs [⟨none, [zF 6 1 4,zL 7 6,zY 8 7,zE 9 .neq 8 1,zM 10 9], none⟩,⟨some (10, false), [zF 11 1 4,zL 12 11,⟨some 13, .iaddr 5 (some 5) (.t 12) (.c (.int .i64 0)), none⟩,zF 14 13 0,zL 15 14,zF 16 1 0,zL 17 16,zD 18 .neq 15 17], some (19, 18)⟩,⟨none, [zM 20 19], none⟩,⟨some (20, false), [zF 21 1 4,zL 22 21,⟨some 23, .iaddr 5 (some 5) (.t 22) (.c (.int .i64 0)), none⟩,zF 24 23 1,zL 25 24,zF 26 1 1,zL 27 26,zD 28 .neq 25 27], some (29, 28)⟩]) (.kp [1, 2, 29] (.cond (.t 29) (.seq (.reg [zG 30 5 1,zS 5 2 30,zB 3 false]) (.ret)) (.skip)))) (c90_k7))) }
theorem Em : (Ah Tryz.prog DI Tryz.f90).map (fun x => (x.nargs, x.nt, x.res, x.code)) = some (c90.nargs, c90.nt, c90.res, bare c90.code) := by kernel_rfl
def c91_k1 : ACode := .kp [1, 2, 5] (.seq (.reg [zM 39 5,zF 40 1 4,zU 40 39]) (.kp [1, 2] (.seq (.reg [zG 41 5 1,zS 5 2 41,zB 3 true]) (.ret))))
def KB {Q e n H} := @BT Tryz.prog _ _ c91_k1.eq_1 Q e n H
def c91_k2 : ACode := .kp [1, 2, 4, 5, 21, 22, 23] (.reg [zE 38 .add 23 1,zM 23 38])
def Ha {Q e n H} := @BT Tryz.prog _ _ c91_k2.eq_1 Q e n H
def c91_k3 : ACode := .kp [1, 2, 4, 5, 21, 22, 23] (.seq (.block 1 (.seq (.reg [⟨some 25, .iaddr 5 (some 5) (.t 21) (.t 23), none⟩,zG 26 5 25,⟨some 7, .alloc 25 [(.int .i64 0), (.int .i64 0), (.int .i64 0), (.sl 0 [] .nil), (.sl 0 [] .nil)], none⟩,zS 5 7 26]) (.kp [1, 2, 4, 5, 7, 21, 22, 23] (.seq (.reg [zM 27 4,zG 28 5 7,⟨some 29, .callv (.t 27) [(.t 28)], none⟩]) (.kp [1, 2, 4, 5, 7, 21, 22, 23, 29] (.cond (.t 29) (.reg [zM 30 5,zF 31 7 4,zL 32 31,⟨some 33, .app 25 5 72 (.t 30) (.t 32), none⟩,zM 5 33]) (.reg [zM 34 5,zG 35 5 7,⟨some 36, .bsl 25 (some 5) [(.t 35)], none⟩,⟨some 37, .app 25 5 72 (.t 34) (.t 36), none⟩,zM 5 37]))))))) (c91_k2))
def Ho {Q e n H} := @BT Tryz.prog _ _ c91_k3.eq_1 Q e n H
def c91_L4 : ACode := .ke [1, 2, 4, 5, 21, 22, 23] (.seq (.reg [zD 24 .lss 23 22]) (.kp [1, 2, 4, 5, 21, 22, 23, 24] (.seq (.cond (.t 24) (.skip) (.exit 0)) (c91_k3))))
def GB {Q e n H} := @BT Tryz.prog _ _ c91_L4.eq_1 Q e n H
def c91_k5 : ACode := .kp [1, 2, 4] (.seq (.reg [⟨some 5, .mv (.c (.sl 0 [] .nil)), none⟩]) (.kp [1, 2, 4, 5] (.seq (.seq (.reg [zF 20 1 4,zL 21 20,zY 22 21,zI 23 0]) (.kp [1, 2, 4, 5, 21, 22, 23] (.block 0 (.kp [1, 2, 4, 5, 21, 22, 23] (.loop c91_L4))))) (c91_k1))))
def KA {Q e n H} := @BT Tryz.prog _ _ c91_k5.eq_1 Q e n H
def c91 : AFun := { nargs := 1, nt := 42, res := [.cell 2 (some 5), .tmp 3], code := .seq (.reg [zH 1 25 5 0,⟨some 2, .alloc 25 [(.int .i64 0), (.int .i64 0), (.int .i64 0), (.sl 0 [] .nil), (.sl 0 [] .nil)], none⟩,zB 3 false]) (.kp [1, 2] (.seq (.reg [⟨some 4, .mv (.c (.fn 130 [] [])), none⟩]) (.kp [1, 2, 4] (.seq (.seq (.segs [⟨none, [zM 8 4,zG 9 5 1,⟨some 10, .callv (.t 8) [(.t 9)], none⟩,zN 11 10,zM 12 11], none⟩,⟨some (12, false), [zF 13 1 4,zL 14 13,zM 15 4,zW 16 131 14 15,zN 17 16], none⟩,⟨none, [zO 18 12 17], none⟩]) (.kp [1, 2, 4, 18] (.cond (.t 18) (.seq (.reg [zG 19 5 1,zS 5 2 19,zB 3 false]) (.ret)) (.skip)))) (c91_k5))))) }
theorem YF : (Ah Tryz.prog DI Tryz.f91).map (fun x => (x.nargs, x.nt, x.res, x.code)) = some (c91.nargs, c91.nt, c91.res, bare c91.code) := by kernel_rfl
def c130 : AFun := { nargs := 1, nt := 6, res := [.tmp 2], code := .seq (.reg [zH 1 25 5 0,zB 2 false]) (.kp [1] (.seq (.reg [zF 3 1 0,zL 4 3,zE 5 .eql 4 13,zM 2 5]) (.ret))) }
theorem Wk : (Ah Tryz.prog DI Tryz.f130).map (fun x => (x.nargs, x.nt, x.res, x.code)) = some (c130.nargs, c130.nt, c130.res, bare c130.code) := by kernel_rfl
def c34_k1 : ACode := .kp [1, 2, 3] (.seq (.reg [zG 12 5 1,⟨some 13, .call 66 [(.t 12)], none⟩,⟨some 14, .call 65 [(.t 13)], none⟩,⟨some 15, .build [(.int .i64 0), (.int .i64 0)] [], none⟩,zS 5 2 14,zS 2 3 15]) (.ret))
def Ma {Q e n H} := @BT Tryz.prog _ _ c34_k1.eq_1 Q e n H
def c34 : AFun := { nargs := 1, nt := 16, res := [.cell 2 (some 5), .cell 3 (some 2)], code := .seq (.reg [zH 1 25 5 0,⟨some 2, .alloc 25 [(.int .i64 0), (.int .i64 0), (.int .i64 0), (.sl 0 [] .nil), (.sl 0 [] .nil)], none⟩,⟨some 3, .alloc 27 [(.int .i64 0), (.int .i64 0)], none⟩]) (.kp [1, 2, 3] (.seq (.seq (.reg [zG 5 5 1,zV 6 15 5,⟨some 4, .alloc 27 [(.int .i64 0), (.int .i64 0)], none⟩,zS 2 4 6]) (.kp [1, 2, 3, 4] (.seq (.reg [zF 7 4 0,zL 8 7,zE 9 .neq 8 0]) (.kp [1, 2, 3, 4, 9] (.cond (.t 9) (.seq (.regD .late [2, 3] [⟨some 10, .build [(.int .i64 0), (.int .i64 0), (.int .i64 0), (.sl 0 [] .nil), (.sl 0 [] .nil)] [], none⟩,zG 11 2 4,zS 5 2 10,zS 2 3 11]) (.ret)) (.skip)))))) (c34_k1))) }
theorem Zs : (Ah Tryz.prog DI Tryz.f34).map (fun x => (x.nargs, x.nt, x.res, x.code)) = some (c34.nargs, c34.nt, c34.res, bare c34.code) := by kernel_rfl
def c12_k1 : ACode := .kp [1, 2, 5] (.seq (.reg [zG 65 5 2,zM 66 1,zW 67 18 65 66,zM 64 67,zX 68 64 0,zX 69 64 1,zX 70 64 2,zX 71 64 3,⟨some 12, .alloc 27 [(.int .i64 0), (.int .i64 0)], none⟩,zM 9 68,zM 10 69,zM 11 70,zS 2 12 71]) (.kp [1, 5, 9, 10, 11, 12] (.seq (.reg [zG 73 5 5,zM 74 1,zW 75 18 73 74,zM 72 75,zX 76 72 0,zX 77 72 1,zX 78 72 2,zX 79 72 3,⟨some 16, .alloc 27 [(.int .i64 0), (.int .i64 0)], none⟩,zM 13 76,zM 14 77,zM 15 78,zS 2 16 79]) (.kp [9, 10, 11, 12, 13, 14, 15, 16] (.seq (.segs [⟨none, [zF 80 12 0,zL 81 80,zE 82 .eql 81 0,zM 83 82], none⟩,⟨some (83, true), [zF 84 16 0,zL 85 84,zE 86 .eql 85 0], some (87, 86)⟩,⟨none, [zM 88 87], none⟩,⟨some (88, true), [zM 89 9,zM 90 13,zW 91 22 89 90], none⟩,⟨none, [zP 92 88 91,zM 93 92], none⟩,⟨some (93, true), [zM 94 10,zM 95 14,zW 96 22 94 95], none⟩,⟨none, [zP 97 93 96,zM 98 97], none⟩,⟨some (98, true), [zM 99 11,zM 100 15,⟨some 101, .eqb false (.t 99) (.t 100), none⟩], some (102, 101)⟩,⟨none, [zM 103 102], none⟩,⟨some (103, true), [⟨some 104, .callp 16 [], none⟩], none⟩,⟨none, [zP 105 103 104,zM 4 105], none⟩]) (.ret))))))
def KD {Q e n H} := @BT Tryz.prog _ _ c12_k1.eq_1 Q e n H
def c12_k2 : ACode := .kp [1, 2] (.seq (.reg [zG 28 5 2,zV 29 34 28,zM 27 29,zX 30 27 0,zX 31 27 1,⟨some 5, .alloc 25 [(.int .i64 0), (.int .i64 0), (.int .i64 0), (.sl 0 [] .nil), (.sl 0 [] .nil)], none⟩,⟨some 6, .alloc 27 [(.int .i64 0), (.int .i64 0)], none⟩,zS 5 5 30,zS 2 6 31]) (.kp [1, 2, 5, 6] (.seq (.reg [zG 33 5 5,zV 34 34 33,zM 32 34,zX 35 32 0,zX 36 32 1,⟨some 7, .alloc 25 [(.int .i64 0), (.int .i64 0), (.int .i64 0), (.sl 0 [] .nil), (.sl 0 [] .nil)], none⟩,⟨some 8, .alloc 27 [(.int .i64 0), (.int .i64 0)], none⟩,zS 5 7 35,zS 2 8 36]) (.kp [1, 2, 5, 6, 7, 8] (.seq (.seq (.segs [⟨none, [zF 37 6 0,zL 38 37,zE 39 .neq 38 0,zM 40 39], none⟩,⟨some (40, false), [zF 41 8 0,zL 42 41,zE 43 .neq 42 0], some (44, 43)⟩,⟨none, [zM 45 44], none⟩,⟨some (45, false), [zG 46 5 5,zV 47 14 46,⟨some 48, .field (.t 47) 0 none, none⟩,zE 49 .neq 48 0], none⟩,⟨none, [zO 50 45 49,zM 51 50], none⟩,⟨some (51, false), [zG 52 5 5,zG 53 5 7,zW 54 26 52 53,zN 55 54], none⟩,⟨none, [zO 56 51 55,zM 57 56], none⟩,⟨some (57, false), [zG 58 5 5,zV 59 31 58,zG 60 5 2,zV 61 31 60,zD 62 .gtr 59 61], none⟩,⟨none, [zO 63 57 62], none⟩]) (.kp [1, 2, 5, 63] (.cond (.t 63) (.seq (.reg [zB 4 false]) (.ret)) (.skip)))) (c12_k1))))))
def KE {Q e n H} := @BT Tryz.prog _ _ c12_k2.eq_1 Q e n H
def c12 : AFun := { nargs := 2, nt := 106, res := [.tmp 4], code := .seq (.reg [zH 2 25 5 0,zB 4 false]) (.kp [1, 2] (.seq (.seq (.segs [⟨none, [zG 17 5 2,zV 18 14 17,⟨some 19, .field (.t 18) 0 none, none⟩,zE 20 .neq 19 0,zM 21 20], none⟩,⟨some (21, false), [zM 22 1,⟨some 23, .callp 19 [(.t 22), (.c (.int .i64 0)), (.c (.int .i64 5000))], none⟩,zN 24 23], none⟩,⟨none, [zO 25 21 24], none⟩]) (.kp [1, 2, 25] (.cond (.t 25) (.seq (.reg [⟨some 26, .callp 16 [], none⟩,zM 4 26]) (.ret)) (.skip)))) (c12_k2))) }
theorem WS : (Ah Tryz.prog DI Tryz.f12).map (fun x => (x.nargs, x.nt, x.res, x.code)) = some (c12.nargs, c12.nt, c12.res, bare c12.code) := by kernel_rfl
def c131 : AFun := { nargs := 2, nt := 9, res := [.tmp 4], code := .seq (.reg [zB 4 false]) (.kp [0, 1] (.seq (.reg [zM 5 0,zM 6 1,zW 7 146 5 6,zE 8 .geq 7 0,zM 4 8]) (.ret))) }
theorem A0c : (Ah Tryz.prog DI Tryz.f131).map (fun x => (x.nargs, x.nt, x.res, x.code)) = some (c131.nargs, c131.nt, c131.res, bare c131.code) := by kernel_rfl
def c146_k1 : ACode := .kp [] (.seq (.reg [zI 4 (-1)]) (.ret))
def IR {Q e n H} := @BT Tryz.prog _ _ c146_k1.eq_1 Q e n H
def c146_k2 : ACode := .kp [0, 1, 7, 8] (.reg [zE 18 .add 8 1,zM 8 18])
def IG {Q e n H} := @BT Tryz.prog _ _ c146_k2.eq_1 Q e n H
def c146_k3 : ACode := .kp [0, 1, 7, 8] (.seq (.block 1 (.seq (.reg [zM 10 8,zM 5 10]) (.kp [0, 1, 5, 7, 8] (.seq (.reg [zM 11 1,zM 12 0,zM 13 5,⟨some 14, .iaddr 5 (some 5) (.t 12) (.t 13), none⟩,zG 15 5 14,⟨some 16, .callv (.t 11) [(.t 15)], none⟩]) (.kp [0, 1, 5, 7, 8, 16] (.cond (.t 16) (.seq (.reg [zM 17 5,zM 4 17]) (.ret)) (.skip))))))) (c146_k2))
def IZ {Q e n H} := @BT Tryz.prog _ _ c146_k3.eq_1 Q e n H
def c146_L4 : ACode := .ke [0, 1, 7, 8] (.seq (.reg [zD 9 .lss 8 7]) (.kp [0, 1, 7, 8, 9] (.seq (.cond (.t 9) (.skip) (.exit 0)) (c146_k3))))
def IL {Q e n H} := @BT Tryz.prog _ _ c146_L4.eq_1 Q e n H
def c146 : AFun := { nargs := 2, nt := 19, res := [.tmp 4], code := .seq (.reg [zI 4 0]) (.kp [0, 1] (.seq (.seq (.reg [zM 6 0,zY 7 6,zI 8 0]) (.kp [0, 1, 7, 8] (.block 0 (.kp [0, 1, 7, 8] (.loop c146_L4))))) (c146_k1))) }
theorem A0s : (Ah Tryz.prog DI Tryz.f146).map (fun x => (x.nargs, x.nt, x.res, x.code)) = some (c146.nargs, c146.nt, c146.res, bare c146.code) := by kernel_rfl
end Go.Proofs.YtjdccdelcnmocaaGreatDoor
