/- The code of some functions on plain data, by program, and that it is what the program's text gives; no condition. -/
import Derived.Test.YtjdccdelcnmocaaGreatDoorAdE
import Derived.Test.YtjdccdelcnmocaaGreatDoorProg
import Derived.KernelRfl
set_option linter.all false
namespace Go.Proofs.YtjdccdelcnmocaaGreatDoor
theorem Aj {c d : ACode} (h : c = d) : ∀ {Q : AExit → AS → Prop} {e : AJ} {n : Nat} {H : A1}, aw Tryz.prog c Q ⟨e, n, H⟩ = aw Tryz.prog d Q ⟨e, n, H⟩ := by intros; rw [h]
def c96_k1 : ACode := .kp [0, 1] (.seq (.reg [zL 8 1,⟨some 9, .callv (.t 8) [], none⟩,zM 7 9,zX 10 7 0,zX 11 7 1,zM 4 10,zM 5 11]) (.kp [0, 4, 5] (.seq (.reg [zM 12 5,zN 13 12,zU 0 13]) (.kp [4, 5] (.seq (.reg [zM 14 4,zM 15 5,zM 2 14,zM 3 15]) (.ret))))))
def Jz := @Aj _ _ c96_k1.eq_1
def c96 : AFun := ⟨2, 16, [.tmp 2, .tmp 3], .seq (.reg [zI 2 0,zB 3 false]) (.kp [0, 1] (.seq (.seq (.reg [zL 6 0]) (.kp [0, 1, 6] (.cond (.t 6) (.seq (.reg [zI 2 0,zB 3 false]) (.ret)) (.skip)))) (c96_k1)))⟩
theorem Y2 : DB Tryz.prog DF Tryz.f96 = DC c96 := by kernel_rfl
def c97_k1 : ACode := .kp [0, 1, 2, 5] (.seq (.reg [zL 17 0,zZ 18 17,zF 19 18 0,zL 20 19,zL 21 1,zJ 22 1 20 21,zL 23 22,zE 24 .add 23 1,zJ 25 1 20 21,zU 25 24]) (.kp [2, 5] (.seq (.reg [zL 26 2,zM 27 5,zJ 28 1 26 27,zL 29 28,zM 3 29,zB 4 true]) (.ret))))
def Qt := @Aj _ _ c97_k1.eq_1
def c97 : AFun := ⟨3, 30, [.tmp 3, .tmp 4], .seq (.reg [zI 3 0,zB 4 false]) (.kp [0, 1, 2] (.seq (.reg [zL 6 0,zZ 7 6,zF 8 7 0,zL 9 8,zL 10 1,zJ 11 1 9 10,zL 12 11,zM 5 12]) (.kp [0, 1, 2, 5] (.seq (.seq (.reg [zM 13 5,zL 14 2,zY 15 14,zD 16 .eql 13 15]) (.kp [0, 1, 2, 5, 16] (.cond (.t 16) (.seq (.reg [zI 3 0,zB 4 false]) (.ret)) (.skip)))) (c97_k1)))))⟩
theorem A1w : DB Tryz.prog DF Tryz.f97 = DC c97 := by kernel_rfl
def c98_k1 : ACode := .kp [] (.seq (.reg [zI 1 0,zB 2 false]) (.ret))
def I6 := @Aj _ _ c98_k1.eq_1
def c98_k2 : ACode := .kp [0] (.reg [zL 17 0,⟨some 18, .cut 1 (.t 17) (some (.c (.int .i64 1))) none, none⟩,zU 0 18])
def IQ := @Aj _ _ c98_k2.eq_1
def c98_k3 : ACode := .kp [0] (.block 1 (.seq (.seq (.reg [zL 9 0,⟨some 10, .iaddr 1 none (.t 9) (.c (.int .i64 0)), none⟩,zL 11 10,⟨some 12, .callv (.t 11) [], none⟩,zM 8 12,zX 13 8 0,zX 14 8 1,zM 3 13,zM 4 14]) (.kp [0, 3, 4] (.seq (.reg [zM 15 4]) (.kp [0, 3, 15] (.cond (.t 15) (.seq (.reg [zM 16 3,zM 1 16,zB 2 true]) (.ret)) (.skip)))))) (c98_k2)))
def IB := @Aj _ _ c98_k3.eq_1
def c98_L4 : ACode := .ke [0] (.seq (.seq (.reg [zL 5 0,zY 6 5,zE 7 .gtr 6 0]) (.kp [0, 7] (.cond (.t 7) (.skip) (.exit 0)))) (c98_k3))
def I1 := @Aj _ _ c98_L4.eq_1
def c98 : AFun := ⟨1, 19, [.tmp 1, .tmp 2], .seq (.reg [zI 1 0,zB 2 false]) (.kp [0] (.seq (.block 0 (.kp [0] (.loop c98_L4))) (c98_k1)))⟩
theorem A6a : DB Tryz.prog DF Tryz.f98 = DC c98 := by kernel_rfl
def c99_k1 : ACode := .kp [] (.seq (.reg [zI 1 0,zB 2 false]) (.ret))
def Fn := @Aj _ _ c99_k1.eq_1
def c99_t2 : ACode := .kp [0, 3, 4] (.seq (.reg [zL 20 0,⟨some 21, .call 100 [(.t 20)], none⟩,zM 22 3,⟨some 23, .bsl 76 none [(.t 22)], none⟩,⟨some 24, .app 76 1 8 (.t 21) (.t 23), none⟩,zU 0 24]) (.kp [4] (.seq (.reg [zM 25 4,zM 1 25,zB 2 true]) (.ret))))
def Fm := @Aj _ _ c99_t2.eq_1
def c99_k3 : ACode := .kp [0] (.block 1 (.seq (.reg [zL 9 0,⟨some 10, .iaddr 1 none (.t 9) (.c (.int .i64 0)), none⟩,zL 11 10,zM 3 11]) (.kp [0, 3] (.seq (.reg [zL 12 0,⟨some 13, .cut 1 (.t 12) (some (.c (.int .i64 1))) none, none⟩,zU 0 13]) (.kp [0, 3] (.seq (.reg [zM 15 3,⟨some 16, .callv (.t 15) [], none⟩,zM 14 16,zX 17 14 0,zX 18 14 1,zM 4 17,zM 5 18]) (.kp [0, 3, 4, 5] (.seq (.reg [zM 19 5]) (.kp [0, 3, 4, 19] (.cond (.t 19) (c99_t2) (.skip)))))))))))
def Fu := @Aj _ _ c99_k3.eq_1
def c99_L4 : ACode := .ke [0] (.seq (.seq (.reg [zL 6 0,zY 7 6,zE 8 .gtr 7 0]) (.kp [0, 8] (.cond (.t 8) (.skip) (.exit 0)))) (c99_k3))
def Fp := @Aj _ _ c99_L4.eq_1
def c99 : AFun := ⟨1, 26, [.tmp 1, .tmp 2], .seq (.reg [zI 1 0,zB 2 false]) (.kp [0] (.seq (.block 0 (.kp [0] (.loop c99_L4))) (c99_k1)))⟩
theorem A5d : DB Tryz.prog DF Tryz.f99 = DC c99 := by kernel_rfl
def c101_k1 : ACode := .kp [2, 5, 7] (.seq (.reg [zL 22 2,zM 23 5,zM 24 7,⟨some 25, .callp 102 [(.t 22), (.t 23), (.t 24)], none⟩,zM 3 25,zB 4 true]) (.ret))
def Ir := @Aj _ _ c101_k1.eq_1
def c101_k2 : ACode := .kp [1, 2, 5] (.seq (.reg [zL 16 1,⟨some 17, .callv (.t 16) [], none⟩,zM 15 17,zX 18 15 0,zX 19 15 1,zM 7 18,zM 6 19]) (.kp [2, 5, 6, 7] (.seq (.seq (.reg [zM 20 6,zN 21 20]) (.kp [2, 5, 7, 21] (.cond (.t 21) (.seq (.reg [zI 3 0,zB 4 false]) (.ret)) (.skip)))) (c101_k1))))
def Id := @Aj _ _ c101_k2.eq_1
def A0a : AFun := ⟨3, 26, [.tmp 3, .tmp 4], .seq (.reg [zI 3 0,zB 4 false]) (.kp [0, 1, 2] (.seq (.reg [zL 9 0,⟨some 10, .callv (.t 9) [], none⟩,zM 8 10,zX 11 8 0,zX 12 8 1,zM 5 11,zM 6 12]) (.kp [1, 2, 5, 6] (.seq (.seq (.reg [zM 13 6,zN 14 13]) (.kp [1, 2, 5, 14] (.cond (.t 14) (.seq (.reg [zI 3 0,zB 4 false]) (.ret)) (.skip)))) (c101_k2)))))⟩
theorem UO : DB Tryz.prog DF Tryz.f101 = DC A0a := by kernel_rfl
def c103_k1 : ACode := .kp [1, 2, 7] (.seq (.reg [zM 47 7,⟨some 48, .aaddr 2 1 none (.t 1) (.t 47), none⟩,⟨none, .store none (.t 48) (.c (.bool false)), none⟩]) (.kp [2, 7] (.seq (.reg [zM 49 7,⟨some 50, .aaddr 2 1 none (.t 2) (.t 49), none⟩,zL 51 50,zM 3 51,zB 4 true]) (.ret))))
def CF := @Aj _ _ c103_k1.eq_1
def c103_k2 : ACode := .kp [1, 2, 7] (.seq (.seq (.reg [zM 43 7,⟨some 44, .aaddr 2 1 none (.t 1) (.t 43), none⟩,zL 45 44,zN 46 45]) (.kp [1, 2, 7, 46] (.cond (.t 46) (.seq (.reg [zI 3 0,zB 4 false]) (.ret)) (.skip)))) (c103_k1))
def CS := @Aj _ _ c103_k2.eq_1
def c103_k3 : ACode := .kp [1, 2] (.seq (.reg [zI 7 0]) (.kp [1, 2, 7] (.seq (.seq (.segs [⟨none, [⟨some 29, .aaddr 2 1 none (.t 1) (.c (.int .i64 0)), none⟩,zL 30 29,zN 31 30,zM 32 31], none⟩,⟨some (32, false), [⟨some 33, .aaddr 2 1 none (.t 1) (.c (.int .i64 1)), none⟩,zL 34 33,zM 35 34], none⟩,⟨some (35, true), [⟨some 36, .aaddr 2 1 none (.t 2) (.c (.int .i64 1)), none⟩,zL 37 36,⟨some 38, .aaddr 2 1 none (.t 2) (.c (.int .i64 0)), none⟩,zL 39 38,zD 40 .lss 37 39], none⟩,⟨some (32, false), [zP 41 35 40], some (42, 41)⟩]) (.kp [1, 2, 7, 42] (.cond (.t 42) (.reg [zI 7 1]) (.skip)))) (c103_k2))))
def CJ := @Aj _ _ c103_k3.eq_1
def c103_k4 : ACode := .kp [1, 2, 8, 9, 10] (.reg [zE 28 .add 10 1,zM 10 28])
def CN := @Aj _ _ c103_k4.eq_1
def c103_k5 : ACode := .kp [1, 2, 8, 9, 10] (.seq (.block 1 (.seq (.reg [zM 12 10,zJ 13 1 8 10,zL 14 13,zM 5 12,zM 6 14]) (.kp [1, 2, 5, 6, 8, 9, 10] (.seq (.reg [zM 15 5,⟨some 16, .aaddr 2 1 none (.t 1) (.t 15), none⟩,zL 17 16,zN 18 17]) (.kp [1, 2, 5, 6, 8, 9, 10, 18] (.cond (.t 18) (.reg [zM 20 5,zM 21 5,zM 22 6,⟨some 23, .callv (.t 22) [], none⟩,zM 19 23,zX 24 19 0,zX 25 19 1,⟨some 26, .aaddr 2 1 none (.t 2) (.t 20), none⟩,zU 26 24,⟨some 27, .aaddr 2 1 none (.t 1) (.t 21), none⟩,zU 27 25]) (.skip))))))) (c103_k4))
def CG := @Aj _ _ c103_k5.eq_1
def c103_L6 : ACode := .ke [1, 2, 8, 9, 10] (.seq (.reg [zD 11 .lss 10 9]) (.kp [1, 2, 8, 9, 10, 11] (.seq (.cond (.t 11) (.skip) (.exit 0)) (c103_k5))))
def CP := @Aj _ _ c103_L6.eq_1
def NC : AFun := ⟨3, 52, [.tmp 3, .tmp 4], .seq (.reg [zI 3 0,zB 4 false]) (.kp [0, 1, 2] (.seq (.seq (.reg [zL 8 0,zY 9 8,zI 10 0]) (.kp [1, 2, 8, 9, 10] (.block 0 (.kp [1, 2, 8, 9, 10] (.loop c103_L6))))) (c103_k3)))⟩
theorem A3x : DB Tryz.prog DF Tryz.f103 = DC NC := by kernel_rfl
def c104_k1 : ACode := .kp [1, 4] (.seq (.reg [zF 13 1 1,zL 14 13,zM 15 4,zF 16 1 2,zL 17 16,⟨some 18, .callp 102 [(.t 14), (.t 15), (.t 17)], none⟩,zM 2 18,zB 3 true]) (.ret))
def Ox := @Aj _ _ c104_k1.eq_1
def A38 : AFun := ⟨2, 19, [.tmp 2, .tmp 3], .seq (.reg [zI 2 0,zB 3 false]) (.kp [0, 1] (.seq (.reg [zL 7 0,⟨some 8, .callv (.t 7) [], none⟩,zM 6 8,zX 9 6 0,zX 10 6 1,zM 4 9,zM 5 10]) (.kp [1, 4, 5] (.seq (.seq (.reg [zM 11 5,zN 12 11]) (.kp [1, 4, 12] (.cond (.t 12) (.seq (.reg [zI 2 0,zB 3 false]) (.ret)) (.skip)))) (c104_k1)))))⟩
theorem Yn : DB Tryz.prog DF Tryz.f104 = DC A38 := by kernel_rfl
def A2j : AFun := ⟨2, 9, [.tmp 2, .tmp 3], .seq (.reg [zI 2 0,zB 3 false]) (.kp [0, 1] (.seq (.reg [zL 4 0,⟨some 5, .mkfn 107 [] [(.t 1)], none⟩,⟨some 6, .call 106 [(.t 4), (.t 5)], none⟩,zX 7 6 0,zX 8 6 1,zM 2 7,zM 3 8]) (.ret)))⟩
theorem Yy : DB Tryz.prog DF Tryz.f105 = DC A2j := by kernel_rfl
def A4p : AFun := ⟨2, 10, [.tmp 3], .seq (.reg [zB 3 false]) (.kp [0, 1] (.seq (.reg [zF 4 1 1,zL 5 4,zM 6 0,zF 7 1 2,zL 8 7,⟨some 9, .callp 108 [(.t 5), (.t 6), (.t 8)], none⟩,zM 3 9]) (.ret)))⟩
theorem A2t : DB Tryz.prog DF Tryz.f107 = DC A4p := by kernel_rfl
def A14 : AFun := ⟨2, 21, [.tmp 2, .tmp 3], .seq (.reg [zI 2 0,zB 3 false]) (.kp [0, 1] (.seq (.reg [zL 7 0,⟨some 8, .callv (.t 7) [], none⟩,zM 6 8,zX 9 6 0,zX 10 6 1,zM 4 9,zM 5 10]) (.kp [1, 4, 5] (.seq (.segs [⟨none, [zM 11 4,zM 12 5,zM 13 12], none⟩,⟨some (13, true), [zF 14 1 1,zL 15 14,zM 16 4,zF 17 1 2,zL 18 17,⟨some 19, .callp 108 [(.t 15), (.t 16), (.t 18)], none⟩], none⟩,⟨none, [zP 20 13 19,zM 2 11,zM 3 20], none⟩]) (.ret)))))⟩
theorem Ti : DB Tryz.prog DF Tryz.f111 = DC A14 := by kernel_rfl
def A40 : AFun := ⟨2, 15, [.tmp 2, .tmp 3], .seq (.reg [zI 2 0,zB 3 false]) (.kp [0, 1] (.seq (.reg [zL 7 0,⟨some 8, .mkfn 116 [] [(.t 1)], none⟩,⟨some 9, .call 106 [(.t 7), (.t 8)], none⟩,zM 6 9,zX 10 6 0,zX 11 6 1,zM 4 10,zM 5 11]) (.kp [1, 4, 5] (.seq (.reg [zM 12 4,zU 1 12]) (.kp [4, 5] (.seq (.reg [zM 13 4,zM 14 5,zM 2 13,zM 3 14]) (.ret)))))))⟩
theorem Xy : DB Tryz.prog DF Tryz.f115 = DC A40 := by kernel_rfl
def A4v : AFun := ⟨2, 7, [.tmp 3], .seq (.reg [zB 3 false]) (.kp [0, 1] (.seq (.reg [zM 4 0,zL 5 1,zD 6 .neq 4 5,zM 3 6]) (.ret)))⟩
theorem A45 : DB Tryz.prog DF Tryz.f116 = DC A4v := by kernel_rfl
def c132_k1 : ACode := .kp [0, 1] (.seq (.reg [zL 6 0,zE 7 .sub 6 1,zU 0 7]) (.kp [1] (.seq (.reg [zL 8 1,⟨some 9, .callv (.t 8) [], none⟩,zX 10 9 0,zX 11 9 1,zM 2 10,zM 3 11]) (.ret))))
def J1 := @Aj _ _ c132_k1.eq_1
def A04 : AFun := ⟨2, 12, [.tmp 2, .tmp 3], .seq (.reg [zI 2 0,zB 3 false]) (.kp [0, 1] (.seq (.seq (.reg [zL 4 0,zE 5 .eql 4 0]) (.kp [0, 1, 5] (.cond (.t 5) (.seq (.reg [zI 2 0,zB 3 false]) (.ret)) (.skip)))) (c132_k1)))⟩
theorem Uf : DB Tryz.prog DF Tryz.f132 = DC A04 := by kernel_rfl
def c133_k1 : ACode := .kp [1] (.seq (.reg [zL 17 1,⟨some 18, .callv (.t 17) [], none⟩,zX 19 18 0,zX 20 18 1,zM 2 19,zM 3 20]) (.ret))
def G6 := @Aj _ _ c133_k1.eq_1
def c133_k2 : ACode := .kp [0, 1] (.reg [zL 8 0,zE 9 .sub 8 1,zU 0 9])
def Fx := @Aj _ _ c133_k2.eq_1
def c133_k3 : ACode := .kp [0, 1] (.seq (.block 1 (.seq (.reg [zL 11 1,⟨some 12, .callv (.t 11) [], none⟩,zM 10 12,zX 13 10 0,zX 14 10 1,zM 4 13,zM 5 14]) (.kp [0, 1, 5] (.seq (.reg [zM 15 5,zN 16 15]) (.kp [0, 1, 16] (.cond (.t 16) (.seq (.reg [zI 2 0,zB 3 false]) (.ret)) (.skip))))))) (c133_k2))
def G4 := @Aj _ _ c133_k3.eq_1
def c133_L4 : ACode := .ke [0, 1] (.seq (.seq (.reg [zL 6 0,zE 7 .gtr 6 0]) (.kp [0, 1, 7] (.cond (.t 7) (.skip) (.exit 0)))) (c133_k3))
def G3 := @Aj _ _ c133_L4.eq_1
def UW : AFun := ⟨2, 21, [.tmp 2, .tmp 3], .seq (.reg [zI 2 0,zB 3 false]) (.kp [0, 1] (.seq (.block 0 (.kp [0, 1] (.loop c133_L4))) (c133_k1)))⟩
theorem A43 : DB Tryz.prog DF Tryz.f133 = DC UW := by kernel_rfl
def c134_k1 : ACode := .kp [0, 1, 2] (.seq (.reg [⟨none, .store none (.t 0) (.c (.bool true)), none⟩]) (.kp [1, 2] (.seq (.reg [zL 10 1,⟨some 11, .mkfn 135 [] [(.t 2)], none⟩,⟨some 12, .call 106 [(.t 10), (.t 11)], none⟩,zX 13 12 0,zX 14 12 1,zM 3 13,zM 4 14]) (.ret))))
def HI := @Aj _ _ c134_k1.eq_1
def Yb : AFun := ⟨3, 15, [.tmp 3, .tmp 4], .seq (.reg [zI 3 0,zB 4 false]) (.kp [0, 1, 2] (.seq (.seq (.reg [zL 5 0]) (.kp [0, 1, 2, 5] (.cond (.t 5) (.seq (.reg [zL 6 1,⟨some 7, .callv (.t 6) [], none⟩,zX 8 7 0,zX 9 7 1,zM 3 8,zM 4 9]) (.ret)) (.skip)))) (c134_k1)))⟩
theorem RI : DB Tryz.prog DF Tryz.f134 = DC Yb := by kernel_rfl
def A65 : AFun := ⟨2, 11, [.tmp 3], .seq (.reg [zB 3 false]) (.kp [0, 1] (.seq (.reg [zF 4 1 1,zL 5 4,zM 6 0,zF 7 1 2,zL 8 7,⟨some 9, .callp 108 [(.t 5), (.t 6), (.t 8)], none⟩,zN 10 9,zM 3 10]) (.ret)))⟩
theorem A2q : DB Tryz.prog DF Tryz.f135 = DC A65 := by kernel_rfl
def c136_k1 : ACode := .kp [1, 2, 5] (.seq (.reg [zF 14 1 1,zL 15 14,zL 16 2,zM 17 5,⟨some 18, .callp 102 [(.t 15), (.t 16), (.t 17)], none⟩,zU 2 18]) (.kp [2] (.seq (.reg [zL 19 2,zM 3 19,zB 4 true]) (.ret))))
def P6 := @Aj _ _ c136_k1.eq_1
def A37 : AFun := ⟨3, 20, [.tmp 3, .tmp 4], .seq (.reg [zI 3 0,zB 4 false]) (.kp [0, 1, 2] (.seq (.reg [zL 8 0,⟨some 9, .callv (.t 8) [], none⟩,zM 7 9,zX 10 7 0,zX 11 7 1,zM 5 10,zM 6 11]) (.kp [1, 2, 5, 6] (.seq (.seq (.reg [zM 12 6,zN 13 12]) (.kp [1, 2, 5, 13] (.cond (.t 13) (.seq (.reg [zI 3 0,zB 4 false]) (.ret)) (.skip)))) (c136_k1)))))⟩
theorem Z4 : DB Tryz.prog DF Tryz.f136 = DC A37 := by kernel_rfl
def c137_k1 : ACode := .kp [8] (.seq (.reg [zM 54 8,zM 3 54,zB 4 true]) (.ret))
def Cv := @Aj _ _ c137_k1.eq_1
def c137_k2 : ACode := .kp [1, 8, 42, 43, 44] (.reg [zE 53 .add 44 1,zM 44 53])
def Cx := @Aj _ _ c137_k2.eq_1
def c137_k3 : ACode := .kp [1, 8, 42, 43, 44] (.seq (.block 3 (.seq (.reg [zJ 46 1 42 44,zL 47 46,zM 10 47]) (.kp [1, 8, 10, 42, 43, 44] (.reg [zF 48 1 1,zL 49 48,zM 50 8,zM 51 10,⟨some 52, .callp 102 [(.t 49), (.t 50), (.t 51)], none⟩,zM 8 52])))) (c137_k2))
def Cy := @Aj _ _ c137_k3.eq_1
def c137_L4 : ACode := .ke [1, 8, 42, 43, 44] (.seq (.reg [zD 45 .lss 44 43]) (.kp [1, 8, 42, 43, 44, 45] (.seq (.cond (.t 45) (.skip) (.exit 2)) (c137_k3))))
def Cu := @Aj _ _ c137_L4.eq_1
def c137_k5 : ACode := .kp [0, 1] (.seq (.reg [zL 30 0,zL 31 0,zY 32 31,zF 33 1 2,zL 34 33,zD 35 .sub 32 34,⟨some 36, .cut 1 (.t 30) (some (.t 35)) none, none⟩,⟨some 37, .call 92 [(.t 36)], none⟩,zU 0 37]) (.kp [0, 1] (.seq (.reg [zL 38 0,⟨some 39, .iaddr 1 none (.t 38) (.c (.int .i64 0)), none⟩,zL 40 39,zM 8 40]) (.kp [0, 1, 8] (.seq (.seq (.reg [zL 41 0,⟨some 42, .cut 1 (.t 41) (some (.c (.int .i64 1))) none, none⟩,zY 43 42,zI 44 0]) (.kp [1, 8, 42, 43, 44] (.block 2 (.kp [1, 8, 42, 43, 44] (.loop c137_L4))))) (c137_k1))))))
def Cw := @Aj _ _ c137_k5.eq_1
def c137_k6 : ACode := .kp [0, 1, 2] (.reg [zB 5 false])
def Ct := @Aj _ _ c137_k6.eq_1
def c137_k7 : ACode := .kp [0, 1, 2, 6] (.reg [zL 26 0,zM 27 6,⟨some 28, .bsl 3 none [(.t 27)], none⟩,⟨some 29, .app 3 1 8 (.t 26) (.t 28), none⟩,zU 0 29])
def D0 := @Aj _ _ c137_k7.eq_1
def c137_k8 : ACode := .kp [0, 1, 2] (.seq (.block 1 (.seq (.reg [zL 20 2,⟨some 21, .callv (.t 20) [], none⟩,zM 19 21,zX 22 19 0,zX 23 19 1,zM 6 22,zM 7 23]) (.kp [0, 1, 2, 6, 7] (.seq (.seq (.reg [zM 24 7,zN 25 24]) (.kp [0, 1, 2, 6, 25] (.cond (.t 25) (.seq (.reg [zI 3 0,zB 4 false]) (.ret)) (.skip)))) (c137_k7))))) (c137_k6))
def Cr := @Aj _ _ c137_k8.eq_1
def c137_L9 : ACode := .ke [0, 1, 2, 5] (.seq (.seq (.segs [⟨none, [zM 11 5,zM 12 11], none⟩,⟨some (12, false), [zL 13 0,zY 14 13,zF 15 1 2,zL 16 15,zD 17 .lss 14 16], some (18, 17)⟩]) (.kp [0, 1, 2, 18] (.cond (.t 18) (.skip) (.exit 0)))) (c137_k8))
def D4 := @Aj _ _ c137_L9.eq_1
def P2 : AFun := ⟨3, 55, [.tmp 3, .tmp 4], .seq (.reg [zI 3 0,zB 4 false]) (.kp [0, 1, 2] (.seq (.seq (.reg [zB 5 true]) (.kp [0, 1, 2, 5] (.block 0 (.kp [0, 1, 2, 5] (.loop c137_L9))))) (c137_k5)))⟩
theorem A3t : DB Tryz.prog DF Tryz.f137 = DC P2 := by kernel_rfl
def c138_k1 : ACode := .kp [1, 3] (.seq (.reg [zL 38 1,zE 39 .add 38 1,zU 1 39]) (.kp [1, 3] (.seq (.reg [zL 40 3,zL 41 1,zE 42 .sub 41 1,zJ 43 1 40 42,zL 44 43,zM 4 44,zB 5 true]) (.ret))))
def CL := @Aj _ _ c138_k1.eq_1
def c138_k2 : ACode := .kp [0, 1, 3] (.seq (.seq (.segs [⟨none, [zL 31 0,zE 32 .leq 31 0,zM 33 32], none⟩,⟨some (33, false), [zL 34 3,zY 35 34,zE 36 .eql 35 0], some (37, 36)⟩]) (.kp [1, 3, 37] (.cond (.t 37) (.seq (.reg [zI 4 0,zB 5 false]) (.ret)) (.skip)))) (c138_k1))
def CO := @Aj _ _ c138_k2.eq_1
def c138_t3 : ACode := .kp [0, 1, 3] (.seq (.reg [⟨none, .store none (.t 1) (.c (.int .i64 0)), none⟩]) (.kp [0, 1, 3] (.reg [zL 29 0,zE 30 .sub 29 1,zU 0 30])))
def CT := @Aj _ _ c138_t3.eq_1
def c138_k4 : ACode := .kp [0, 1, 3] (.seq (.seq (.reg [zL 25 1,zL 26 3,zY 27 26,zD 28 .eql 25 27]) (.kp [0, 1, 3, 28] (.cond (.t 28) (c138_t3) (.skip)))) (c138_k2))
def CK := @Aj _ _ c138_k4.eq_1
def c138_k5 : ACode := .kp [0, 1, 3] (.seq (.reg [⟨none, .store none (.t 1) (.c (.int .i64 0)), none⟩]) (.kp [0, 1, 3] (.reg [zL 23 0,zE 24 .sub 23 1,zU 0 24])))
def CM := @Aj _ _ c138_k5.eq_1
def c138_t6 : ACode := .kp [3, 6] (.seq (.reg [zL 18 3,zM 19 6,⟨some 20, .bsl 3 none [(.t 19)], none⟩,⟨some 21, .app 3 1 8 (.t 18) (.t 20), none⟩,zU 3 21]) (.kp [6] (.seq (.reg [zM 22 6,zM 4 22,zB 5 true]) (.ret))))
def CQ := @Aj _ _ c138_t6.eq_1
def c138_t7 : ACode := .kp [0, 1, 2, 3] (.seq (.reg [zL 13 2,⟨some 14, .callv (.t 13) [], none⟩,zM 12 14,zX 15 12 0,zX 16 12 1,zM 6 15,zM 7 16]) (.kp [0, 1, 3, 6, 7] (.seq (.seq (.reg [zM 17 7]) (.kp [0, 1, 3, 6, 17] (.cond (.t 17) (c138_t6) (.skip)))) (c138_k5))))
def CI := @Aj _ _ c138_t7.eq_1
def c138_k8 : ACode := .kp [0, 1, 2, 3] (.seq (.seq (.reg [zL 10 1,zE 11 .lss 10 0]) (.kp [0, 1, 2, 3, 11] (.cond (.t 11) (c138_t7) (.skip)))) (c138_k4))
def CU := @Aj _ _ c138_k8.eq_1
def PD : AFun := ⟨4, 45, [.tmp 4, .tmp 5], .seq (.reg [zI 4 0,zB 5 false]) (.kp [0, 1, 2, 3] (.seq (.seq (.reg [zL 8 0,zE 9 .eql 8 0]) (.kp [0, 1, 2, 3, 9] (.cond (.t 9) (.seq (.reg [zI 4 0,zB 5 false]) (.ret)) (.skip)))) (c138_k8)))⟩
theorem KY : DB Tryz.prog DF Tryz.f138 = DC PD := by kernel_rfl
def c100_k1 : ACode := .kp [0] (.seq (.reg [⟨some 5, .bsl 76 none [], none⟩,zM 6 0,⟨some 7, .app 76 1 8 (.t 5) (.t 6), none⟩,zM 2 7]) (.ret))
def PO := @Aj _ _ c100_k1.eq_1
def A4a : AFun := ⟨1, 8, [.tmp 2], .seq (.reg [⟨some 2, .mv (.c (.sl 0 [] .nil)), none⟩]) (.kp [0] (.seq (.seq (.reg [zM 3 0,⟨some 4, .eqn false (.t 3), none⟩]) (.kp [0, 4] (.cond (.t 4) (.seq (.reg [⟨some 2, .mv (.c (.sl 0 [] .nil)), none⟩]) (.ret)) (.skip)))) (c100_k1)))⟩
theorem A3n : DB Tryz.prog DF Tryz.f100 = DC A4a := by kernel_rfl
def c92_k1 : ACode := .kp [0] (.seq (.reg [⟨some 5, .bsl 3 none [], none⟩,zM 6 0,⟨some 7, .app 3 1 8 (.t 5) (.t 6), none⟩,zM 2 7]) (.ret))
def QD := @Aj _ _ c92_k1.eq_1
def c92 : AFun := ⟨1, 8, [.tmp 2], .seq (.reg [⟨some 2, .mv (.c (.sl 0 [] .nil)), none⟩]) (.kp [0] (.seq (.seq (.reg [zM 3 0,⟨some 4, .eqn false (.t 3), none⟩]) (.kp [0, 4] (.cond (.t 4) (.seq (.reg [⟨some 2, .mv (.c (.sl 0 [] .nil)), none⟩]) (.ret)) (.skip)))) (c92_k1)))⟩
theorem A5f : DB Tryz.prog DF Tryz.f92 = DC c92 := by kernel_rfl
theorem AX {c d : ACode} (h : c = d) : ∀ {Q : AExit → AS → Prop} {e : AJ} {n : Nat} {H : A1}, aw Tryz.prog c Q ⟨e, n, H⟩ = aw Tryz.prog d Q ⟨e, n, H⟩ := by intros; rw [h]
def c21_k1 : ACode := .kp [1, 2, 3] (.seq (.reg [zG 67 5 1,zM 68 3,⟨some 69, .iaddr 2 (some 2) (.t 68) (.c (.int .i64 0)), none⟩,zG 70 2 69,zW 71 51 67 70,zS 2 2 71]) (.ret))
def XX := @AX _ _ c21_k1.eq_1
def c21_k2 : ACode := .kp [1, 2, 3] (.seq (.seq (.reg [zF 58 1 0,zL 59 58,zE 60 .eql 59 12]) (.kp [1, 2, 3, 60] (.cond (.t 60) (.seq (.reg [zF 61 1 2,zL 62 61,zM 63 3,⟨some 64, .iaddr 2 (some 2) (.t 63) (.c (.int .i64 0)), none⟩,zG 65 2 64,zW 66 50 62 65,zS 2 2 66]) (.ret)) (.skip)))) (c21_k1))
def QB := @AX _ _ c21_k2.eq_1
def c21_k3 : ACode := .kp [1, 2, 3] (.seq (.seq (.reg [zF 48 1 0,zL 49 48,zE 50 .eql 49 16]) (.kp [1, 2, 3, 50] (.cond (.t 50) (.seq (.reg [zM 51 3,⟨some 52, .iaddr 2 (some 2) (.t 51) (.c (.int .i64 0)), none⟩,zG 53 2 52,zM 54 3,⟨some 55, .iaddr 2 (some 2) (.t 54) (.c (.int .i64 1)), none⟩,zG 56 2 55,zW 57 49 53 56,zS 2 2 57]) (.ret)) (.skip)))) (c21_k2))
def Jj := @AX _ _ c21_k3.eq_1
def c21_k4 : ACode := .kp [1, 2, 3] (.seq (.seq (.reg [zF 36 1 0,zL 37 36,zE 38 .eql 37 15]) (.kp [1, 2, 3, 38] (.cond (.t 38) (.seq (.reg [zF 39 1 1,zL 40 39,zM 41 3,⟨some 42, .iaddr 2 (some 2) (.t 41) (.c (.int .i64 0)), none⟩,zG 43 2 42,zM 44 3,⟨some 45, .iaddr 2 (some 2) (.t 44) (.c (.int .i64 1)), none⟩,zG 46 2 45,⟨some 47, .callp 48 [(.t 40), (.t 43), (.t 46)], none⟩,zS 2 2 47]) (.ret)) (.skip)))) (c21_k3))
def IA := @AX _ _ c21_k4.eq_1
def c21_k5 : ACode := .kp [1, 2, 3] (.seq (.seq (.reg [zF 31 1 0,zL 32 31,zE 33 .eql 32 14]) (.kp [1, 2, 3, 33] (.cond (.t 33) (.seq (.reg [zM 34 3,zV 35 47 34,zS 2 2 35]) (.ret)) (.skip)))) (c21_k4))
def GX := @AX _ _ c21_k5.eq_1
def c21_k6 : ACode := .kp [1, 2, 3] (.seq (.seq (.reg [zF 26 1 0,zL 27 26,zE 28 .eql 27 13]) (.kp [1, 2, 3, 28] (.cond (.t 28) (.seq (.reg [zM 29 3,zV 30 46 29,zS 2 2 30]) (.ret)) (.skip)))) (c21_k5))
def Fr := @AX _ _ c21_k6.eq_1
def c21_k7 : ACode := .kp [1, 2, 3, 4] (.reg [zM 15 4,zE 16 .add 15 1,zM 4 16])
def WZ := @AX _ _ c21_k7.eq_1
def c21_k8 : ACode := .kp [1, 2, 3, 4] (.seq (.block 1 (.reg [zM 17 3,zF 18 1 4,zL 19 18,zM 20 4,⟨some 21, .iaddr 5 (some 5) (.t 19) (.t 20), none⟩,zG 22 5 21,zV 23 21 22,⟨some 24, .bsl 40 (some 2) [(.t 23)], none⟩,⟨some 25, .app 40 2 48 (.t 17) (.t 24), none⟩,zM 3 25])) (c21_k7))
def WS := @AX _ _ c21_k8.eq_1
def c21_L9 : ACode := .ke [1, 2, 3, 4] (.seq (.seq (.reg [zM 10 4,zF 11 1 4,zL 12 11,zY 13 12,zD 14 .lss 10 13]) (.kp [1, 2, 3, 4, 14] (.cond (.t 14) (.skip) (.exit 0)))) (c21_k8))
def Q3 := @AX _ _ c21_L9.eq_1
def c21_k10 : ACode := .kp [1, 2] (.seq (.reg [⟨some 3, .mv (.c (.sl 0 [] .nil)), none⟩]) (.kp [1, 2, 3] (.seq (.seq (.reg [zI 4 0]) (.kp [1, 2, 3, 4] (.block 0 (.kp [1, 2, 3, 4] (.loop c21_L9))))) (c21_k6))))
def TZ := @AX _ _ c21_k10.eq_1
def c21 : AFun := ⟨1, 72, [.cell 2 (some 2)], .seq (.reg [zH 1 25 5 0,⟨some 2, .alloc 40 [(.sl 0 [] .nil), (.sl 0 [] .nil)], none⟩]) (.kp [1, 2] (.seq (.seq (.reg [zF 5 1 0,zL 6 5,zV 7 44 6]) (.kp [1, 2, 7] (.cond (.t 7) (.seq (.reg [zG 8 5 1,zV 9 45 8,zS 2 2 9]) (.ret)) (.skip)))) (c21_k10)))⟩
theorem A2b : DB Tryz.prog DF Tryz.f21 = DC c21 := by kernel_rfl
def c45_k1 : ACode := .kp [2, 3] (.seq (.reg [zF 52 3 1,zL 53 52,zF 54 3 0,zL 55 54,zY 56 55,⟨some 57, .bsl 3 none [(.t 56)], none⟩,⟨some 58, .bsl 22 none [(.t 57)], none⟩,⟨some 59, .app 22 1 24 (.t 53) (.t 58), none⟩,zF 60 3 1,zU 60 59]) (.kp [2, 3] (.seq (.reg [zG 61 2 3,zS 2 2 61]) (.ret))))
def X8 := @AX _ _ c45_k1.eq_1
def c45_k2 : ACode := .kp [2, 3, 5] (.reg [zM 43 5,zE 44 .add 43 1,zM 5 44])
def Wj := @AX _ _ c45_k2.eq_1
def c45_k3 : ACode := .kp [2, 3, 5] (.seq (.block 3 (.reg [zF 45 3 1,zL 46 45,zM 47 5,⟨some 48, .bsl 3 none [(.t 47)], none⟩,⟨some 49, .bsl 22 none [(.t 48)], none⟩,⟨some 50, .app 22 1 24 (.t 46) (.t 49), none⟩,zF 51 3 1,zU 51 50])) (c45_k2))
def XJ := @AX _ _ c45_k3.eq_1
def c45_L4 : ACode := .ke [2, 3, 5] (.seq (.seq (.reg [zM 38 5,zF 39 3 0,zL 40 39,zY 41 40,zD 42 .leq 38 41]) (.kp [2, 3, 5, 42] (.cond (.t 42) (.skip) (.exit 2)))) (c45_k3))
def Pw := @AX _ _ c45_L4.eq_1
def c45_k5 : ACode := .kp [2, 3] (.seq (.seq (.reg [zI 5 0]) (.kp [2, 3, 5] (.block 2 (.kp [2, 3, 5] (.loop c45_L4))))) (c45_k1))
def WR := @AX _ _ c45_k5.eq_1
def c45_k6 : ACode := .kp [1, 2, 3, 4] (.reg [zM 26 4,zF 27 1 3,zL 28 27,⟨some 29, .iaddr 1 none (.t 28) (.c (.int .i64 2)), none⟩,zL 30 29,zD 31 .add 26 30,zM 4 31])
def Wn := @AX _ _ c45_k6.eq_1
def c45_k7 : ACode := .kp [1, 2, 3, 4] (.seq (.block 1 (.reg [zF 32 3 0,zL 33 32,zM 34 4,⟨some 35, .bsl 3 none [(.t 34)], none⟩,⟨some 36, .app 3 1 8 (.t 33) (.t 35), none⟩,zF 37 3 0,zU 37 36])) (c45_k6))
def WV := @AX _ _ c45_k7.eq_1
def c45_L8 : ACode := .ke [1, 2, 3, 4] (.seq (.seq (.reg [zM 20 4,zF 21 1 3,zL 22 21,⟨some 23, .iaddr 1 none (.t 22) (.c (.int .i64 1)), none⟩,zL 24 23,zD 25 .lss 20 24]) (.kp [1, 2, 3, 4, 25] (.cond (.t 25) (.skip) (.exit 0)))) (c45_k7))
def Qn := @AX _ _ c45_L8.eq_1
def c45_e9 : ACode := .kp [1, 2, 3] (.seq (.reg [zF 16 1 3,zL 17 16,⟨some 18, .iaddr 1 none (.t 17) (.c (.int .i64 0)), none⟩,zL 19 18,zM 4 19]) (.kp [1, 2, 3, 4] (.block 0 (.kp [1, 2, 3, 4] (.loop c45_L8)))))
def WK := @AX _ _ c45_e9.eq_1
def c45 : AFun := ⟨1, 62, [.cell 2 (some 2)], .seq (.reg [zH 1 25 5 0,⟨some 2, .alloc 40 [(.sl 0 [] .nil), (.sl 0 [] .nil)], none⟩]) (.kp [1, 2] (.seq (.reg [⟨some 6, .build [(.sl 0 [] .nil), (.sl 0 [] .nil)] [], none⟩,⟨some 3, .alloc 40 [(.sl 0 [] .nil), (.sl 0 [] .nil)], none⟩,zS 2 3 6]) (.kp [1, 2, 3] (.seq (.seq (.reg [zF 7 1 0,zL 8 7,zE 9 .eql 8 1]) (.kp [1, 2, 3, 9] (.cond (.t 9) (.reg [zF 10 3 0,zL 11 10,zF 12 1 3,zL 13 12,⟨some 14, .app 3 1 8 (.t 11) (.t 13), none⟩,zF 15 3 0,zU 15 14]) (c45_e9)))) (c45_k5)))))⟩
theorem A1y : DB Tryz.prog DF Tryz.f45 = DC c45 := by kernel_rfl
def c51_k1 : ACode := .kp [4, 5, 9] (.seq (.reg [zF 203 5 1,zL 204 203,zM 205 9,⟨some 206, .bsl 22 none [(.t 205)], none⟩,⟨some 207, .app 22 1 24 (.t 204) (.t 206), none⟩,zF 208 5 1,zU 208 207]) (.kp [4, 5] (.seq (.reg [zG 209 2 5,zS 2 4 209]) (.ret))))
def Jo := @AX _ _ c51_k1.eq_1
def c51_k2 : ACode := .kp [2, 3, 4, 5, 9] (.seq (.seq (.segs [⟨none, [zF 186 2 0,zL 187 186,zE 188 .eql 187 5,zM 189 188], none⟩,⟨some (189, true), [zF 190 2 2,zL 191 190,zF 192 3 0,zL 193 192,zY 194 193,zD 195 .leq 191 194], some (196, 195)⟩]) (.kp [2, 3, 4, 5, 9, 196] (.cond (.t 196) (.reg [zF 197 3 1,zL 198 197,zF 199 2 2,zL 200 199,zJ 201 1 198 200,zL 202 201,zM 9 202]) (.skip)))) (c51_k1))
def K9 := @AX _ _ c51_k2.eq_1
def c51_k3 : ACode := .kp [2, 3, 4, 5, 6, 7, 8, 9, 10] (.reg [zM 35 10,zE 36 .add 35 1,zM 10 36])
def Qj := @AX _ _ c51_k3.eq_1
def c51_t4 : ACode := .kp [2, 3, 4, 5, 6, 7, 8, 9, 10, 11] (.seq (.reg [zF 169 5 0,zL 170 169,zM 171 11,⟨some 172, .bsl 3 none [(.t 171)], none⟩,⟨some 173, .app 3 1 8 (.t 170) (.t 172), none⟩,zF 174 5 0,zU 174 173]) (.kp [2, 3, 4, 5, 6, 7, 8, 9, 10] (.regD .plain [] [zF 175 5 1,zL 176 175,zF 177 3 1,zL 178 177,zM 179 10,zE 180 .add 179 1,zJ 181 1 178 180,zL 182 181,⟨some 183, .bsl 22 none [(.t 182)], none⟩,⟨some 184, .app 22 1 24 (.t 176) (.t 183), none⟩,zF 185 5 1,zU 185 184])))
def Wr := @AX _ _ c51_t4.eq_1
def c51_k5 : ACode := .kp [2, 3, 4, 5, 6, 7, 8, 9, 10, 11, 12] (.seq (.reg [zM 168 12]) (.kp [2, 3, 4, 5, 6, 7, 8, 9, 10, 11, 168] (.cond (.t 168) (c51_t4) (.skip))))
def Qs := @AX _ _ c51_k5.eq_1
def c51_k6 : ACode := .kp [2, 3, 4, 5, 6, 7, 8, 9, 10, 11] (.reg [zM 113 8,zN 114 113,zM 12 114])
def Jy := @AX _ _ c51_k6.eq_1
def c51_k7 : ACode := .kp [2, 3, 4, 5, 6, 7, 8, 9, 10, 11, 12, 13] (.reg [zM 157 13,zE 158 .add 157 1,zM 13 158])
def XS := @AX _ _ c51_k7.eq_1
def c51_k8 : ACode := .kp [2, 3, 4, 5, 6, 7, 8, 9, 10, 11, 12, 13] (.seq (.block 3 (.reg [zF 159 2 1,zL 160 159,zM 161 11,zF 162 3 0,zL 163 162,zM 164 13,zJ 165 1 163 164,zL 166 165,⟨some 167, .callp 80 [(.t 160), (.t 161), (.t 166)], none⟩,zM 11 167])) (c51_k7))
def XZ := @AX _ _ c51_k8.eq_1
def c51_L9 : ACode := .ke [2, 3, 4, 5, 6, 7, 8, 9, 10, 11, 12, 13] (.seq (.seq (.reg [zM 154 13,zM 155 10,zD 156 .leq 154 155]) (.kp [2, 3, 4, 5, 6, 7, 8, 9, 10, 11, 12, 13, 156] (.cond (.t 156) (.skip) (.exit 2)))) (c51_k8))
def QX := @AX _ _ c51_L9.eq_1
def c51_t10 : ACode := .kp [2, 3, 4, 5, 6, 7, 8, 9, 10, 12] (.seq (.reg [zF 140 3 0,zL 141 140,zM 142 10,zF 143 2 2,zL 144 143,zD 145 .sub 142 144,zE 146 .add 145 1,zJ 147 1 141 146,zL 148 147,zM 11 148]) (.kp [2, 3, 4, 5, 6, 7, 8, 9, 10, 11, 12] (.seq (.reg [zM 149 10,zF 150 2 2,zL 151 150,zD 152 .sub 149 151,zE 153 .add 152 2,zM 13 153]) (.kp [2, 3, 4, 5, 6, 7, 8, 9, 10, 11, 12, 13] (.block 2 (.kp [2, 3, 4, 5, 6, 7, 8, 9, 10, 11, 12, 13] (.loop c51_L9)))))))
def UC := @AX _ _ c51_t10.eq_1
def c51_t11 : ACode := .kp [2, 3, 4, 5, 6, 7, 8, 9, 10, 11] (.seq (.reg [zM 134 10,zF 135 2 2,zL 136 135,zE 137 .sub 136 1,zD 138 .geq 134 137,zM 12 138]) (.kp [2, 3, 4, 5, 6, 7, 8, 9, 10, 11, 12] (.seq (.reg [zM 139 12]) (.kp [2, 3, 4, 5, 6, 7, 8, 9, 10, 11, 12, 139] (.cond (.t 139) (c51_t10) (.skip))))))
def Ow := @AX _ _ c51_t11.eq_1
def c51_t12 : ACode := .kp [2, 3, 4, 5, 6, 7, 8, 9, 10, 11] (.seq (.reg [zM 127 11,zM 128 7,zD 129 .neq 127 128,zM 12 129]) (.kp [2, 3, 4, 5, 6, 8, 9, 10, 11, 12] (.reg [zM 130 11,zM 7 130])))
def TY := @AX _ _ c51_t12.eq_1
def c51_e13 : ACode := .kp [2, 3, 4, 5, 6, 7, 8, 9, 10, 11, 12] (.seq (.reg [zF 131 2 0,zL 132 131,zE 133 .eql 132 10]) (.kp [2, 3, 4, 5, 6, 7, 8, 9, 10, 11, 12, 133] (.cond (.t 133) (c51_t11) (.skip))))
def HF := @AX _ _ c51_e13.eq_1
def c51_t14 : ACode := .kp [2, 3, 4, 5, 6, 7, 8, 9, 10, 11, 12] (.seq (.reg [zF 118 2 1,zL 119 118,zM 120 6,zM 121 11,⟨some 122, .callp 80 [(.t 119), (.t 120), (.t 121)], none⟩,zM 6 122]) (.kp [2, 3, 4, 5, 6, 7, 8, 9, 10, 12] (.reg [zM 123 6,zM 11 123])))
def UY := @AX _ _ c51_t14.eq_1
def c51_e15 : ACode := .kp [2, 3, 4, 5, 6, 7, 8, 9, 10, 11, 12] (.seq (.reg [zF 124 2 0,zL 125 124,zE 126 .eql 125 11]) (.kp [2, 3, 4, 5, 6, 7, 8, 9, 10, 11, 12, 126] (.cond (.t 126) (c51_t12) (c51_e13))))
def G8 := @AX _ _ c51_e15.eq_1
def c51_t16 : ACode := .kp [2, 3, 4, 5, 6, 7, 8, 9, 10, 11] (.seq (.seq (.segs [⟨none, [zM 103 8,zM 104 103], none⟩,⟨some (104, true), [zF 105 2 1,zL 106 105,zM 107 11,zF 108 2 2,zL 109 108,⟨some 110, .callp 81 [(.t 106), (.t 107), (.t 109)], none⟩,zN 111 110], none⟩,⟨none, [zP 112 104 111], none⟩]) (.kp [2, 3, 4, 5, 6, 7, 8, 9, 10, 11, 112] (.cond (.t 112) (.reg [zB 8 false]) (.skip)))) (c51_k6))
def Ic := @AX _ _ c51_t16.eq_1
def c51_e17 : ACode := .kp [2, 3, 4, 5, 6, 7, 8, 9, 10, 11, 12] (.seq (.reg [zF 115 2 0,zL 116 115,zE 117 .eql 116 9]) (.kp [2, 3, 4, 5, 6, 7, 8, 9, 10, 11, 12, 117] (.cond (.t 117) (c51_t14) (c51_e15))))
def Ej := @AX _ _ c51_e17.eq_1
def c51_e18 : ACode := .kp [2, 3, 4, 5, 6, 7, 8, 9, 10, 11, 12] (.seq (.reg [zF 100 2 0,zL 101 100,zE 102 .eql 101 8]) (.kp [2, 3, 4, 5, 6, 7, 8, 9, 10, 11, 12, 102] (.cond (.t 102) (c51_t16) (c51_e17))))
def Cs := @AX _ _ c51_e18.eq_1
def c51_e19 : ACode := .kp [2, 3, 4, 5, 6, 7, 8, 9, 10, 11, 12] (.seq (.reg [zF 93 2 0,zL 94 93,zE 95 .eql 94 6]) (.kp [2, 3, 4, 5, 6, 7, 8, 9, 10, 11, 12, 95] (.cond (.t 95) (.reg [zM 96 10,zF 97 2 2,zL 98 97,zD 99 .geq 96 98,zM 12 99]) (c51_e18))))
def CC := @AX _ _ c51_e19.eq_1
def c51_e20 : ACode := .kp [2, 3, 4, 5, 6, 7, 8, 9, 10, 11, 12] (.seq (.reg [zF 84 2 0,zL 85 84,zE 86 .eql 85 4]) (.kp [2, 3, 4, 5, 6, 7, 8, 9, 10, 11, 12, 86] (.cond (.t 86) (.reg [zF 87 2 1,zL 88 87,zM 89 11,zF 90 2 2,zL 91 90,⟨some 92, .callp 81 [(.t 88), (.t 89), (.t 91)], none⟩,zM 12 92]) (c51_e19))))
def Bp := @AX _ _ c51_e20.eq_1
def c51_k21 : ACode := .kp [2, 3, 4, 5, 6, 7, 8, 9, 10, 11, 12] (.seq (.seq (.reg [zF 75 2 0,zL 76 75,zE 77 .eql 76 3]) (.kp [2, 3, 4, 5, 6, 7, 8, 9, 10, 11, 12, 77] (.cond (.t 77) (.reg [zF 78 2 1,zL 79 78,zM 80 11,zF 81 2 2,zL 82 81,⟨some 83, .callp 80 [(.t 79), (.t 80), (.t 82)], none⟩,zM 11 83]) (c51_e20)))) (c51_k5))
def Be := @AX _ _ c51_k21.eq_1
def c51_k22 : ACode := .kp [2, 3, 4, 5, 6, 7, 8, 9, 10, 11, 12] (.seq (.seq (.segs [⟨none, [zF 57 2 0,zL 58 57,zE 59 .eql 58 7,zM 60 59], none⟩,⟨some (60, true), [zF 61 2 1,zL 62 61,zM 63 11,zF 64 2 2,zL 65 64,⟨some 66, .callp 81 [(.t 62), (.t 63), (.t 65)], none⟩,zN 67 66], none⟩,⟨none, [zP 68 60 67], none⟩]) (.kp [2, 3, 4, 5, 6, 7, 8, 9, 10, 11, 12, 68] (.cond (.t 68) (.seq (.reg [zF 69 3 1,zL 70 69,zM 71 10,zE 72 .add 71 1,zJ 73 1 70 72,zL 74 73,zM 9 74]) (.exit 0)) (.skip)))) (c51_k21))
def BO := @AX _ _ c51_k22.eq_1
def c51_k23 : ACode := .kp [2, 3, 4, 5, 6, 7, 8, 9, 10] (.seq (.block 1 (.seq (.reg [zF 37 3 0,zL 38 37,zM 39 10,zJ 40 1 38 39,zL 41 40,zM 11 41]) (.kp [2, 3, 4, 5, 6, 7, 8, 9, 10, 11] (.seq (.reg [zB 12 true]) (.kp [2, 3, 4, 5, 6, 7, 8, 9, 10, 11, 12] (.seq (.seq (.segs [⟨none, [zF 42 2 0,zL 43 42,zE 44 .eql 43 5,zM 45 44], none⟩,⟨some (45, true), [zM 46 10,zF 47 2 2,zL 48 47,zD 49 .geq 46 48], some (50, 49)⟩]) (.kp [2, 3, 4, 5, 6, 7, 8, 9, 10, 11, 12, 50] (.cond (.t 50) (.seq (.reg [zF 51 3 1,zL 52 51,zF 53 2 2,zL 54 53,zJ 55 1 52 54,zL 56 55,zM 9 56]) (.exit 0)) (.skip)))) (c51_k22))))))) (c51_k3))
def Ij := @AX _ _ c51_k23.eq_1
def c51_L24 : ACode := .ke [2, 3, 4, 5, 6, 7, 8, 9, 10] (.seq (.seq (.reg [zM 30 10,zF 31 3 0,zL 32 31,zY 33 32,zD 34 .lss 30 33]) (.kp [2, 3, 4, 5, 6, 7, 8, 9, 10, 34] (.cond (.t 34) (.skip) (.exit 0)))) (c51_k23))
def G5 := @AX _ _ c51_L24.eq_1
def c51 : AFun := ⟨2, 210, [.cell 4 (some 2)], .seq (.reg [zH 2 25 5 0,zH 3 40 2 1,⟨some 4, .alloc 40 [(.sl 0 [] .nil), (.sl 0 [] .nil)], none⟩]) (.kp [2, 3, 4] (.seq (.reg [zF 14 3 1,zL 15 14,⟨some 16, .iaddr 1 none (.t 15) (.c (.int .i64 0)), none⟩,zL 17 16,⟨some 18, .bsl 22 none [(.t 17)], none⟩,⟨some 19, .build [(.sl 0 [] .nil), (.sl 0 [] .nil)] [(1, none, (.t 18))], none⟩,⟨some 5, .alloc 40 [(.sl 0 [] .nil), (.sl 0 [] .nil)], none⟩,zS 2 5 19]) (.kp [2, 3, 4, 5] (.seq (.reg [zF 20 2 2,zL 21 20,zM 6 21]) (.kp [2, 3, 4, 5, 6] (.seq (.reg [zI 7 (-1)]) (.kp [2, 3, 4, 5, 6, 7] (.seq (.reg [zB 8 true]) (.kp [2, 3, 4, 5, 6, 7, 8] (.seq (.reg [zF 22 3 1,zL 23 22,zF 24 3 0,zL 25 24,zY 26 25,zE 27 .add 26 1,zJ 28 1 23 27,zL 29 28,zM 9 29]) (.kp [2, 3, 4, 5, 6, 7, 8, 9] (.seq (.seq (.reg [zI 10 0]) (.kp [2, 3, 4, 5, 6, 7, 8, 9, 10] (.block 0 (.kp [2, 3, 4, 5, 6, 7, 8, 9, 10] (.loop c51_L24))))) (c51_k2)))))))))))))⟩
theorem A4t : DB Tryz.prog DF Tryz.f51 = DC c51 := by kernel_rfl
def c50_k1 : ACode := .kp [4, 5, 6] (.seq (.reg [zF 70 5 1,zL 71 70,zM 72 6,⟨some 73, .bsl 22 none [(.t 72)], none⟩,⟨some 74, .app 22 1 24 (.t 71) (.t 73), none⟩,zF 75 5 1,zU 75 74]) (.kp [4, 5] (.seq (.reg [zG 76 2 5,zS 2 4 76]) (.ret))))
def QT := @AX _ _ c50_k1.eq_1
def c50_k2 : ACode := .kp [0, 3, 4, 5, 6, 7] (.reg [zM 32 7,zE 33 .add 32 1,zM 7 33])
def WP := @AX _ _ c50_k2.eq_1
def c50_k3 : ACode := .kp [0, 3, 4, 5, 6, 7, 8] (.reg [zM 39 8,zE 40 .add 39 1,zM 8 40])
def QH := @AX _ _ c50_k3.eq_1
def c50_k4 : ACode := .kp [0, 3, 4, 5, 6, 7, 8] (.seq (.block 3 (.seq (.regD .plain [] [zF 41 5 0,zL 42 41,zF 43 3 0,zL 44 43,zM 45 8,zJ 46 1 44 45,zL 47 46,⟨some 48, .bsl 3 none [(.t 47)], none⟩,⟨some 49, .app 3 1 8 (.t 42) (.t 48), none⟩,zF 50 5 0,zU 50 49]) (.kp [0, 3, 4, 5, 6, 7, 8] (.seq (.reg [zM 51 7,zE 52 .eql 51 0]) (.kp [0, 3, 4, 5, 6, 7, 8, 52] (.cond (.t 52) (.regD .plain [] [zF 53 5 1,zL 54 53,zF 55 3 1,zL 56 55,zM 57 8,zE 58 .add 57 1,zJ 59 1 56 58,zL 60 59,⟨some 61, .bsl 22 none [(.t 60)], none⟩,⟨some 62, .app 22 1 24 (.t 54) (.t 61), none⟩,zF 63 5 1,zU 63 62]) (.reg [zF 64 5 1,zL 65 64,zM 66 6,⟨some 67, .bsl 22 none [(.t 66)], none⟩,⟨some 68, .app 22 1 24 (.t 65) (.t 67), none⟩,zF 69 5 1,zU 69 68]))))))) (c50_k3))
def Px := @AX _ _ c50_k4.eq_1
def c50_L5 : ACode := .ke [0, 3, 4, 5, 6, 7, 8] (.seq (.seq (.reg [zM 34 8,zF 35 3 0,zL 36 35,zY 37 36,zD 38 .lss 34 37]) (.kp [0, 3, 4, 5, 6, 7, 8, 38] (.cond (.t 38) (.skip) (.exit 2)))) (c50_k4))
def K8 := @AX _ _ c50_L5.eq_1
def c50_k6 : ACode := .kp [0, 3, 4, 5, 6, 7] (.seq (.block 1 (.seq (.reg [zI 8 0]) (.kp [0, 3, 4, 5, 6, 7, 8] (.block 2 (.kp [0, 3, 4, 5, 6, 7, 8] (.loop c50_L5)))))) (c50_k2))
def Vu := @AX _ _ c50_k6.eq_1
def c50_L7 : ACode := .ke [0, 3, 4, 5, 6, 7] (.seq (.seq (.reg [zM 29 7,zM 30 0,zD 31 .lss 29 30]) (.kp [0, 3, 4, 5, 6, 7, 31] (.cond (.t 31) (.skip) (.exit 0)))) (c50_k6))
def K0 := @AX _ _ c50_L7.eq_1
def c50_k8 : ACode := .kp [0, 3, 4, 5, 6] (.seq (.seq (.reg [zI 7 0]) (.kp [0, 3, 4, 5, 6, 7] (.block 0 (.kp [0, 3, 4, 5, 6, 7] (.loop c50_L7))))) (c50_k1))
def QR := @AX _ _ c50_k8.eq_1
def c50 : AFun := ⟨2, 77, [.cell 4 (some 2)], .seq (.reg [zH 3 40 2 1,⟨some 4, .alloc 40 [(.sl 0 [] .nil), (.sl 0 [] .nil)], none⟩]) (.kp [0, 3, 4] (.seq (.reg [zF 9 3 1,zL 10 9,⟨some 11, .iaddr 1 none (.t 10) (.c (.int .i64 0)), none⟩,zL 12 11,⟨some 13, .bsl 22 none [(.t 12)], none⟩,⟨some 14, .build [(.sl 0 [] .nil), (.sl 0 [] .nil)] [(1, none, (.t 13))], none⟩,⟨some 5, .alloc 40 [(.sl 0 [] .nil), (.sl 0 [] .nil)], none⟩,zS 2 5 14]) (.kp [0, 3, 4, 5] (.seq (.reg [zF 15 3 1,zL 16 15,zF 17 3 0,zL 18 17,zY 19 18,zE 20 .add 19 1,zJ 21 1 16 20,zL 22 21,zM 6 22]) (.kp [0, 3, 4, 5, 6] (.seq (.seq (.reg [zM 23 0,zE 24 .eql 23 0]) (.kp [0, 3, 4, 5, 6, 24] (.cond (.t 24) (.reg [zF 25 3 1,zL 26 25,⟨some 27, .iaddr 1 none (.t 26) (.c (.int .i64 0)), none⟩,zL 28 27,zM 6 28]) (.skip)))) (c50_k8)))))))⟩
theorem A5x : DB Tryz.prog DF Tryz.f50 = DC c50 := by kernel_rfl
def c79 : AFun := ⟨2, 10, [.tmp 4], .seq (.reg [⟨some 4, .mv (.c (.sl 0 [] .nil)), none⟩]) (.kp [0, 1] (.seq (.reg [⟨some 5, .bsl 3 none [], none⟩,zM 6 0,⟨some 7, .app 3 1 8 (.t 5) (.t 6), none⟩,zM 8 1,⟨some 9, .app 3 1 8 (.t 7) (.t 8), none⟩,zM 4 9]) (.ret)))⟩
theorem A6c : DB Tryz.prog DF Tryz.f79 = DC c79 := by kernel_rfl
def c48_k1 : ACode := .kp [6, 7] (.seq (.reg [zG 112 2 7,zS 2 6 112]) (.ret))
def QG := @AX _ _ c48_k1.eq_1
def c48_k2 : ACode := .kp [4, 5, 6, 7, 8] (.seq (.seq (.reg [zF 72 4 0,zL 73 72,zY 74 73,zM 75 8,zD 76 .eql 74 75]) (.kp [4, 5, 6, 7, 8, 76] (.cond (.t 76) (.regD .plain [] [zF 77 7 1,zL 78 77,zF 79 4 1,zL 80 79,zM 81 8,zE 82 .add 81 1,zJ 83 1 80 82,zL 84 83,zF 85 5 1,zL 86 85,zM 87 8,zJ 88 1 86 87,zL 89 88,zW 90 79 84 89,⟨some 91, .bsl 22 none [(.t 90)], none⟩,⟨some 92, .app 22 1 24 (.t 78) (.t 91), none⟩,zF 93 7 1,zU 93 92]) (.regD .plain [] [zF 94 7 1,zL 95 94,zF 96 4 1,zL 97 96,zM 98 8,zE 99 .add 98 1,zJ 100 1 97 99,zL 101 100,zF 102 5 1,zL 103 102,zM 104 8,zE 105 .add 104 1,zJ 106 1 103 105,zL 107 106,zW 108 79 101 107,⟨some 109, .bsl 22 none [(.t 108)], none⟩,⟨some 110, .app 22 1 24 (.t 95) (.t 109), none⟩,zF 111 7 1,zU 111 110])))) (c48_k1))
def QQ := @AX _ _ c48_k2.eq_1
def c48_k3 : ACode := .kp [0, 4, 5, 6, 7, 8, 9] (.reg [zM 35 9,zE 36 .add 35 1,zM 9 36])
def Xa := @AX _ _ c48_k3.eq_1
def c48_k4 : ACode := .kp [0, 4, 5, 6, 7, 8, 9] (.seq (.block 1 (.seq (.regD .plain [] [zF 37 7 0,zL 38 37,zM 39 0,zF 40 4 0,zL 41 40,zM 42 9,zJ 43 1 41 42,zL 44 43,zF 45 5 0,zL 46 45,zM 47 9,zJ 48 1 46 47,zL 49 48,⟨some 50, .callp 80 [(.t 39), (.t 44), (.t 49)], none⟩,⟨some 51, .bsl 3 none [(.t 50)], none⟩,⟨some 52, .app 3 1 8 (.t 38) (.t 51), none⟩,zF 53 7 0,zU 53 52]) (.kp [0, 4, 5, 6, 7, 8, 9] (.regD .plain [] [zF 54 7 1,zL 55 54,zF 56 4 1,zL 57 56,zM 58 9,zE 59 .add 58 1,zJ 60 1 57 59,zL 61 60,zF 62 5 1,zL 63 62,zM 64 9,zE 65 .add 64 1,zJ 66 1 63 65,zL 67 66,zW 68 79 61 67,⟨some 69, .bsl 22 none [(.t 68)], none⟩,⟨some 70, .app 22 1 24 (.t 55) (.t 69), none⟩,zF 71 7 1,zU 71 70])))) (c48_k3))
def XN := @AX _ _ c48_k4.eq_1
def c48_L5 : ACode := .ke [0, 4, 5, 6, 7, 8, 9] (.seq (.seq (.reg [zM 32 9,zM 33 8,zD 34 .lss 32 33]) (.kp [0, 4, 5, 6, 7, 8, 9, 34] (.cond (.t 34) (.skip) (.exit 0)))) (c48_k4))
def Jr := @AX _ _ c48_L5.eq_1
def c48_k6 : ACode := .kp [0, 4, 5, 6, 7, 8] (.seq (.seq (.reg [zI 9 0]) (.kp [0, 4, 5, 6, 7, 8, 9] (.block 0 (.kp [0, 4, 5, 6, 7, 8, 9] (.loop c48_L5))))) (c48_k2))
def Qm := @AX _ _ c48_k6.eq_1
def c48 : AFun := ⟨3, 113, [.cell 6 (some 2)], .seq (.reg [zH 4 40 2 1,zH 5 40 2 2,⟨some 6, .alloc 40 [(.sl 0 [] .nil), (.sl 0 [] .nil)], none⟩]) (.kp [0, 4, 5, 6] (.seq (.regD .free [] [zF 10 4 1,zL 11 10,⟨some 12, .iaddr 1 none (.t 11) (.c (.int .i64 0)), none⟩,zL 13 12,zF 14 5 1,zL 15 14,⟨some 16, .iaddr 1 none (.t 15) (.c (.int .i64 0)), none⟩,zL 17 16,zW 18 79 13 17,⟨some 19, .bsl 22 none [(.t 18)], none⟩,⟨some 20, .build [(.sl 0 [] .nil), (.sl 0 [] .nil)] [(1, none, (.t 19))], none⟩,⟨some 7, .alloc 40 [(.sl 0 [] .nil), (.sl 0 [] .nil)], none⟩,zS 2 7 20]) (.kp [0, 4, 5, 6, 7] (.seq (.reg [zF 21 4 0,zL 22 21,zY 23 22,zM 8 23]) (.kp [0, 4, 5, 6, 7, 8] (.seq (.seq (.reg [zF 24 5 0,zL 25 24,zY 26 25,zM 27 8,zD 28 .lss 26 27]) (.kp [0, 4, 5, 6, 7, 8, 28] (.cond (.t 28) (.reg [zF 29 5 0,zL 30 29,zY 31 30,zM 8 31]) (.skip)))) (c48_k6)))))))⟩
theorem A5v : DB Tryz.prog DF Tryz.f48 = DC c48 := by kernel_rfl
def c49_k1 : ACode := .kp [2, 3, 4, 5] (.seq (.regD .plain [] [zF 98 5 1,zL 99 98,zF 100 2 1,zL 101 100,zF 102 2 0,zL 103 102,zY 104 103,zE 105 .add 104 1,zJ 106 1 101 105,zL 107 106,zF 108 3 1,zL 109 108,zF 110 3 0,zL 111 110,zY 112 111,zE 113 .add 112 1,zJ 114 1 109 113,zL 115 114,zW 116 79 107 115,⟨some 117, .bsl 22 none [(.t 116)], none⟩,⟨some 118, .app 22 1 24 (.t 99) (.t 117), none⟩,zF 119 5 1,zU 119 118]) (.kp [4, 5] (.seq (.reg [zG 120 2 5,zS 2 4 120]) (.ret))))
def WQ := @AX _ _ c49_k1.eq_1
def c49_t2 : ACode := .kp [2, 3, 4, 5, 6, 7] (.seq (.regD .plain [] [zF 74 5 0,zL 75 74,zF 76 2 0,zL 77 76,zM 78 6,zJ 79 1 77 78,zL 80 79,⟨some 81, .bsl 3 none [(.t 80)], none⟩,⟨some 82, .app 3 1 8 (.t 75) (.t 81), none⟩,zF 83 5 0,zU 83 82]) (.kp [2, 3, 4, 5, 6, 7] (.reg [zM 84 6,zE 85 .add 84 1,zM 6 85])))
def IG := @AX _ _ c49_t2.eq_1
def c49_e3 : ACode := .kp [2, 3, 4, 5, 6, 7] (.seq (.regD .plain [] [zF 86 5 0,zL 87 86,zF 88 3 0,zL 89 88,zM 90 7,zJ 91 1 89 90,zL 92 91,⟨some 93, .bsl 3 none [(.t 92)], none⟩,⟨some 94, .app 3 1 8 (.t 87) (.t 93), none⟩,zF 95 5 0,zU 95 94]) (.kp [2, 3, 4, 5, 6, 7] (.reg [zM 96 7,zE 97 .add 96 1,zM 7 97])))
def I9 := @AX _ _ c49_e3.eq_1
def c49_k4 : ACode := .kp [2, 3, 4, 5, 6, 7] (.block 1 (.seq (.regD .plain [] [zF 31 5 1,zL 32 31,zF 33 2 1,zL 34 33,zM 35 6,zE 36 .add 35 1,zJ 37 1 34 36,zL 38 37,zF 39 3 1,zL 40 39,zM 41 7,zE 42 .add 41 1,zJ 43 1 40 42,zL 44 43,zW 45 79 38 44,⟨some 46, .bsl 22 none [(.t 45)], none⟩,⟨some 47, .app 22 1 24 (.t 32) (.t 46), none⟩,zF 48 5 1,zU 48 47]) (.kp [2, 3, 4, 5, 6, 7] (.seq (.segs [⟨none, [zM 49 7,zF 50 3 0,zL 51 50,zY 52 51,zD 53 .geq 49 52,zM 54 53], none⟩,⟨some (54, false), [zM 55 6,zF 56 2 0,zL 57 56,zY 58 57,zD 59 .lss 55 58,zM 60 59], none⟩,⟨some (60, true), [zF 61 2 0,zL 62 61,zM 63 6,zJ 64 1 62 63,zL 65 64,zF 66 3 0,zL 67 66,zM 68 7,zJ 69 1 67 68,zL 70 69,zD 71 .leq 65 70], none⟩,⟨some (54, false), [zP 72 60 71], some (73, 72)⟩]) (.kp [2, 3, 4, 5, 6, 7, 73] (.cond (.t 73) (c49_t2) (c49_e3)))))))
def IM := @AX _ _ c49_k4.eq_1
def c49_L5 : ACode := .ke [2, 3, 4, 5, 6, 7] (.seq (.seq (.segs [⟨none, [zM 19 6,zF 20 2 0,zL 21 20,zY 22 21,zD 23 .lss 19 22,zM 24 23], none⟩,⟨some (24, false), [zM 25 7,zF 26 3 0,zL 27 26,zY 28 27,zD 29 .lss 25 28], some (30, 29)⟩]) (.kp [2, 3, 4, 5, 6, 7, 30] (.cond (.t 30) (.skip) (.exit 0)))) (c49_k4))
def Ga := @AX _ _ c49_L5.eq_1
def c49 : AFun := ⟨2, 121, [.cell 4 (some 2)], .seq (.reg [zH 2 40 2 0,zH 3 40 2 1,⟨some 4, .alloc 40 [(.sl 0 [] .nil), (.sl 0 [] .nil)], none⟩]) (.kp [2, 3, 4] (.seq (.regD .free [] [zF 8 2 1,zL 9 8,⟨some 10, .iaddr 1 none (.t 9) (.c (.int .i64 0)), none⟩,zL 11 10,zF 12 3 1,zL 13 12,⟨some 14, .iaddr 1 none (.t 13) (.c (.int .i64 0)), none⟩,zL 15 14,zW 16 79 11 15,⟨some 17, .bsl 22 none [(.t 16)], none⟩,⟨some 18, .build [(.sl 0 [] .nil), (.sl 0 [] .nil)] [(1, none, (.t 17))], none⟩,⟨some 5, .alloc 40 [(.sl 0 [] .nil), (.sl 0 [] .nil)], none⟩,zS 2 5 18]) (.kp [2, 3, 4, 5] (.seq (.reg [zI 6 0,zI 7 0]) (.kp [2, 3, 4, 5, 6, 7] (.seq (.block 0 (.kp [2, 3, 4, 5, 6, 7] (.loop c49_L5))) (c49_k1)))))))⟩
theorem A6d : DB Tryz.prog DF Tryz.f49 = DC c49 := by kernel_rfl
end Go.Proofs.YtjdccdelcnmocaaGreatDoor
