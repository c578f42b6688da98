/- The code of some functions on plain data, by program, and that it is what the program's text gives; no condition. -/
import Derived.Test.YtnfjgphfaemjcaaGreatDoorMgD
import Derived.Test.YtnfjgphfaemjcaaGreatDoorProg
import Derived.KernelRfl
set_option linter.all false
namespace Go.Proofs.YtnfjgphfaemjcaaGreatDoor
def GB : List Nat := [33, 40, 42, 70, 72, 74, 46, 79, 118, 119, 122, 51, 47, 61, 62, 90, 129, 101, 136, 166, 164, 138, 147, 179, 148, 64, 60, 99, 100, 137, 78, 157, 209, 181, 182, 177]
def c27 : AFun := ⟨2, 8, [.cell 4 (some 2)], .seq (.reg [⟨some 4, .alloc 24 [(.int .i64 0), (.int .i64 0)], none⟩]) (.kp [0, 1, 4] (.seq (.reg [zM 5 0,zM 6 1,⟨some 7, .build [(.int .i64 0), (.int .i64 0)] [(0, none, (.t 5)), (1, none, (.t 6))], none⟩,zS 2 4 7]) (.ret)))⟩
theorem A5n : FB Tryz.prog GB Tryz.f27 = FG c27 := by kernel_rfl
def A5x : AFun := ⟨3, 15, [.tmp 6], .seq (.reg [zB 6 false]) (.kp [0, 1, 2] (.seq (.segs [⟨none, [zM 7 1,zM 8 0,zD 9 .leq 7 8,zM 10 9], none⟩,⟨some (10, true), [zM 11 0,zM 12 2,zD 13 .leq 11 12], some (14, 13)⟩,⟨none, [zM 6 14], none⟩]) (.ret)))⟩
theorem A2s : FB Tryz.prog GB Tryz.f104 = FG A5x := by kernel_rfl
theorem Am {c d : ACode} (h : c = d) : ∀ {Q : AExit → AS → Prop} {e : AH} {n : Nat} {H : A3}, aw Tryz.prog c Q ⟨e, n, H⟩ = aw Tryz.prog d Q ⟨e, n, H⟩ := by intros; rw [h]
def c47 : AFun := ⟨1, 14, [.tmp 2], .seq (.reg [⟨some 2, .mv (.c (.str [])), none⟩]) (.kp [0] (.seq (.reg [zM 3 0,zZ 4 3,zF 5 4 1,zL 6 5,⟨some 7, .usd 5 (.t 6), none⟩,zM 8 0,zZ 9 8,zF 10 9 1,zL 11 10,zY 12 11,⟨some 13, .ust 5 (.t 7) (.t 12), none⟩,zM 2 13]) (.ret)))⟩
theorem A5g : FB Tryz.prog GB Tryz.f47 = FG c47 := by kernel_rfl
def c62 : AFun := ⟨2, 19, [.tmp 4, .tmp 5], .seq (.reg [zI 4 0,⟨some 5, .mv (.c .nif), none⟩]) (.kp [0, 1] (.seq (.reg [zM 6 0,⟨some 7, .call 101 [(.t 6)], none⟩]) (.kp [0, 1] (.seq (.reg [zM 8 0,zM 9 0,zZ 10 9,zF 11 10 1,zL 12 11,zM 13 1,⟨some 14, .appB 5 1 (.t 12) (.t 13), none⟩,zZ 15 8,zF 16 15 1,zU 16 14]) (.kp [1] (.seq (.reg [zM 17 1,⟨some 18, .lenS (.t 17), none⟩,zM 4 18,⟨some 5, .mv (.c .nif), none⟩]) (.ret)))))))⟩
theorem A5q : FB Tryz.prog GB Tryz.f62 = FG c62 := by kernel_rfl
def Vx : ACode := .kp [0] (.seq (.reg [zM 14 0,zZ 15 14,zF 16 15 0,zL 17 16,zM 18 0,⟨some 19, .eqpp true (.t 17) (.t 18), none⟩]) (.kp [19] (.cond (.t 19) (.bad) (.skip))))
def A38 : AFun := ⟨1, 20, [], .seq (.reg [zM 2 0,zZ 3 2,zF 4 3 0,zL 5 4,⟨some 6, .eqp false (.t 5), none⟩]) (.kp [0, 6] (.cond (.t 6) (.reg [zM 7 0,zM 8 0,⟨some 9, .upc (.t 8), none⟩,zM 10 9,⟨some 11, .updn 86 (.t 10), none⟩,zZ 12 7,zF 13 12 0,zU 13 11]) (Vx)))⟩
theorem A2z : FB Tryz.prog GB Tryz.f101 = FG A38 := by kernel_rfl
def A64 : AFun := ⟨2, 9, [.tmp 4], .seq (.reg [zB 4 false]) (.kp [0, 1] (.seq (.reg [zM 5 0,zM 6 1,⟨some 7, .call 179 [(.t 5), (.t 6)], none⟩,zE 8 .geq 7 0,zM 4 8]) (.ret)))⟩
theorem A1w : FB Tryz.prog GB Tryz.f147 = FG A64 := by kernel_rfl
def c179_k1 : ACode := .kp [] (.seq (.reg [zI 4 (-1)]) (.ret))
def K3 := @Am _ _ c179_k1.eq_1
def c179_k2 : ACode := .kp [0, 1, 7, 8] (.reg [zE 18 .add 8 1,zM 8 18])
def Jb := @Am _ _ c179_k2.eq_1
def c179_k3 : ACode := .kp [0, 1, 7, 8] (.seq (.block 1 (.seq (.reg [zM 10 8,zM 5 10]) (.kp [0, 1, 5, 7, 8] (.seq (.reg [zM 11 1,zM 12 0,zM 13 5,zJ 14 1 12 13,zL 15 14,⟨some 16, .callv (.t 11) [(.t 15)], none⟩]) (.kp [0, 1, 5, 7, 8, 16] (.cond (.t 16) (.seq (.reg [zM 17 5,zM 4 17]) (.ret)) (.skip))))))) (c179_k2))
def LC := @Am _ _ c179_k3.eq_1
def c179_L4 : ACode := .ke [0, 1, 7, 8] (.seq (.reg [zD 9 .lss 8 7]) (.kp [0, 1, 7, 8, 9] (.seq (.cond (.t 9) (.skip) (.exit 0)) (c179_k3))))
def LP := @Am _ _ c179_L4.eq_1
def Yq : AFun := ⟨2, 19, [.tmp 4], .seq (.reg [zI 4 0]) (.kp [0, 1] (.seq (.seq (.reg [zM 6 0,zY 7 6,zI 8 0]) (.kp [0, 1, 7, 8] (.block 0 (.kp [0, 1, 7, 8] (.loop c179_L4))))) (c179_k1)))⟩
theorem A3w : FB Tryz.prog GB Tryz.f179 = FG Yq := by kernel_rfl
def c53 : AFun := ⟨2, 9, [.tmp 4], .seq (.reg [zB 4 false]) (.kp [0, 1] (.seq (.reg [zM 5 0,zM 6 1,zW 7 91 5 6,zE 8 .geq 7 0,zM 4 8]) (.ret)))⟩
theorem A50 : FB Tryz.prog GB Tryz.f53 = FG c53 := by kernel_rfl
def c91_k1 : ACode := .kp [] (.seq (.reg [zI 4 (-1)]) (.ret))
def Qo := @Am _ _ c91_k1.eq_1
def c91_k2 : ACode := .kp [0, 1, 7, 8] (.reg [zE 18 .add 8 1,zM 8 18])
def RI := @Am _ _ c91_k2.eq_1
def c91_k3 : ACode := .kp [0, 1, 7, 8] (.seq (.block 1 (.seq (.reg [zM 10 8,zM 5 10]) (.kp [0, 1, 5, 7, 8] (.seq (.reg [zM 11 1,zM 12 0,zM 13 5,zJ 14 1 12 13,zL 15 14,zD 16 .eql 11 15]) (.kp [0, 1, 5, 7, 8, 16] (.cond (.t 16) (.seq (.reg [zM 17 5,zM 4 17]) (.ret)) (.skip))))))) (c91_k2))
def RB := @Am _ _ c91_k3.eq_1
def c91_L4 : ACode := .ke [0, 1, 7, 8] (.seq (.reg [zD 9 .lss 8 7]) (.kp [0, 1, 7, 8, 9] (.seq (.cond (.t 9) (.skip) (.exit 0)) (c91_k3))))
def RD := @Am _ _ c91_L4.eq_1
def c91 : AFun := ⟨2, 19, [.tmp 4], .seq (.reg [zI 4 0]) (.kp [0, 1] (.seq (.seq (.reg [zM 6 0,zY 7 6,zI 8 0]) (.kp [0, 1, 7, 8] (.block 0 (.kp [0, 1, 7, 8] (.loop c91_L4))))) (c91_k1)))⟩
theorem A5a : FB Tryz.prog GB Tryz.f91 = FG c91 := by kernel_rfl
def c36_k1 : ACode := .kp [5] (.seq (.reg [zM 24 5,zM 4 24]) (.ret))
def Iy := @Am _ _ c36_k1.eq_1
def c36_k2 : ACode := .kp [0, 1, 5, 6] (.reg [zM 11 6,zE 12 .add 11 1,zM 6 12])
def Ie := @Am _ _ c36_k2.eq_1
def c36_k3 : ACode := .kp [0, 1, 5, 6] (.reg [zM 18 5,zM 19 0,zM 20 6,zJ 21 1 19 20,zL 22 21,zD 23 .add 18 22,zM 5 23])
def J4 := @Am _ _ c36_k3.eq_1
def c36_k4 : ACode := .kp [0, 1, 5, 6] (.seq (.block 1 (.seq (.seq (.reg [zM 13 6,zE 14 .gtr 13 0]) (.kp [0, 1, 5, 6, 14] (.cond (.t 14) (.reg [zM 15 5,zM 16 1,zD 17 .add 15 16,zM 5 17]) (.skip)))) (c36_k3))) (c36_k2))
def IV := @Am _ _ c36_k4.eq_1
def c36_L5 : ACode := .ke [0, 1, 5, 6] (.seq (.seq (.reg [zM 7 6,zM 8 0,zY 9 8,zD 10 .lss 7 9]) (.kp [0, 1, 5, 6, 10] (.cond (.t 10) (.skip) (.exit 0)))) (c36_k4))
def Ii := @Am _ _ c36_L5.eq_1
def c36 : AFun := ⟨2, 25, [.tmp 4], .seq (.reg [⟨some 4, .mv (.c (.str [])), none⟩]) (.kp [0, 1] (.seq (.reg [⟨some 5, .mv (.c (.str [])), none⟩]) (.kp [0, 1, 5] (.seq (.seq (.reg [zI 6 0]) (.kp [0, 1, 5, 6] (.block 0 (.kp [0, 1, 5, 6] (.loop c36_L5))))) (c36_k1)))))⟩
theorem A4n : FB Tryz.prog GB Tryz.f36 = FG c36 := by kernel_rfl
def c38_k1 : ACode := .kp [0] (.seq (.reg [zM 29 0,zE 30 .quo 29 10,zV 31 38 30,zM 32 0,zE 33 .rem 32 10,⟨some 34, .bin .add (.c (.int .i64 48)) (.t 33), none⟩,⟨some 35, .cvi .i32 (.t 34), none⟩,⟨some 36, .r2s (.t 35), none⟩,zD 37 .add 31 36,zM 2 37]) (.ret))
def Ia := @Am _ _ c38_k1.eq_1
def c38_k2 : ACode := .kp [0] (.seq (.seq (.reg [zM 23 0,zE 24 .lss 23 10]) (.kp [0, 24] (.cond (.t 24) (.seq (.reg [zM 25 0,⟨some 26, .bin .add (.c (.int .i64 48)) (.t 25), none⟩,⟨some 27, .cvi .i32 (.t 26), none⟩,⟨some 28, .r2s (.t 27), none⟩,zM 2 28]) (.ret)) (.skip)))) (c38_k1))
def IZ := @Am _ _ c38_k2.eq_1
def c38_k3 : ACode := .kp [0] (.seq (.reg [zM 18 0,⟨some 19, .bin .sub (.c (.int .i64 48)) (.t 18), none⟩,⟨some 20, .cvi .i32 (.t 19), none⟩,⟨some 21, .r2s (.t 20), none⟩,⟨some 22, .bin .add (.c (.str [45])) (.t 21), none⟩,zM 2 22]) (.ret))
def Ij := @Am _ _ c38_k3.eq_1
def c38_t4 : ACode := .kp [0] (.seq (.seq (.reg [zM 5 0,zE 6 .lss 5 (-9)]) (.kp [0, 6] (.cond (.t 6) (.seq (.reg [zM 7 0,zE 8 .quo 7 10,⟨some 9, .neg (.t 8), none⟩,zV 10 38 9,⟨some 11, .bin .add (.c (.str [45])) (.t 10), none⟩,zM 12 0,zE 13 .rem 12 10,⟨some 14, .bin .sub (.c (.int .i64 48)) (.t 13), none⟩,⟨some 15, .cvi .i32 (.t 14), none⟩,⟨some 16, .r2s (.t 15), none⟩,zD 17 .add 11 16,zM 2 17]) (.ret)) (.skip)))) (c38_k3))
def Im := @Am _ _ c38_t4.eq_1
def c38 : AFun := ⟨1, 38, [.tmp 2], .seq (.reg [⟨some 2, .mv (.c (.str [])), none⟩]) (.kp [0] (.seq (.seq (.reg [zM 3 0,zE 4 .lss 3 0]) (.kp [0, 4] (.cond (.t 4) (c38_t4) (.skip)))) (c38_k2)))⟩
theorem WA : FB Tryz.prog GB Tryz.f38 = FG c38 := by kernel_rfl
def c23_k1 : ACode := .kp [] (.seq (.reg [zB 4 true]) (.ret))
def RE := @Am _ _ c23_k1.eq_1
def c23_k2 : ACode := .kp [0, 1, 5] (.reg [zM 15 5,zE 16 .add 15 1,zM 5 16])
def Qv := @Am _ _ c23_k2.eq_1
def c23_k3 : ACode := .kp [0, 1, 5] (.seq (.block 1 (.seq (.reg [zM 17 0,zM 18 5,zJ 19 1 17 18,zL 20 19,zM 21 1,zM 22 5,zJ 23 1 21 22,zL 24 23,zD 25 .neq 20 24]) (.kp [0, 1, 5, 25] (.cond (.t 25) (.seq (.reg [zB 4 false]) (.ret)) (.skip))))) (c23_k2))
def RH := @Am _ _ c23_k3.eq_1
def c23_L4 : ACode := .ke [0, 1, 5] (.seq (.seq (.reg [zM 11 5,zM 12 0,zY 13 12,zD 14 .lss 11 13]) (.kp [0, 1, 5, 14] (.cond (.t 14) (.skip) (.exit 0)))) (c23_k3))
def Qy := @Am _ _ c23_L4.eq_1
def c23_k5 : ACode := .kp [0, 1] (.seq (.seq (.reg [zI 5 0]) (.kp [0, 1, 5] (.block 0 (.kp [0, 1, 5] (.loop c23_L4))))) (c23_k1))
def R4 := @Am _ _ c23_k5.eq_1
def c23 : AFun := ⟨2, 26, [.tmp 4], .seq (.reg [zB 4 false]) (.kp [0, 1] (.seq (.seq (.reg [zM 6 0,zY 7 6,zM 8 1,zY 9 8,zD 10 .neq 7 9]) (.kp [0, 1, 10] (.cond (.t 10) (.seq (.reg [zB 4 false]) (.ret)) (.skip)))) (c23_k5)))⟩
theorem A4r : FB Tryz.prog GB Tryz.f23 = FG c23 := by kernel_rfl
def c26_k1 : ACode := .kp [5] (.seq (.reg [zM 34 5,zM 4 34]) (.ret))
def HS := @Am _ _ c26_k1.eq_1
def c26_k2 : ACode := .kp [0, 1, 5, 6, 7] (.reg [zM 12 7,zE 13 .add 12 1,zM 7 13])
def HE := @Am _ _ c26_k2.eq_1
def c26_t3 : ACode := .kp [0, 1, 5, 6, 7] (.seq (.reg [zM 25 5,zM 26 0,zM 27 6,zM 28 7,⟨some 29, .cutS (.t 26) (some (.t 27)) (some (.t 28)), none⟩,⟨some 30, .bsl 9 none [(.t 29)], none⟩,⟨some 31, .app 9 1 16 (.t 25) (.t 30), none⟩,zM 5 31]) (.kp [0, 1, 5, 7] (.reg [zM 32 7,zE 33 .add 32 1,zM 6 33])))
def HK := @Am _ _ c26_t3.eq_1
def c26_k4 : ACode := .kp [0, 1, 5, 6, 7] (.seq (.block 1 (.seq (.segs [⟨none, [zM 14 7,zM 15 0,⟨some 16, .lenS (.t 15), none⟩,zD 17 .eql 14 16,zM 18 17], none⟩,⟨some (18, false), [zM 19 0,zM 20 7,⟨some 21, .sidx (.t 19) (.t 20), none⟩,zM 22 1,zD 23 .eql 21 22], some (24, 23)⟩]) (.kp [0, 1, 5, 6, 7, 24] (.cond (.t 24) (c26_t3) (.skip))))) (c26_k2))
def H4 := @Am _ _ c26_k4.eq_1
def c26_L5 : ACode := .ke [0, 1, 5, 6, 7] (.seq (.seq (.reg [zM 8 7,zM 9 0,⟨some 10, .lenS (.t 9), none⟩,zD 11 .leq 8 10]) (.kp [0, 1, 5, 6, 7, 11] (.cond (.t 11) (.skip) (.exit 0)))) (c26_k4))
def Hd := @Am _ _ c26_L5.eq_1
def c26 : AFun := ⟨2, 35, [.tmp 4], .seq (.reg [⟨some 4, .mv (.c (.sl 0 [] .nil)), none⟩]) (.kp [0, 1] (.seq (.reg [⟨some 5, .mv (.c (.sl 0 [] .nil)), none⟩]) (.kp [0, 1, 5] (.seq (.reg [zI 6 0]) (.kp [0, 1, 5, 6] (.seq (.seq (.reg [zI 7 0]) (.kp [0, 1, 5, 6, 7] (.block 0 (.kp [0, 1, 5, 6, 7] (.loop c26_L5))))) (c26_k1)))))))⟩
theorem A54 : FB Tryz.prog GB Tryz.f26 = FG c26 := by kernel_rfl
def c116_k1 : ACode := .kp [0, 4, 5] (.seq (.segs [⟨none, [zM 45 5,zM 46 0,⟨some 47, .lenS (.t 46), none⟩,zM 48 4,zD 49 .gtr 47 48,zM 50 49], none⟩,⟨some (50, true), [zM 51 5,zV 52 38 51,zM 53 0,zD 54 .eql 52 53], none⟩,⟨none, [zP 55 50 54,zM 2 45,zM 3 55], none⟩]) (.ret))
def DH := @Am _ _ c116_k1.eq_1
def c116_k2 : ACode := .kp [0, 4, 5] (.seq (.seq (.reg [zM 41 4,zE 42 .eql 41 1]) (.kp [0, 4, 5, 42] (.cond (.t 42) (.reg [zM 43 5,⟨some 44, .neg (.t 43), none⟩,zM 5 44]) (.skip)))) (c116_k1))
def DL := @Am _ _ c116_k2.eq_1
def c116_k3 : ACode := .kp [0, 4, 5, 6] (.reg [zM 20 6,zE 21 .add 20 1,zM 6 21])
def DG := @Am _ _ c116_k3.eq_1
def c116_k4 : ACode := .kp [0, 4, 5, 6] (.reg [zM 33 5,⟨some 34, .bin .mul (.c (.int .i64 10)) (.t 33), none⟩,zM 35 0,zM 36 6,⟨some 37, .sidx (.t 35) (.t 36), none⟩,⟨some 38, .cvi .i64 (.t 37), none⟩,zD 39 .add 34 38,zE 40 .sub 39 48,zM 5 40])
def DE := @Am _ _ c116_k4.eq_1
def c116_k5 : ACode := .kp [0, 4, 5, 6] (.seq (.block 1 (.seq (.seq (.segs [⟨none, [zM 22 0,zM 23 6,⟨some 24, .sidx (.t 22) (.t 23), none⟩,zV 25 154 24,zN 26 25,zM 27 26], none⟩,⟨some (27, false), [zM 28 6,zM 29 4,zD 30 .sub 28 29,zE 31 .gtr 30 8], some (32, 31)⟩]) (.kp [0, 4, 5, 6, 32] (.cond (.t 32) (.seq (.reg [zI 2 0,zB 3 false]) (.ret)) (.skip)))) (c116_k4))) (c116_k3))
def DB := @Am _ _ c116_k5.eq_1
def c116_L6 : ACode := .ke [0, 4, 5, 6] (.seq (.seq (.reg [zM 16 6,zM 17 0,⟨some 18, .lenS (.t 17), none⟩,zD 19 .lss 16 18]) (.kp [0, 4, 5, 6, 19] (.cond (.t 19) (.skip) (.exit 0)))) (c116_k5))
def DN := @Am _ _ c116_L6.eq_1
def c116_k7 : ACode := .kp [0, 4] (.seq (.reg [zI 5 0]) (.kp [0, 4, 5] (.seq (.seq (.reg [zM 15 4,zM 6 15]) (.kp [0, 4, 5, 6] (.block 0 (.kp [0, 4, 5, 6] (.loop c116_L6))))) (c116_k2))))
def Cs := @Am _ _ c116_k7.eq_1
def c116 : AFun := ⟨1, 56, [.tmp 2, .tmp 3], .seq (.reg [zI 2 0,zB 3 false]) (.kp [0] (.seq (.reg [zI 4 0]) (.kp [0, 4] (.seq (.seq (.segs [⟨none, [zM 7 0,⟨some 8, .lenS (.t 7), none⟩,zE 9 .gtr 8 0,zM 10 9], none⟩,⟨some (10, true), [zM 11 0,⟨some 12, .sidx (.t 11) (.c (.int .i64 0)), none⟩,⟨some 13, .bin .eql (.t 12) (.c (.int .u8 45)), none⟩], some (14, 13)⟩]) (.kp [0, 4, 14] (.cond (.t 14) (.reg [zI 4 1]) (.skip)))) (c116_k7)))))⟩
theorem A20 : FB Tryz.prog GB Tryz.f116 = FG c116 := by kernel_rfl
def Zy : AFun := ⟨1, 9, [.tmp 2], .seq (.reg [zB 2 false]) (.kp [0] (.seq (.segs [⟨none, [zM 3 0,⟨some 4, .bin .geq (.t 3) (.c (.int .u8 48)), none⟩,zM 5 4], none⟩,⟨some (5, true), [zM 6 0,⟨some 7, .bin .leq (.t 6) (.c (.int .u8 57)), none⟩], some (8, 7)⟩,⟨none, [zM 2 8], none⟩]) (.ret)))⟩
theorem Uv : FB Tryz.prog GB Tryz.f154 = FG Zy := by kernel_rfl
def c142_k1 : ACode := .kp [] (.seq (.reg [zB 2 true]) (.ret))
def Dj := @Am _ _ c142_k1.eq_1
def c142_k2 : ACode := .kp [0, 3] (.reg [zM 21 3,zE 22 .add 21 1,zM 3 22])
def Df := @Am _ _ c142_k2.eq_1
def c142_k3 : ACode := .kp [0, 3] (.seq (.block 1 (.seq (.reg [zM 23 0,zM 24 3,⟨some 25, .sidx (.t 23) (.t 24), none⟩,zM 4 25]) (.kp [0, 3, 4] (.seq (.segs [⟨none, [zM 26 4,⟨some 27, .bin .geq (.t 26) (.c (.int .u8 97)), none⟩,zM 28 27], none⟩,⟨some (28, true), [zM 29 4,⟨some 30, .bin .leq (.t 29) (.c (.int .u8 122)), none⟩], some (31, 30)⟩,⟨none, [zM 32 31], none⟩,⟨some (32, false), [zM 33 4,⟨some 34, .bin .geq (.t 33) (.c (.int .u8 65)), none⟩,zM 35 34], none⟩,⟨some (35, true), [zM 36 4,⟨some 37, .bin .leq (.t 36) (.c (.int .u8 90)), none⟩], none⟩,⟨some (32, false), [zP 38 35 37], some (39, 38)⟩,⟨none, [zM 40 39], none⟩,⟨some (40, false), [zM 41 4,⟨some 42, .bin .eql (.t 41) (.c (.int .u8 95)), none⟩], some (43, 42)⟩,⟨none, [zM 44 43], none⟩,⟨some (44, false), [zM 45 4,zV 46 154 45], none⟩,⟨none, [zO 47 44 46,zN 48 47], none⟩]) (.kp [0, 3, 48] (.cond (.t 48) (.seq (.reg [zB 2 false]) (.ret)) (.skip))))))) (c142_k2))
def Du := @Am _ _ c142_k3.eq_1
def c142_L4 : ACode := .ke [0, 3] (.seq (.seq (.reg [zM 17 3,zM 18 0,⟨some 19, .lenS (.t 18), none⟩,zD 20 .lss 17 19]) (.kp [0, 3, 20] (.cond (.t 20) (.skip) (.exit 0)))) (c142_k3))
def Di := @Am _ _ c142_L4.eq_1
def c142_k5 : ACode := .kp [0] (.seq (.seq (.reg [zI 3 0]) (.kp [0, 3] (.block 0 (.kp [0, 3] (.loop c142_L4))))) (c142_k1))
def Dp := @Am _ _ c142_k5.eq_1
def SN : AFun := ⟨1, 49, [.tmp 2], .seq (.reg [zB 2 false]) (.kp [0] (.seq (.seq (.segs [⟨none, [zM 5 0,⟨some 6, .bin .eql (.t 5) (.c (.str [])), none⟩,zM 7 6], none⟩,⟨some (7, false), [zM 8 0,⟨some 9, .lenS (.t 8), none⟩,zE 10 .gtr 9 24], some (11, 10)⟩,⟨none, [zM 12 11], none⟩,⟨some (12, false), [zM 13 0,⟨some 14, .sidx (.t 13) (.c (.int .i64 0)), none⟩,zV 15 154 14], none⟩,⟨none, [zO 16 12 15], none⟩]) (.kp [0, 16] (.cond (.t 16) (.seq (.reg [zB 2 false]) (.ret)) (.skip)))) (c142_k5)))⟩
theorem SP : FB Tryz.prog GB Tryz.f142 = FG SN := by kernel_rfl
def A5f : AFun := ⟨1, 29, [.tmp 2], .seq (.reg [zB 2 false]) (.kp [0] (.seq (.segs [⟨none, [zM 3 0,zV 4 142 3,zM 5 4], none⟩,⟨some (5, true), [zM 6 0,⟨some 7, .bin .neq (.t 6) (.c (.str [105, 102])), none⟩], some (8, 7)⟩,⟨none, [zM 9 8], none⟩,⟨some (9, true), [zM 10 0,⟨some 11, .bin .neq (.t 10) (.c (.str [101, 97, 99, 104])), none⟩], some (12, 11)⟩,⟨none, [zM 13 12], none⟩,⟨some (13, true), [zM 14 0,⟨some 15, .bin .neq (.t 14) (.c (.str [105, 110])), none⟩], some (16, 15)⟩,⟨none, [zM 17 16], none⟩,⟨some (17, true), [zM 18 0,⟨some 19, .bin .neq (.t 18) (.c (.str [101, 108, 115, 101])), none⟩], some (20, 19)⟩,⟨none, [zM 21 20], none⟩,⟨some (21, true), [zM 22 0,⟨some 23, .bin .neq (.t 22) (.c (.str [101, 110, 100])), none⟩], some (24, 23)⟩,⟨none, [zM 25 24], none⟩,⟨some (25, true), [zM 26 0,⟨some 27, .bin .neq (.t 26) (.c (.str [111, 112, 101, 110])), none⟩], some (28, 27)⟩,⟨none, [zM 2 28], none⟩]) (.ret)))⟩
theorem A2a : FB Tryz.prog GB Tryz.f105 = FG A5f := by kernel_rfl
def c143 : AFun := ⟨1, 19, [.tmp 2], .seq (.reg [zB 2 false]) (.kp [0] (.seq (.reg [zM 6 0,zV 7 116 6,zM 5 7,zX 8 5 0,zX 9 5 1,zM 3 8,zM 4 9]) (.kp [3, 4] (.seq (.segs [⟨none, [zM 10 4,zM 11 10], none⟩,⟨some (11, true), [zM 12 3,zE 13 .geq 12 0], some (14, 13)⟩,⟨none, [zM 15 14], none⟩,⟨some (15, true), [zM 16 3,zE 17 .leq 16 999], some (18, 17)⟩,⟨none, [zM 2 18], none⟩]) (.ret)))))⟩
theorem A3r : FB Tryz.prog GB Tryz.f143 = FG c143 := by kernel_rfl
def c106_k1 : ACode := .kp [] (.seq (.reg [zB 2 true]) (.ret))
def Dd := @Am _ _ c106_k1.eq_1
def c106_k2 : ACode := .kp [0, 3] (.reg [zM 23 3,zE 24 .add 23 1,zM 3 24])
def Dq := @Am _ _ c106_k2.eq_1
def c106_k3 : ACode := .kp [0, 3] (.seq (.block 1 (.seq (.segs [⟨none, [zM 25 0,zM 26 3,zJ 27 1 25 26,zL 28 27,zV 29 105 28,zN 30 29,zM 31 30], none⟩,⟨some (31, true), [zM 32 0,zM 33 3,zJ 34 1 32 33,zL 35 34,zV 36 143 35,zN 37 36], none⟩,⟨none, [zP 38 31 37], none⟩]) (.kp [0, 3, 38] (.cond (.t 38) (.seq (.reg [zB 2 false]) (.ret)) (.skip))))) (c106_k2))
def De := @Am _ _ c106_k3.eq_1
def c106_L4 : ACode := .ke [0, 3] (.seq (.seq (.reg [zM 19 3,zM 20 0,zY 21 20,zD 22 .lss 19 21]) (.kp [0, 3, 22] (.cond (.t 22) (.skip) (.exit 0)))) (c106_k3))
def Dt := @Am _ _ c106_L4.eq_1
def c106_k5 : ACode := .kp [0] (.seq (.seq (.reg [zI 3 1]) (.kp [0, 3] (.block 0 (.kp [0, 3] (.loop c106_L4))))) (c106_k1))
def Dm := @Am _ _ c106_k5.eq_1
def Sf : AFun := ⟨1, 39, [.tmp 2], .seq (.reg [zB 2 false]) (.kp [0] (.seq (.seq (.segs [⟨none, [zM 4 0,zY 5 4,zE 6 .eql 5 0,zM 7 6], none⟩,⟨some (7, false), [zM 8 0,zY 9 8,zE 10 .gtr 9 8], some (11, 10)⟩,⟨none, [zM 12 11], none⟩,⟨some (12, false), [zM 13 0,⟨some 14, .iaddr 1 none (.t 13) (.c (.int .i64 0)), none⟩,zL 15 14,zV 16 105 15,zN 17 16], none⟩,⟨none, [zO 18 12 17], none⟩]) (.kp [0, 18] (.cond (.t 18) (.seq (.reg [zB 2 false]) (.ret)) (.skip)))) (c106_k5)))⟩
theorem SD : FB Tryz.prog GB Tryz.f106 = FG Sf := by kernel_rfl
def c37_k1 : ACode := .kp [] (.seq (.reg [zI 2 0]) (.ret))
def Ws := @Am _ _ c37_k1.eq_1
def c37_k2 : ACode := .kp [0] (.seq (.seq (.segs [⟨none, [zM 17 0,⟨some 18, .bin .eql (.t 17) (.c (.str [112, 97, 100])), none⟩,zM 19 18], none⟩,⟨some (19, false), [zM 20 0,⟨some 21, .bin .eql (.t 20) (.c (.str [114, 105, 103, 104, 116])), none⟩], some (22, 21)⟩,⟨none, [zM 23 22], none⟩,⟨some (23, false), [zM 24 0,⟨some 25, .bin .eql (.t 24) (.c (.str [99, 117, 116])), none⟩], some (26, 25)⟩]) (.kp [26] (.cond (.t 26) (.seq (.reg [zI 2 2]) (.ret)) (.skip)))) (c37_k1))
def WI := @Am _ _ c37_k2.eq_1
def c37 : AFun := ⟨1, 27, [.tmp 2], .seq (.reg [zI 2 0]) (.kp [0] (.seq (.seq (.segs [⟨none, [zM 3 0,⟨some 4, .bin .eql (.t 3) (.c (.str [117, 112, 112, 101, 114])), none⟩,zM 5 4], none⟩,⟨some (5, false), [zM 6 0,⟨some 7, .bin .eql (.t 6) (.c (.str [108, 111, 119, 101, 114])), none⟩], some (8, 7)⟩,⟨none, [zM 9 8], none⟩,⟨some (9, false), [zM 10 0,⟨some 11, .bin .eql (.t 10) (.c (.str [116, 114, 105, 109])), none⟩], some (12, 11)⟩,⟨none, [zM 13 12], none⟩,⟨some (13, false), [zM 14 0,⟨some 15, .bin .eql (.t 14) (.c (.str [106, 115, 111, 110])), none⟩], some (16, 15)⟩]) (.kp [0, 16] (.cond (.t 16) (.seq (.reg [zI 2 1]) (.ret)) (.skip)))) (c37_k2)))⟩
theorem A5o : FB Tryz.prog GB Tryz.f37 = FG c37 := by kernel_rfl
theorem An {c d : ACode} (h : c = d) : ∀ {Q : AExit → AS → Prop} {e : AH} {n : Nat} {H : A3}, aw Tryz.prog c Q ⟨e, n, H⟩ = aw Tryz.prog d Q ⟨e, n, H⟩ := by intros; rw [h]
def A4w : AFun := ⟨0, 2, [.tmp 0], .seq (.reg [⟨some 0, .mv (.c (.sl 0 [] .nil)), none⟩]) (.kp [] (.seq (.reg [⟨some 1, .callp 178 [(.c (.str [105, 102, 32, 101, 97, 99, 104, 32, 105, 110, 32, 101, 108, 115, 101, 32, 101, 110, 100, 32, 111, 112, 101, 110]))], none⟩,zM 0 1]) (.ret)))⟩
theorem A41 : FB Tryz.prog GB Tryz.f146 = FG A4w := by kernel_rfl
def c64 : AFun := ⟨0, 3, [.tmp 0], .seq (.reg [⟨some 0, .mv (.c .nmp), none⟩]) (.kp [] (.seq (.reg [⟨some 1, .mkmap none, none⟩,⟨none, .mset none (.t 1) (.c (.str [117, 112, 112, 101, 114])) (.c (.bool false)), none⟩,⟨none, .mset none (.t 1) (.c (.str [108, 111, 119, 101, 114])) (.c (.bool false)), none⟩,⟨none, .mset none (.t 1) (.c (.str [116, 114, 105, 109])) (.c (.bool false)), none⟩,⟨none, .mset none (.t 1) (.c (.str [106, 115, 111, 110])) (.c (.bool false)), none⟩,⟨none, .mset none (.t 1) (.c (.str [112, 97, 100])) (.c (.bool true)), none⟩,⟨none, .mset none (.t 1) (.c (.str [114, 105, 103, 104, 116])) (.c (.bool true)), none⟩,⟨none, .mset none (.t 1) (.c (.str [99, 117, 116])) (.c (.bool true)), none⟩,zM 2 1,zM 0 2]) (.ret)))⟩
theorem A63 : FB Tryz.prog GB Tryz.f64 = FG c64 := by kernel_rfl
def A58 : AFun := ⟨1, 21, [.tmp 2], .seq (.reg [zB 2 false]) (.kp [0] (.seq (.segs [⟨none, [zM 3 0,⟨some 4, .bin .geq (.t 3) (.c (.int .u8 97)), none⟩,zM 5 4], none⟩,⟨some (5, true), [zM 6 0,⟨some 7, .bin .leq (.t 6) (.c (.int .u8 122)), none⟩], some (8, 7)⟩,⟨none, [zM 9 8], none⟩,⟨some (9, false), [zM 10 0,⟨some 11, .bin .geq (.t 10) (.c (.int .u8 65)), none⟩,zM 12 11], none⟩,⟨some (12, true), [zM 13 0,⟨some 14, .bin .leq (.t 13) (.c (.int .u8 90)), none⟩], none⟩,⟨some (9, false), [zP 15 12 14], some (16, 15)⟩,⟨none, [zM 17 16], none⟩,⟨some (17, false), [zM 18 0,⟨some 19, .bin .eql (.t 18) (.c (.int .u8 95)), none⟩], some (20, 19)⟩,⟨none, [zM 2 20], none⟩]) (.ret)))⟩
theorem A2f : FB Tryz.prog GB Tryz.f144 = FG A58 := by kernel_rfl
def c145 : AFun := ⟨1, 9, [.tmp 2], .seq (.reg [zB 2 false]) (.kp [0] (.seq (.segs [⟨none, [zM 3 0,⟨some 4, .bin .geq (.t 3) (.c (.int .u8 48)), none⟩,zM 5 4], none⟩,⟨some (5, true), [zM 6 0,⟨some 7, .bin .leq (.t 6) (.c (.int .u8 57)), none⟩], some (8, 7)⟩,⟨none, [zM 2 8], none⟩]) (.ret)))⟩
theorem A3e : FB Tryz.prog GB Tryz.f145 = FG c145 := by kernel_rfl
def c107_k1 : ACode := .kp [0] (.seq (.segs [⟨none, [zM 26 0,⟨some 27, .bin .neq (.t 26) (.c (.str [])), none⟩,zM 28 27], none⟩,⟨some (28, true), [zM 29 0,⟨some 30, .lenS (.t 29), none⟩,zE 31 .leq 30 24], some (32, 31)⟩,⟨none, [zM 33 32], none⟩,⟨some (33, true), [⟨some 34, .callp 146 [], none⟩,zM 35 0,zW 36 53 34 35,zN 37 36], none⟩,⟨none, [zP 38 33 37,zM 2 38], none⟩]) (.ret))
def EC := @An _ _ c107_k1.eq_1
def c107_k2 : ACode := .kp [0, 5, 6] (.reg [zE 25 .add 6 1,zM 6 25])
def EE := @An _ _ c107_k2.eq_1
def c107_k3 : ACode := .kp [0, 5, 6] (.seq (.block 1 (.seq (.reg [zM 8 6,zM 3 8]) (.kp [0, 3, 5, 6] (.seq (.segs [⟨none, [zM 9 0,zM 10 3,⟨some 11, .sidx (.t 9) (.t 10), none⟩,zV 12 144 11,zN 13 12,zM 14 13], none⟩,⟨some (14, true), [zM 15 3,zE 16 .eql 15 0,zM 17 16], none⟩,⟨some (17, false), [zM 18 0,zM 19 3,⟨some 20, .sidx (.t 18) (.t 19), none⟩,zV 21 145 20,zN 22 21], none⟩,⟨some (14, true), [zO 23 17 22], some (24, 23)⟩]) (.kp [0, 5, 6, 24] (.cond (.t 24) (.seq (.reg [zB 2 false]) (.ret)) (.skip))))))) (c107_k2))
def EH := @An _ _ c107_k3.eq_1
def c107_L4 : ACode := .ke [0, 5, 6] (.seq (.reg [zD 7 .lss 6 5]) (.kp [0, 5, 6, 7] (.seq (.cond (.t 7) (.skip) (.exit 0)) (c107_k3))))
def EF := @An _ _ c107_L4.eq_1
def Ri : AFun := ⟨1, 39, [.tmp 2], .seq (.reg [zB 2 false]) (.kp [0] (.seq (.seq (.reg [zM 4 0,⟨some 5, .lenS (.t 4), none⟩,zI 6 0]) (.kp [0, 5, 6] (.block 0 (.kp [0, 5, 6] (.loop c107_L4))))) (c107_k1)))⟩
theorem A3v : FB Tryz.prog GB Tryz.f107 = FG Ri := by kernel_rfl
def A0y : AFun := ⟨2, 30, [.tmp 4], .seq (.reg [zB 4 false]) (.kp [0, 1] (.seq (.reg [zM 8 0,zV 9 115 8,zM 7 9,zX 10 7 0,zX 11 7 1,zM 5 10,zM 6 11]) (.kp [0, 1, 5, 6] (.seq (.segs [⟨none, [zM 12 6,⟨some 13, .eqi false (.t 12), none⟩,zM 14 13], none⟩,⟨some (14, true), [zM 15 0,⟨some 16, .lenS (.t 15), none⟩,zM 17 1,zD 18 .leq 16 17], some (19, 18)⟩,⟨none, [zM 20 19], none⟩,⟨some (20, true), [zM 21 5,zE 22 .geq 21 0], some (23, 22)⟩,⟨none, [zM 24 23], none⟩,⟨some (24, true), [zM 25 5,zV 26 65 25,zM 27 0,zD 28 .eql 26 27], none⟩,⟨none, [zP 29 24 28,zM 4 29], none⟩]) (.ret)))))⟩
theorem UQ : FB Tryz.prog GB Tryz.f114 = FG A0y := by kernel_rfl
def c108_k1 : ACode := .kp [0] (.seq (.reg [zM 18 0,⟨some 19, .call 147 [(.t 18), (.c (.fn 148 [] []))], none⟩,zN 20 19,zM 2 20]) (.ret))
def GM := @An _ _ c108_k1.eq_1
def X3 : AFun := ⟨1, 21, [.tmp 2], .seq (.reg [zB 2 false]) (.kp [0] (.seq (.seq (.segs [⟨none, [zM 3 0,zY 4 3,zE 5 .eql 4 0,zM 6 5], none⟩,⟨some (6, false), [zM 7 0,zY 8 7,zE 9 .gtr 8 8], some (10, 9)⟩,⟨none, [zM 11 10], none⟩,⟨some (11, false), [zM 12 0,⟨some 13, .iaddr 1 none (.t 12) (.c (.int .i64 0)), none⟩,zL 14 13,zV 15 107 14,zN 16 15], none⟩,⟨none, [zO 17 11 16], none⟩]) (.kp [0, 17] (.cond (.t 17) (.seq (.reg [zB 2 false]) (.ret)) (.skip)))) (c108_k1)))⟩
theorem Yv : FB Tryz.prog GB Tryz.f108 = FG X3 := by kernel_rfl
def A3k : AFun := ⟨1, 11, [.tmp 2], .seq (.reg [zB 2 false]) (.kp [0] (.seq (.segs [⟨none, [zM 3 0,zV 4 107 3,zN 5 4,zM 6 5], none⟩,⟨some (6, true), [zM 7 0,⟨some 8, .callp 114 [(.t 7), (.c (.int .i64 3))], none⟩,zN 9 8], none⟩,⟨none, [zP 10 6 9,zM 2 10], none⟩]) (.ret)))⟩
theorem A3s : FB Tryz.prog GB Tryz.f148 = FG A3k := by kernel_rfl
def c67_k1 : ACode := .kp [] (.seq (.reg [zI 6 0]) (.ret))
def HM := @An _ _ c67_k1.eq_1
def c67_k2 : ACode := .kp [30] (.cond (.t 30) (.seq (.reg [zI 6 6]) (.ret)) (.skip))
def HU := @An _ _ c67_k2.eq_1
def c67_e3 : ACode := .kp [3, 7, 8] (.seq (.segs [⟨none, [zM 51 8,zN 52 51,zM 53 52], none⟩,⟨some (53, true), [zF 54 3 4,zL 55 54,zY 56 55,zE 57 .gtr 56 0], some (58, 57)⟩,⟨none, [zM 30 58], none⟩]) (.kp [3, 7, 8, 30] (.cond (.t 30) (.skip) (.segs [⟨none, [zM 59 7,zM 60 59], none⟩,⟨some (60, false), [zM 61 8], some (62, 61)⟩,⟨none, [zM 63 62], none⟩,⟨some (63, true), [zF 64 3 5,zL 65 64,zY 66 65,zF 67 3 6,zL 68 67,zY 69 68,zD 70 .add 66 69,zE 71 .gtr 70 0], some (72, 71)⟩,⟨none, [zM 30 72], none⟩]))))
def HY := @An _ _ c67_e3.eq_1
def c67_e4 : ACode := .kp [3, 7, 8] (.seq (.segs [⟨none, [zM 44 7,zM 45 44], none⟩,⟨some (45, true), [zF 46 3 3,zL 47 46,zY 48 47,zE 49 .gtr 48 0], some (50, 49)⟩,⟨none, [zM 30 50], none⟩]) (.kp [3, 7, 8, 30] (.cond (.t 30) (.skip) (c67_e3))))
def H5 := @An _ _ c67_e4.eq_1
def c67_e5 : ACode := .kp [3, 7, 8] (.seq (.segs [⟨none, [zF 36 3 0,zL 37 36,zE 38 .neq 37 4,zM 39 38], none⟩,⟨some (39, true), [zF 40 3 2,zL 41 40,⟨some 42, .bin .neq (.t 41) (.c (.str [])), none⟩], some (43, 42)⟩,⟨none, [zM 30 43], none⟩]) (.kp [3, 7, 8, 30] (.cond (.t 30) (.skip) (c67_e4))))
def HT := @An _ _ c67_e5.eq_1
def c67_e6 : ACode := .kp [3, 7, 8] (.seq (.seq (.reg [zM 31 7,zF 32 3 1,zL 33 32,⟨some 34, .bin .neq (.t 33) (.c (.str [])), none⟩,⟨some 35, .eqb true (.t 31) (.t 34), none⟩,zM 30 35]) (.kp [3, 7, 8, 30] (.cond (.t 30) (.skip) (c67_e5)))) (c67_k2))
def HG := @An _ _ c67_e6.eq_1
def c67_e7 : ACode := .kp [3, 7, 8] (.seq (.segs [⟨none, [zF 22 3 0,zL 23 22,zE 24 .lss 23 1,zM 25 24], none⟩,⟨some (25, false), [zF 26 3 0,zL 27 26,zE 28 .gtr 27 4], some (29, 28)⟩,⟨none, [zM 21 29], none⟩]) (.kp [3, 7, 8, 21] (.cond (.t 21) (.seq (.reg [zI 6 5]) (.ret)) (c67_e6))))
def Hk := @An _ _ c67_e7.eq_1
def c67_e8 : ACode := .kp [2, 3, 7, 8] (.seq (.reg [zM 19 2,zE 20 .gtr 19 16,zM 18 20]) (.kp [3, 7, 8, 18] (.cond (.t 18) (.seq (.reg [zI 6 25]) (.ret)) (c67_e7))))
def He := @An _ _ c67_e8.eq_1
def c67 : AFun := ⟨3, 73, [.tmp 6], .seq (.reg [zH 3 55 7 0,zI 6 0]) (.kp [1, 2, 3] (.seq (.reg [zF 9 3 0,zL 10 9,zE 11 .eql 10 1,zF 12 3 0,zL 13 12,zE 14 .eql 13 2,zM 7 11,zM 8 14]) (.kp [1, 2, 3, 7, 8] (.seq (.block 0 (.seq (.reg [zM 16 1,zE 17 .geq 16 200,zM 15 17]) (.kp [2, 3, 7, 8, 15] (.cond (.t 15) (.seq (.reg [zI 6 2]) (.ret)) (c67_e8))))) (c67_k1)))))⟩
theorem U6 : FB Tryz.prog GB Tryz.f67 = FG c67 := by kernel_rfl
def c68_k1 : ACode := .kp [] (.seq (.reg [zI 2 0]) (.ret))
def CQ := @An _ _ c68_k1.eq_1
def c68_k2 : ACode := .kp [32, 33, 34] (.reg [zE 75 .add 34 1,zM 34 75])
def Cg := @An _ _ c68_k2.eq_1
def c68_e3 : ACode := .kp [3, 4, 32, 33, 34] (.seq (.segs [⟨none, [zF 68 4 0,zL 69 68,⟨some 70, .bin .eql (.t 69) (.c (.str [106, 115, 111, 110])), none⟩,zM 71 70], none⟩,⟨some (71, true), [zM 72 3,zE 73 .gtr 72 0], some (74, 73)⟩,⟨none, [zM 67 74], none⟩]) (.kp [32, 33, 34, 67] (.cond (.t 67) (.seq (.reg [zI 2 11]) (.ret)) (.skip))))
def Cd := @An _ _ c68_e3.eq_1
def c68_e4 : ACode := .kp [3, 4, 5, 32, 33, 34] (.seq (.segs [⟨none, [zF 50 4 1,zL 51 50,zE 52 .lss 51 0,zM 53 52], none⟩,⟨some (53, false), [zF 54 4 1,zL 55 54,zE 56 .gtr 55 200], some (57, 56)⟩,⟨none, [zM 58 57], none⟩,⟨some (58, false), [zM 59 5,zN 60 59,zM 61 60], none⟩,⟨some (61, true), [zF 62 4 1,zL 63 62,zE 64 .neq 63 0], none⟩,⟨some (58, false), [zP 65 61 64], some (66, 65)⟩,⟨none, [zM 49 66], none⟩]) (.kp [3, 4, 32, 33, 34, 49] (.cond (.t 49) (.seq (.reg [zI 2 4]) (.ret)) (c68_e3))))
def CT := @An _ _ c68_e4.eq_1
def c68_k5 : ACode := .kp [32, 33, 34] (.seq (.block 1 (.seq (.reg [zM 36 34,⟨some 37, .iaddr 2 (some 2) (.t 32) (.t 34), none⟩,zG 38 2 37,⟨some 4, .alloc 52 [(.str []), (.int .i64 0)], none⟩,zM 3 36,zS 2 4 38]) (.kp [3, 4, 32, 33, 34] (.seq (.regD .early [] [⟨some 40, .call 64 [], none⟩,zF 41 4 0,zL 42 41,⟨some 43, .mget none (.bool false) true (.t 40) (.t 42), none⟩,zM 39 43,zX 44 39 0,zX 45 39 1,zM 5 44,zM 6 45]) (.kp [3, 4, 5, 6, 32, 33, 34] (.block 2 (.seq (.reg [zM 47 6,zN 48 47,zM 46 48]) (.kp [3, 4, 5, 32, 33, 34, 46] (.cond (.t 46) (.seq (.reg [zI 2 5]) (.ret)) (c68_e4)))))))))) (c68_k2))
def Cf := @An _ _ c68_k5.eq_1
def c68_L6 : ACode := .ke [32, 33, 34] (.seq (.reg [zD 35 .lss 34 33]) (.kp [32, 33, 34, 35] (.seq (.cond (.t 35) (.skip) (.exit 0)) (c68_k5))))
def CY := @An _ _ c68_L6.eq_1
def c68_k7 : ACode := .kp [1] (.seq (.seq (.reg [zF 31 1 4,zL 32 31,zY 33 32,zI 34 0]) (.kp [32, 33, 34] (.block 0 (.kp [32, 33, 34] (.loop c68_L6))))) (c68_k1))
def CV := @An _ _ c68_k7.eq_1
def c68_k8 : ACode := .kp [1] (.seq (.seq (.reg [zF 27 1 4,zL 28 27,zY 29 28,zE 30 .gtr 29 8]) (.kp [1, 30] (.cond (.t 30) (.seq (.reg [zI 2 2]) (.ret)) (.skip)))) (c68_k7))
def CI := @An _ _ c68_k8.eq_1
def c68 : AFun := ⟨1, 76, [.tmp 2], .seq (.reg [zH 1 55 7 0,zI 2 0]) (.kp [1] (.seq (.seq (.segs [⟨none, [zF 7 1 0,zL 8 7,zE 9 .eql 8 4,zM 10 9], none⟩,⟨some (10, true), [zF 11 1 2,zL 12 11,zV 13 107 12,zN 14 13], none⟩,⟨none, [zP 15 10 14,zM 16 15], none⟩,⟨some (16, false), [zF 17 1 0,zL 18 17,zE 19 .neq 18 1,zM 20 19], none⟩,⟨some (20, true), [zF 21 1 3,zL 22 21,zV 23 108 22,zN 24 23], none⟩,⟨some (16, false), [zP 25 20 24], some (26, 25)⟩]) (.kp [1, 26] (.cond (.t 26) (.seq (.reg [zI 2 7]) (.ret)) (.skip)))) (c68_k8)))⟩
theorem A6a : FB Tryz.prog GB Tryz.f68 = FG c68 := by kernel_rfl
def c33_k1 : ACode := .kp [6] (.seq (.reg [⟨some 86, .build [(.int .i64 0), (.int .i64 0)] [], none⟩,zS 2 6 86]) (.ret))
def Bb := @An _ _ c33_k1.eq_1
def c33_k2 : ACode := .kp [0, 1, 2, 6, 14, 15, 16] (.reg [zE 85 .add 16 1,zM 16 85])
def Bh := @An _ _ c33_k2.eq_1
def c33_k3 : ACode := .kp [0, 1, 2, 6, 14, 15, 16, 69, 70, 71] (.reg [zE 84 .add 71 1,zM 71 84])
def BW := @An _ _ c33_k3.eq_1
def c33_k4 : ACode := .kp [0, 1, 2, 6, 14, 15, 16, 69, 70, 71] (.seq (.block 3 (.seq (.reg [zJ 73 1 69 71,zL 74 73,zM 12 74]) (.kp [0, 1, 2, 6, 12, 14, 15, 16, 69, 70, 71] (.seq (.reg [zM 75 0,zM 76 12,zM 77 2,zE 78 .add 77 1,⟨some 79, .call 33 [(.t 75), (.t 76), (.t 78)], none⟩,⟨some 13, .alloc 24 [(.int .i64 0), (.int .i64 0)], none⟩,zS 2 13 79]) (.kp [0, 1, 2, 6, 13, 14, 15, 16, 69, 70, 71] (.seq (.reg [zF 80 13 0,zL 81 80,zE 82 .neq 81 0]) (.kp [0, 1, 2, 6, 13, 14, 15, 16, 69, 70, 71, 82] (.cond (.t 82) (.seq (.reg [zG 83 2 13,zS 2 6 83]) (.ret)) (.skip))))))))) (c33_k3))
def Bd := @An _ _ c33_k4.eq_1
def c33_L5 : ACode := .ke [0, 1, 2, 6, 14, 15, 16, 69, 70, 71] (.seq (.reg [zD 72 .lss 71 70]) (.kp [0, 1, 2, 6, 14, 15, 16, 69, 70, 71, 72] (.seq (.cond (.t 72) (.skip) (.exit 2)) (c33_k4))))
def BX := @An _ _ c33_L5.eq_1
def c33_k6 : ACode := .kp [0, 1, 2, 6, 8, 14, 15, 16] (.seq (.reg [zF 65 8 5,zL 66 65,zF 67 8 6,zL 68 67,⟨some 69, .bsl 22 none [(.t 66), (.t 68)], none⟩,zY 70 69,zI 71 0]) (.kp [0, 1, 2, 6, 14, 15, 16, 69, 70, 71] (.block 2 (.kp [0, 1, 2, 6, 14, 15, 16, 69, 70, 71] (.loop c33_L5)))))
def BZ := @An _ _ c33_k6.eq_1
def c33_k7 : ACode := .kp [0, 1, 2, 6, 8, 9, 10, 14, 15, 16] (.seq (.seq (.reg [zM 60 10,zE 61 .neq 60 0]) (.kp [0, 1, 2, 6, 8, 9, 10, 14, 15, 16, 61] (.cond (.t 61) (.seq (.reg [zM 62 10,zM 63 9,⟨some 64, .build [(.int .i64 0), (.int .i64 0)] [(0, none, (.t 62)), (1, none, (.t 63))], none⟩,zS 2 6 64]) (.ret)) (.skip)))) (c33_k6))
def BY := @An _ _ c33_k7.eq_1
def c33_k8 : ACode := .kp [0, 1, 2, 6, 8, 9, 10, 14, 15, 16] (.seq (.seq (.reg [zM 56 10,zE 57 .eql 56 0]) (.kp [0, 1, 2, 6, 8, 9, 10, 14, 15, 16, 57] (.cond (.t 57) (.reg [zG 58 7 8,zV 59 68 58,zM 10 59]) (.skip)))) (c33_k7))
def Be := @An _ _ c33_k8.eq_1
def c33_k9 : ACode := .kp [0, 1, 2, 6, 14, 15, 16] (.seq (.block 1 (.seq (.reg [zM 18 16,⟨some 19, .iaddr 7 (some 7) (.t 14) (.t 16), none⟩,zG 20 7 19,⟨some 8, .alloc 55 [(.int .i64 0), (.str []), (.str []), (.sl 0 [] .nil), (.sl 0 [] .nil), (.sl 0 [] .nil), (.sl 0 [] .nil)], none⟩,zM 7 18,zS 7 8 20]) (.kp [0, 1, 2, 6, 7, 8, 14, 15, 16] (.seq (.reg [zM 21 0,zZ 22 21,zF 23 22 0,zL 24 23,zM 9 24]) (.kp [0, 1, 2, 6, 7, 8, 9, 14, 15, 16] (.seq (.reg [zM 25 0,zZ 26 25,zF 27 26 0,zL 28 27,zE 29 .add 28 1,zZ 30 25,zF 31 30 0,zU 31 29]) (.kp [0, 1, 2, 6, 7, 8, 9, 14, 15, 16] (.seq (.reg [zG 32 7 8,zM 33 9,zM 34 2,⟨some 35, .callp 67 [(.t 32), (.t 33), (.t 34)], none⟩,zM 10 35]) (.kp [0, 1, 2, 6, 7, 8, 9, 10, 14, 15, 16] (.seq (.seq (.segs [⟨none, [zM 36 10,zE 37 .eql 36 0,zM 38 37], none⟩,⟨some (38, true), [zM 39 7,zE 40 .gtr 39 0], some (41, 40)⟩,⟨none, [zM 42 41], none⟩,⟨some (42, true), [zF 43 8 0,zL 44 43,zE 45 .eql 44 1], some (46, 45)⟩,⟨none, [zM 47 46], none⟩,⟨some (47, true), [zM 48 1,zM 49 7,zE 50 .sub 49 1,⟨some 51, .iaddr 7 (some 7) (.t 48) (.t 50), none⟩,zF 52 51 0,zL 53 52,zE 54 .eql 53 1], some (55, 54)⟩]) (.kp [0, 1, 2, 6, 8, 9, 10, 14, 15, 16, 55] (.cond (.t 55) (.reg [zI 10 6]) (.skip)))) (c33_k8))))))))))) (c33_k2))
def BV := @An _ _ c33_k9.eq_1
def c33_L10 : ACode := .ke [0, 1, 2, 6, 14, 15, 16] (.seq (.reg [zD 17 .lss 16 15]) (.kp [0, 1, 2, 6, 14, 15, 16, 17] (.seq (.cond (.t 17) (.skip) (.exit 0)) (c33_k9))))
def B8 := @An _ _ c33_L10.eq_1
def Tt : AFun := ⟨3, 87, [.cell 6 (some 2)], .seq (.reg [⟨some 6, .alloc 24 [(.int .i64 0), (.int .i64 0)], none⟩]) (.kp [0, 1, 2, 6] (.seq (.seq (.reg [zM 14 1,zY 15 14,zI 16 0]) (.kp [0, 1, 2, 6, 14, 15, 16] (.block 0 (.kp [0, 1, 2, 6, 14, 15, 16] (.loop c33_L10))))) (c33_k1)))⟩
theorem A5s : FB Tryz.prog GB Tryz.f33 = FG Tt := by kernel_rfl
def c13_k1 : ACode := .kp [2] (.seq (.reg [⟨some 16, .build [(.int .i64 0), (.int .i64 0)] [], none⟩,zS 2 2 16]) (.ret))
def Mf := @An _ _ c13_k1.eq_1
def c13_k2 : ACode := .kp [0, 2] (.seq (.seq (.reg [zM 11 0,zV 12 31 11,⟨some 13, .lenS (.t 12), none⟩,zE 14 .gtr 13 4000]) (.kp [2, 14] (.cond (.t 14) (.seq (.reg [⟨some 15, .build [(.int .i64 0), (.int .i64 0)] [(0, none, (.c (.int .i64 14))), (1, none, (.c (.int .i64 (-1))))], none⟩,zS 2 2 15]) (.ret)) (.skip)))) (c13_k1))
def Mm := @An _ _ c13_k2.eq_1
def c13 : AFun := ⟨1, 17, [.cell 2 (some 2)], .seq (.reg [⟨some 2, .alloc 24 [(.int .i64 0), (.int .i64 0)], none⟩]) (.kp [0, 2] (.seq (.reg [⟨some 3, .alloc 64 [(.int .i64 0)], none⟩]) (.kp [0, 2, 3] (.seq (.seq (.reg [zM 5 0,⟨some 6, .call 33 [(.t 3), (.t 5), (.c (.int .i64 0))], none⟩,⟨some 4, .alloc 24 [(.int .i64 0), (.int .i64 0)], none⟩,zS 2 4 6]) (.kp [0, 2, 4] (.seq (.reg [zF 7 4 0,zL 8 7,zE 9 .neq 8 0]) (.kp [0, 2, 4, 9] (.cond (.t 9) (.seq (.reg [zG 10 2 4,zS 2 2 10]) (.ret)) (.skip)))))) (c13_k2)))))⟩
theorem XU : FB Tryz.prog GB Tryz.f13 = FG c13 := by kernel_rfl
def c31_k1 : ACode := .kp [3] (.seq (.reg [⟨some 82, .call 47 [(.t 3)], none⟩,zM 2 82]) (.ret))
def CO := @An _ _ c31_k1.eq_1
def c31_k2 : ACode := .kp [3, 9, 10, 11] (.reg [zE 81 .add 11 1,zM 11 81])
def Ce := @An _ _ c31_k2.eq_1
def c31_k3 : ACode := .kp [3, 9, 10, 11] (.reg [⟨some 80, .call 62 [(.t 3), (.c (.str [60, 37, 101, 110, 100, 37, 62]))], none⟩])
def CX := @An _ _ c31_k3.eq_1
def c31_k4 : ACode := .kp [3, 5, 9, 10, 11] (.seq (.reg [zF 67 5 5,zL 68 67,zV 69 31 68,⟨some 70, .call 62 [(.t 3), (.t 69)], none⟩]) (.kp [3, 5, 9, 10, 11] (.seq (.seq (.reg [zF 71 5 6,zL 72 71,zY 73 72,zE 74 .gtr 73 0]) (.kp [3, 5, 9, 10, 11, 74] (.cond (.t 74) (.reg [zF 75 5 6,zL 76 75,zV 77 31 76,⟨some 78, .bin .add (.c (.str [60, 37, 101, 108, 115, 101, 37, 62])) (.t 77), none⟩,⟨some 79, .call 62 [(.t 3), (.t 78)], none⟩]) (.skip)))) (c31_k3))))
def CR := @An _ _ c31_k4.eq_1
def c31_k5 : ACode := .kp [3, 9, 10, 11] (.seq (.reg [⟨some 60, .call 62 [(.t 3), (.c (.str [37, 62]))], none⟩]) (.exit 1))
def CU := @An _ _ c31_k5.eq_1
def c31_k6 : ACode := .kp [3, 9, 10, 11, 40, 41, 42] (.reg [zE 59 .add 42 1,zM 42 59])
def CW := @An _ _ c31_k6.eq_1
def c31_k7 : ACode := .kp [3, 9, 10, 11, 40, 41, 42] (.seq (.block 4 (.seq (.reg [⟨some 44, .iaddr 2 (some 2) (.t 40) (.t 42), none⟩,zG 45 2 44,⟨some 8, .alloc 52 [(.str []), (.int .i64 0)], none⟩,zS 2 8 45]) (.kp [3, 8, 9, 10, 11, 40, 41, 42] (.seq (.reg [zF 46 8 0,zL 47 46,⟨some 48, .bin .add (.c (.str [124])) (.t 47), none⟩,⟨some 49, .call 62 [(.t 3), (.t 48)], none⟩]) (.kp [3, 8, 9, 10, 11, 40, 41, 42] (.seq (.regD .early [] [⟨some 50, .call 64 [], none⟩,zF 51 8 0,zL 52 51,⟨some 53, .mget none (.bool false) false (.t 50) (.t 52), none⟩]) (.kp [3, 8, 9, 10, 11, 40, 41, 42, 53] (.cond (.t 53) (.reg [zF 54 8 1,zL 55 54,zV 56 65 55,⟨some 57, .bin .add (.c (.str [32])) (.t 56), none⟩,⟨some 58, .call 62 [(.t 3), (.t 57)], none⟩]) (.skip))))))))) (c31_k6))
def Cl := @An _ _ c31_k7.eq_1
def c31_L8 : ACode := .ke [3, 9, 10, 11, 40, 41, 42] (.seq (.reg [zD 43 .lss 42 41]) (.kp [3, 9, 10, 11, 40, 41, 42, 43] (.seq (.cond (.t 43) (.skip) (.exit 3)) (c31_k7))))
def CK := @An _ _ c31_L8.eq_1
def c31_t9 : ACode := .kp [3, 5, 6, 9, 10, 11] (.seq (.reg [zM 36 6,⟨some 37, .bin .add (.c (.str [60, 37])) (.t 36), none⟩,⟨some 38, .call 62 [(.t 3), (.t 37)], none⟩]) (.kp [3, 5, 9, 10, 11] (.seq (.seq (.reg [zF 39 5 4,zL 40 39,zY 41 40,zI 42 0]) (.kp [3, 9, 10, 11, 40, 41, 42] (.block 3 (.kp [3, 9, 10, 11, 40, 41, 42] (.loop c31_L8))))) (c31_k5))))
def Ci := @An _ _ c31_t9.eq_1
def c31_e10 : ACode := .kp [3, 5, 6, 9, 10, 11, 19] (.seq (.reg [zE 62 .eql 19 3,zM 61 62]) (.kp [3, 5, 6, 9, 10, 11, 61] (.cond (.t 61) (.reg [zM 63 6,⟨some 64, .bin .add (.c (.str [60, 37, 105, 102, 32])) (.t 63), none⟩,⟨some 65, .bin .add (.t 64) (.c (.str [37, 62])), none⟩,⟨some 66, .call 62 [(.t 3), (.t 65)], none⟩]) (.reg [zF 20 5 2,zL 21 20,⟨some 22, .bin .add (.c (.str [60, 37, 101, 97, 99, 104, 32])) (.t 21), none⟩,⟨some 23, .bin .add (.t 22) (.c (.str [32, 105, 110, 32])), none⟩,zM 24 6,zD 25 .add 23 24,⟨some 26, .bin .add (.t 25) (.c (.str [37, 62])), none⟩,⟨some 27, .call 62 [(.t 3), (.t 26)], none⟩]))))
def Bv := @An _ _ c31_e10.eq_1
def c31_e11 : ACode := .kp [3, 5, 6, 9, 10, 11, 19] (.seq (.reg [zE 35 .eql 19 2,zM 34 35]) (.kp [3, 5, 6, 9, 10, 11, 19, 34] (.cond (.t 34) (c31_t9) (c31_e10))))
def Bw := @An _ _ c31_e11.eq_1
def c31_k12 : ACode := .kp [3, 9, 10, 11] (.seq (.block 1 (.seq (.reg [⟨some 13, .iaddr 7 (some 7) (.t 9) (.t 11), none⟩,zG 14 7 13,⟨some 5, .alloc 55 [(.int .i64 0), (.str []), (.str []), (.sl 0 [] .nil), (.sl 0 [] .nil), (.sl 0 [] .nil), (.sl 0 [] .nil)], none⟩,zS 7 5 14]) (.kp [3, 5, 9, 10, 11] (.seq (.reg [zF 15 5 3,zL 16 15,⟨some 17, .callp 52 [(.t 16), (.c (.str [46]))], none⟩,zM 6 17]) (.kp [3, 5, 6, 9, 10, 11] (.seq (.seq (.reg [zF 18 5 0,zL 19 18]) (.kp [3, 5, 6, 9, 10, 11, 19] (.block 2 (.seq (.reg [zE 29 .eql 19 1,zM 28 29]) (.kp [3, 5, 6, 9, 10, 11, 19, 28] (.cond (.t 28) (.seq (.reg [zF 30 5 1,zL 31 30,⟨some 32, .callp 63 [(.t 31), (.c (.str [60, 37])), (.c (.str [60, 37, 111, 112, 101, 110, 37, 62]))], none⟩,⟨some 33, .call 62 [(.t 3), (.t 32)], none⟩]) (.exit 1)) (c31_e11))))))) (c31_k4))))))) (c31_k2))
def Bu := @An _ _ c31_k12.eq_1
def c31_L13 : ACode := .ke [3, 9, 10, 11] (.seq (.reg [zD 12 .lss 11 10]) (.kp [3, 9, 10, 11, 12] (.seq (.cond (.t 12) (.skip) (.exit 0)) (c31_k12))))
def Bt := @An _ _ c31_L13.eq_1
def VX : AFun := ⟨1, 83, [.tmp 2], .seq (.reg [⟨some 2, .mv (.c (.str [])), none⟩]) (.kp [0] (.seq (.reg [⟨some 3, .alloc 86 [.np, (.sl 0 [] .nil)], none⟩]) (.kp [0, 3] (.seq (.seq (.reg [zM 9 0,zY 10 9,zI 11 0]) (.kp [3, 9, 10, 11] (.block 0 (.kp [3, 9, 10, 11] (.loop c31_L13))))) (c31_k1)))))⟩
theorem A5p : FB Tryz.prog GB Tryz.f31 = FG VX := by kernel_rfl
theorem BM {c d : ACode} (h : c = d) : ∀ {Q : AExit → AS → Prop} {e : AH} {n : Nat} {H : A3}, aw Tryz.prog c Q ⟨e, n, H⟩ = aw Tryz.prog d Q ⟨e, n, H⟩ := by intros; rw [h]
def c66_k1 : ACode := .kp [] (.seq (.reg [zI 8 0]) (.ret))
def Cj := @BM _ _ c66_k1.eq_1
def c66_k2 : ACode := .kp [4, 11] (.reg [zM 108 11,zE 109 .add 108 1,zM 11 109])
def Cc := @BM _ _ c66_k2.eq_1
def c66_k3 : ACode := .kp [4, 11] (.seq (.segs [⟨none, [zM 140 11,zE 141 .gtr 140 0,zM 142 141], none⟩,⟨some (142, true), [zF 143 4 4,zL 144 143,zM 145 11,⟨some 146, .iaddr 2 (some 2) (.t 144) (.t 145), none⟩,zF 147 146 0,zL 148 147,⟨some 149, .bin .eql (.t 148) (.c (.str [106, 115, 111, 110])), none⟩], some (150, 149)⟩]) (.kp [4, 11, 150] (.cond (.t 150) (.seq (.reg [zI 8 11]) (.ret)) (.skip))))
def Ch := @BM _ _ c66_k3.eq_1
def c66_k4 : ACode := .kp [4, 11, 12] (.seq (.seq (.segs [⟨none, [zF 119 4 4,zL 120 119,zM 121 11,⟨some 122, .iaddr 2 (some 2) (.t 120) (.t 121), none⟩,zF 123 122 1,zL 124 123,⟨some 125, .callp 104 [(.t 124), (.c (.int .i64 0)), (.c (.int .i64 200))], none⟩,zN 126 125,zM 127 126], none⟩,⟨some (127, false), [zM 128 12,zE 129 .eql 128 1,zM 130 129], none⟩,⟨some (130, true), [zF 131 4 4,zL 132 131,zM 133 11,⟨some 134, .iaddr 2 (some 2) (.t 132) (.t 133), none⟩,zF 135 134 1,zL 136 135,zE 137 .neq 136 0], none⟩,⟨some (127, false), [zP 138 130 137], some (139, 138)⟩]) (.kp [4, 11, 139] (.cond (.t 139) (.seq (.reg [zI 8 4]) (.ret)) (.skip)))) (c66_k3))
def Ck := @BM _ _ c66_k4.eq_1
def c66_k5 : ACode := .kp [4, 11] (.seq (.block 1 (.seq (.reg [zF 110 4 4,zL 111 110,zM 112 11,⟨some 113, .iaddr 2 (some 2) (.t 111) (.t 112), none⟩,zF 114 113 0,zL 115 114,zV 116 37 115,zM 12 116]) (.kp [4, 11, 12] (.seq (.seq (.reg [zM 117 12,zE 118 .eql 117 0]) (.kp [4, 11, 12, 118] (.cond (.t 118) (.seq (.reg [zI 8 5]) (.ret)) (.skip)))) (c66_k4))))) (c66_k2))
def CM := @BM _ _ c66_k5.eq_1
def c66_L6 : ACode := .ke [4, 11] (.seq (.seq (.reg [zM 103 11,zF 104 4 4,zL 105 104,zY 106 105,zD 107 .lss 103 106]) (.kp [4, 11, 107] (.cond (.t 107) (.skip) (.exit 0)))) (c66_k5))
def CL := @BM _ _ c66_L6.eq_1
def c66_k7 : ACode := .kp [4] (.seq (.seq (.reg [zI 11 0]) (.kp [4, 11] (.block 0 (.kp [4, 11] (.loop c66_L6))))) (c66_k1))
def CS := @BM _ _ c66_k7.eq_1
def c66_k8 : ACode := .kp [4] (.seq (.seq (.reg [zF 99 4 4,zL 100 99,zY 101 100,zE 102 .gtr 101 8]) (.kp [4, 102] (.cond (.t 102) (.seq (.reg [zI 8 2]) (.ret)) (.skip)))) (c66_k7))
def CN := @BM _ _ c66_k8.eq_1
def c66_k9 : ACode := .kp [4, 9, 10] (.seq (.seq (.segs [⟨none, [zM 81 9,zE 82 .eql 81 4,zM 83 82], none⟩,⟨some (83, true), [zF 84 4 2,zL 85 84,zV 86 105 85,zN 87 86], none⟩,⟨none, [zP 88 83 87,zM 89 88], none⟩,⟨some (89, false), [zM 90 10,zN 91 90,zM 92 91], none⟩,⟨some (92, true), [zF 93 4 3,zL 94 93,zV 95 106 94,zN 96 95], none⟩,⟨some (89, false), [zP 97 92 96], some (98, 97)⟩]) (.kp [4, 98] (.cond (.t 98) (.seq (.reg [zI 8 7]) (.ret)) (.skip)))) (c66_k8))
def B4 := @BM _ _ c66_k9.eq_1
def c66_k10 : ACode := .kp [1, 4, 9] (.seq (.reg [zM 22 9,zE 23 .eql 22 1,zM 10 23]) (.kp [1, 4, 9, 10] (.seq (.seq (.segs [⟨none, [zM 24 10,zF 25 4 1,zL 26 25,⟨some 27, .bin .eql (.t 26) (.c (.str [])), none⟩,⟨some 28, .eqb false (.t 24) (.t 27), none⟩,zM 29 28], none⟩,⟨some (29, false), [zM 30 10,zM 31 30], none⟩,⟨some (31, true), [zF 32 4 3,zL 33 32,zY 34 33,zE 35 .gtr 34 0], none⟩,⟨some (29, false), [zP 36 31 35], some (37, 36)⟩,⟨none, [zM 38 37], none⟩,⟨some (38, false), [zM 39 9,zE 40 .neq 39 4,zM 41 40], none⟩,⟨some (41, true), [zF 42 4 2,zL 43 42,⟨some 44, .bin .neq (.t 43) (.c (.str [])), none⟩], none⟩,⟨some (38, false), [zP 45 41 44], some (46, 45)⟩,⟨none, [zM 47 46], none⟩,⟨some (47, false), [zM 48 9,zE 49 .neq 48 2,zM 50 49], none⟩,⟨some (50, true), [zF 51 4 4,zL 52 51,zY 53 52,zE 54 .gtr 53 0], none⟩,⟨some (47, false), [zP 55 50 54], some (56, 55)⟩,⟨none, [zM 57 56], none⟩,⟨some (57, false), [zM 58 9,zE 59 .lss 58 3,zM 60 59], none⟩,⟨some (60, true), [zF 61 4 5,zL 62 61,zY 63 62,zE 64 .gtr 63 0,zM 65 64], none⟩,⟨some (65, false), [zF 66 4 6,zL 67 66,zY 68 67,zE 69 .gtr 68 0], none⟩,⟨some (60, true), [zO 70 65 69], none⟩,⟨some (57, false), [zP 71 60 70], some (72, 71)⟩,⟨none, [zM 73 72], none⟩,⟨some (73, false), [zM 74 10,zM 75 74], none⟩,⟨some (75, true), [zM 76 1,zM 77 9,zD 78 .eql 76 77], none⟩,⟨some (73, false), [zP 79 75 78], some (80, 79)⟩]) (.kp [4, 9, 10, 80] (.cond (.t 80) (.seq (.reg [zI 8 6]) (.ret)) (.skip)))) (c66_k9))))
def Bc := @BM _ _ c66_k10.eq_1
def c66_k11 : ACode := .kp [1, 4] (.seq (.reg [zF 17 4 0,zL 18 17,zM 9 18]) (.kp [1, 4, 9] (.seq (.seq (.reg [zM 19 9,⟨some 20, .callp 104 [(.t 19), (.c (.int .i64 1)), (.c (.int .i64 4))], none⟩,zN 21 20]) (.kp [1, 4, 9, 21] (.cond (.t 21) (.seq (.reg [zI 8 5]) (.ret)) (.skip)))) (c66_k10))))
def BO := @BM _ _ c66_k11.eq_1
def c66_k12 : ACode := .kp [1, 3, 4] (.seq (.seq (.reg [zM 15 3,zE 16 .gtr 15 16]) (.kp [1, 4, 16] (.cond (.t 16) (.seq (.reg [zI 8 25]) (.ret)) (.skip)))) (c66_k11))
def B1 := @BM _ _ c66_k12.eq_1
def c66 : AFun := ⟨4, 151, [.tmp 8], .seq (.reg [zH 4 55 7 0,zI 8 0]) (.kp [1, 2, 3, 4] (.seq (.seq (.reg [zM 13 2,zE 14 .geq 13 200]) (.kp [1, 3, 4, 14] (.cond (.t 14) (.seq (.reg [zI 8 2]) (.ret)) (.skip)))) (c66_k12)))⟩
theorem A5d : FB Tryz.prog GB Tryz.f66 = FG c66 := by kernel_rfl
def c32_k1 : ACode := .kp [1] (.seq (.reg [zM 68 1,zM 6 68,zI 7 0]) (.ret))
def H7 := @BM _ _ c32_k1.eq_1
def c32_k2 : ACode := .kp [0, 1, 2, 8, 9] (.reg [zM 17 9,zE 18 .add 17 1,zM 9 18])
def HD := @BM _ _ c32_k2.eq_1
def c32_k3 : ACode := .kp [0, 2, 8, 9, 11] (.reg [zM 67 11,zM 1 67])
def HL := @BM _ _ c32_k3.eq_1
def c32_k4 : ACode := .kp [0, 2, 8, 9, 11, 12] (.seq (.seq (.reg [zM 63 12,zE 64 .neq 63 0]) (.kp [0, 2, 8, 9, 11, 12, 64] (.cond (.t 64) (.seq (.reg [zM 65 11,zM 66 12,zM 6 65,zM 7 66]) (.ret)) (.skip)))) (c32_k3))
def HX := @BM _ _ c32_k4.eq_1
def c32_k5 : ACode := .kp [0, 1, 2, 9] (.seq (.reg [zM 31 0,zM 32 9,⟨some 33, .iaddr 7 (some 7) (.t 31) (.t 32), none⟩,zF 34 33 0,zL 35 34,zM 8 35]) (.kp [0, 1, 2, 8, 9] (.seq (.reg [zM 37 0,zM 38 9,⟨some 39, .iaddr 7 (some 7) (.t 37) (.t 38), none⟩,zF 40 39 5,zL 41 40,zM 42 1,zE 43 .add 42 1,zM 44 2,zE 45 .add 44 1,⟨some 46, .callp 32 [(.t 41), (.t 43), (.t 45)], none⟩,zM 36 46,zX 47 36 0,zX 48 36 1,zM 11 47,zM 12 48]) (.kp [0, 2, 8, 9, 11, 12] (.seq (.seq (.reg [zM 49 12,zE 50 .eql 49 0]) (.kp [0, 2, 8, 9, 11, 12, 50] (.cond (.t 50) (.reg [zM 52 0,zM 53 9,⟨some 54, .iaddr 7 (some 7) (.t 52) (.t 53), none⟩,zF 55 54 6,zL 56 55,zM 57 11,zM 58 2,zE 59 .add 58 1,⟨some 60, .callp 32 [(.t 56), (.t 57), (.t 59)], none⟩,zM 51 60,zX 61 51 0,zX 62 51 1,zM 11 61,zM 12 62]) (.skip)))) (c32_k4))))))
def Hb := @BM _ _ c32_k5.eq_1
def c32_k6 : ACode := .kp [0, 1, 2, 8, 9] (.seq (.block 1 (.seq (.seq (.reg [zM 19 0,zM 20 9,⟨some 21, .iaddr 7 (some 7) (.t 19) (.t 20), none⟩,zG 22 7 21,zM 23 8,zM 24 1,zM 25 2,⟨some 26, .callp 66 [(.t 22), (.t 23), (.t 24), (.t 25)], none⟩,zM 10 26]) (.kp [0, 1, 2, 9, 10] (.seq (.reg [zM 27 10,zE 28 .neq 27 0]) (.kp [0, 1, 2, 9, 10, 28] (.cond (.t 28) (.seq (.reg [zM 29 1,zM 30 10,zM 6 29,zM 7 30]) (.ret)) (.skip)))))) (c32_k5))) (c32_k2))
def HB := @BM _ _ c32_k6.eq_1
def c32_L7 : ACode := .ke [0, 1, 2, 8, 9] (.seq (.seq (.reg [zM 13 9,zM 14 0,zY 15 14,zD 16 .lss 13 15]) (.kp [0, 1, 2, 8, 9, 16] (.cond (.t 16) (.skip) (.exit 0)))) (c32_k6))
def HR := @BM _ _ c32_L7.eq_1
def c32 : AFun := ⟨3, 69, [.tmp 6, .tmp 7], .seq (.reg [zI 6 0,zI 7 0]) (.kp [0, 1, 2] (.seq (.reg [zI 8 0]) (.kp [0, 1, 2, 8] (.seq (.seq (.reg [zI 9 0]) (.kp [0, 1, 2, 8, 9] (.block 0 (.kp [0, 1, 2, 8, 9] (.loop c32_L7))))) (c32_k1)))))⟩
theorem A57 : FB Tryz.prog GB Tryz.f32 = FG c32 := by kernel_rfl
def c12_k1 : ACode := .kp [2] (.seq (.reg [⟨some 20, .callp 27 [(.c (.int .i64 0)), (.c (.int .i64 0))], none⟩,zS 2 2 20]) (.ret))
def Mz := @BM _ _ c12_k1.eq_1
def c12_k2 : ACode := .kp [0, 2] (.seq (.seq (.reg [zM 15 0,zV 16 15 15,⟨some 17, .lenS (.t 16), none⟩,zE 18 .gtr 17 4000]) (.kp [2, 18] (.cond (.t 18) (.seq (.reg [⟨some 19, .callp 27 [(.c (.int .i64 14)), (.c (.int .i64 (-1)))], none⟩,zS 2 2 19]) (.ret)) (.skip)))) (c12_k1))
def Mv := @BM _ _ c12_k2.eq_1
def c12 : AFun := ⟨1, 21, [.cell 2 (some 2)], .seq (.reg [⟨some 2, .alloc 24 [(.int .i64 0), (.int .i64 0)], none⟩]) (.kp [0, 2] (.seq (.reg [zM 6 0,⟨some 7, .callp 32 [(.t 6), (.c (.int .i64 0)), (.c (.int .i64 0))], none⟩,zM 5 7,zX 8 5 0,zX 9 5 1,zM 3 8,zM 4 9]) (.kp [0, 2, 3, 4] (.seq (.seq (.reg [zM 10 4,zE 11 .neq 10 0]) (.kp [0, 2, 3, 4, 11] (.cond (.t 11) (.seq (.reg [zM 12 4,zM 13 3,zW 14 27 12 13,zS 2 2 14]) (.ret)) (.skip)))) (c12_k2)))))⟩
theorem Yf : FB Tryz.prog GB Tryz.f12 = FG c12 := by kernel_rfl
def c15_k1 : ACode := .kp [3] (.seq (.reg [zM 142 3,zM 2 142]) (.ret))
def BH := @BM _ _ c15_k1.eq_1
def c15_k2 : ACode := .kp [0, 3, 4] (.reg [zM 13 4,zE 14 .add 13 1,zM 4 14])
def B9 := @BM _ _ c15_k2.eq_1
def c15_k3 : ACode := .kp [0, 3, 4] (.reg [zM 140 3,⟨some 141, .bin .add (.t 140) (.c (.str [60, 37, 101, 110, 100, 37, 62])), none⟩,zM 3 141])
def BF := @BM _ _ c15_k3.eq_1
def c15_k4 : ACode := .kp [0, 3, 4, 5] (.seq (.reg [zM 125 3,zF 126 5 5,zL 127 126,zV 128 15 127,zD 129 .add 125 128,zM 3 129]) (.kp [0, 3, 4, 5] (.seq (.seq (.reg [zF 130 5 6,zL 131 130,zY 132 131,zE 133 .gtr 132 0]) (.kp [0, 3, 4, 5, 133] (.cond (.t 133) (.reg [zM 134 3,⟨some 135, .bin .add (.t 134) (.c (.str [60, 37, 101, 108, 115, 101, 37, 62])), none⟩,zF 136 5 6,zL 137 136,zV 138 15 137,zD 139 .add 135 138,zM 3 139]) (.skip)))) (c15_k3))))
def BG := @BM _ _ c15_k4.eq_1
def c15_k5 : ACode := .kp [0, 3, 4, 5, 6] (.seq (.seq (.reg [zF 108 5 0,zL 109 108,zE 110 .eql 109 3]) (.kp [0, 3, 4, 5, 6, 110] (.cond (.t 110) (.reg [zM 111 3,⟨some 112, .bin .add (.t 111) (.c (.str [60, 37, 105, 102, 32])), none⟩,zM 113 6,zD 114 .add 112 113,⟨some 115, .bin .add (.t 114) (.c (.str [37, 62])), none⟩,zM 3 115]) (.reg [zM 116 3,⟨some 117, .bin .add (.t 116) (.c (.str [60, 37, 101, 97, 99, 104, 32])), none⟩,zF 118 5 2,zL 119 118,zD 120 .add 117 119,⟨some 121, .bin .add (.t 120) (.c (.str [32, 105, 110, 32])), none⟩,zM 122 6,zD 123 .add 121 122,⟨some 124, .bin .add (.t 123) (.c (.str [37, 62])), none⟩,zM 3 124])))) (c15_k4))
def BA := @BM _ _ c15_k5.eq_1
def c15_k6 : ACode := .kp [0, 3, 4] (.seq (.reg [zM 106 3,⟨some 107, .bin .add (.t 106) (.c (.str [37, 62])), none⟩,zM 3 107]) (.exit 1))
def BI := @BM _ _ c15_k6.eq_1
def c15_k7 : ACode := .kp [0, 3, 4, 5, 8] (.reg [zM 77 8,zE 78 .add 77 1,zM 8 78])
def BD := @BM _ _ c15_k7.eq_1
def c15_k8 : ACode := .kp [0, 3, 4, 5, 8] (.seq (.block 5 (.seq (.reg [zM 79 3,⟨some 80, .bin .add (.t 79) (.c (.str [124])), none⟩,zF 81 5 4,zL 82 81,zM 83 8,⟨some 84, .iaddr 2 (some 2) (.t 82) (.t 83), none⟩,zF 85 84 0,zL 86 85,zD 87 .add 80 86,zM 3 87]) (.kp [0, 3, 4, 5, 8] (.seq (.reg [zF 88 5 4,zL 89 88,zM 90 8,⟨some 91, .iaddr 2 (some 2) (.t 89) (.t 90), none⟩,zF 92 91 0,zL 93 92,zV 94 37 93,zE 95 .eql 94 2]) (.kp [0, 3, 4, 5, 8, 95] (.cond (.t 95) (.reg [zM 96 3,⟨some 97, .bin .add (.t 96) (.c (.str [32])), none⟩,zF 98 5 4,zL 99 98,zM 100 8,⟨some 101, .iaddr 2 (some 2) (.t 99) (.t 100), none⟩,zF 102 101 1,zL 103 102,zV 104 38 103,zD 105 .add 97 104,zM 3 105]) (.skip))))))) (c15_k7))
def BE := @BM _ _ c15_k8.eq_1
def c15_L9 : ACode := .ke [0, 3, 4, 5, 8] (.seq (.seq (.reg [zM 72 8,zF 73 5 4,zL 74 73,zY 75 74,zD 76 .lss 72 75]) (.kp [0, 3, 4, 5, 8, 76] (.cond (.t 76) (.skip) (.exit 4)))) (c15_k8))
def BB := @BM _ _ c15_L9.eq_1
def c15_t10 : ACode := .kp [0, 3, 4, 5, 6] (.seq (.reg [zM 68 3,⟨some 69, .bin .add (.t 68) (.c (.str [60, 37])), none⟩,zM 70 6,zD 71 .add 69 70,zM 3 71]) (.kp [0, 3, 4, 5] (.seq (.seq (.reg [zI 8 0]) (.kp [0, 3, 4, 5, 8] (.block 4 (.kp [0, 3, 4, 5, 8] (.loop c15_L9))))) (c15_k6))))
def Ac := @BM _ _ c15_t10.eq_1
def c15_k11 : ACode := .kp [0, 3, 4, 5, 6] (.seq (.seq (.reg [zF 65 5 0,zL 66 65,zE 67 .eql 66 2]) (.kp [0, 3, 4, 5, 6, 67] (.cond (.t 67) (c15_t10) (.skip)))) (c15_k5))
def Ad := @BM _ _ c15_k11.eq_1
def c15_k12 : ACode := .kp [0, 3, 4, 5, 7] (.reg [zM 30 7,zE 31 .add 30 1,zM 7 31])
def Ah := @BM _ _ c15_k12.eq_1
def c15_t13 : ACode := .kp [0, 3, 4, 5, 7] (.seq (.reg [zM 53 3,⟨some 54, .bin .add (.t 53) (.c (.str [60, 37, 111, 112, 101, 110, 37, 62])), none⟩,zM 3 54]) (.kp [0, 3, 4, 5, 7] (.reg [zM 55 7,zE 56 .add 55 1,zM 7 56])))
def Aj := @BM _ _ c15_t13.eq_1
def c15_k14 : ACode := .kp [0, 3, 4, 5, 7] (.seq (.block 3 (.seq (.segs [⟨none, [zM 32 7,zE 33 .add 32 1,zF 34 5 1,zL 35 34,⟨some 36, .lenS (.t 35), none⟩,zD 37 .lss 33 36,zM 38 37], none⟩,⟨some (38, true), [zF 39 5 1,zL 40 39,zM 41 7,⟨some 42, .sidx (.t 40) (.t 41), none⟩,⟨some 43, .bin .eql (.t 42) (.c (.int .u8 60)), none⟩], some (44, 43)⟩,⟨none, [zM 45 44], none⟩,⟨some (45, true), [zF 46 5 1,zL 47 46,zM 48 7,zE 49 .add 48 1,⟨some 50, .sidx (.t 47) (.t 49), none⟩,⟨some 51, .bin .eql (.t 50) (.c (.int .u8 37)), none⟩], some (52, 51)⟩]) (.kp [0, 3, 4, 5, 7, 52] (.cond (.t 52) (c15_t13) (.reg [zM 57 3,zF 58 5 1,zL 59 58,zM 60 7,zM 61 7,zE 62 .add 61 1,⟨some 63, .cutS (.t 59) (some (.t 60)) (some (.t 62)), none⟩,zD 64 .add 57 63,zM 3 64]))))) (c15_k12))
def Ak := @BM _ _ c15_k14.eq_1
def c15_L15 : ACode := .ke [0, 3, 4, 5, 7] (.seq (.seq (.reg [zM 25 7,zF 26 5 1,zL 27 26,⟨some 28, .lenS (.t 27), none⟩,zD 29 .lss 25 28]) (.kp [0, 3, 4, 5, 7, 29] (.cond (.t 29) (.skip) (.exit 2)))) (c15_k14))
def Af := @BM _ _ c15_L15.eq_1
def c15_t16 : ACode := .kp [0, 3, 4, 5] (.seq (.seq (.reg [zI 7 0]) (.kp [0, 3, 4, 5, 7] (.block 2 (.kp [0, 3, 4, 5, 7] (.loop c15_L15))))) (.exit 1))
def Ai := @BM _ _ c15_t16.eq_1
def c15_k17 : ACode := .kp [0, 3, 4] (.seq (.block 1 (.seq (.reg [zM 15 0,zM 16 4,⟨some 17, .iaddr 7 (some 7) (.t 15) (.t 16), none⟩,zG 18 7 17,⟨some 5, .alloc 55 [(.int .i64 0), (.str []), (.str []), (.sl 0 [] .nil), (.sl 0 [] .nil), (.sl 0 [] .nil), (.sl 0 [] .nil)], none⟩,zS 7 5 18]) (.kp [0, 3, 4, 5] (.seq (.reg [zF 19 5 3,zL 20 19,⟨some 21, .callp 36 [(.t 20), (.c (.str [46]))], none⟩,zM 6 21]) (.kp [0, 3, 4, 5, 6] (.seq (.seq (.reg [zF 22 5 0,zL 23 22,zE 24 .eql 23 1]) (.kp [0, 3, 4, 5, 6, 24] (.cond (.t 24) (c15_t16) (.skip)))) (c15_k11))))))) (c15_k2))
def Ag := @BM _ _ c15_k17.eq_1
def c15_L18 : ACode := .ke [0, 3, 4] (.seq (.seq (.reg [zM 9 4,zM 10 0,zY 11 10,zD 12 .lss 9 11]) (.kp [0, 3, 4, 12] (.cond (.t 12) (.skip) (.exit 0)))) (c15_k17))
def Ae := @BM _ _ c15_L18.eq_1
def SB : AFun := ⟨1, 143, [.tmp 2], .seq (.reg [⟨some 2, .mv (.c (.str [])), none⟩]) (.kp [0] (.seq (.reg [⟨some 3, .mv (.c (.str [])), none⟩]) (.kp [0, 3] (.seq (.seq (.reg [zI 4 0]) (.kp [0, 3, 4] (.block 0 (.kp [0, 3, 4] (.loop c15_L18))))) (c15_k1)))))⟩
theorem A5w : FB Tryz.prog GB Tryz.f15 = FG SB := by kernel_rfl
def A4u : ACode := .kp [0, 3] (.seq (.segs [⟨none, [zM 30 3,zM 31 0,zV 32 15 31,zD 33 .eql 30 32,zM 34 33], none⟩,⟨some (34, true), [⟨some 35, .callp 14 [], none⟩], none⟩,⟨none, [zP 36 34 35,zM 2 36], none⟩]) (.ret))
def A5l : ACode := .kp [0, 3, 5] (.seq (.seq (.reg [zF 22 5 0,zL 23 22,zE 24 .neq 23 0]) (.kp [0, 3, 24] (.cond (.t 24) (.seq (.segs [⟨none, [zM 25 3,⟨some 26, .bin .eql (.t 25) (.c (.str [])), none⟩,zM 27 26], none⟩,⟨some (27, true), [⟨some 28, .callp 14 [], none⟩], none⟩,⟨none, [zP 29 27 28,zM 2 29], none⟩]) (.ret)) (.skip)))) (A4u))
def c3 : AFun := ⟨1, 37, [.tmp 2], .seq (.reg [zB 2 false]) (.kp [0] (.seq (.reg [zM 7 0,zV 8 11 7,zM 6 8,zX 9 6 0,zX 10 6 1,⟨some 4, .alloc 24 [(.int .i64 0), (.int .i64 0)], none⟩,zM 3 9,zS 2 4 10]) (.kp [0, 3, 4] (.seq (.reg [zM 11 0,zV 12 12 11,⟨some 5, .alloc 24 [(.int .i64 0), (.int .i64 0)], none⟩,zS 2 5 12]) (.kp [0, 3, 4, 5] (.seq (.seq (.segs [⟨none, [zM 13 0,zV 14 13 13,zG 15 2 5,⟨some 16, .eqs [.i, .i] true (.t 14) (.t 15), none⟩,zM 17 16], none⟩,⟨some (17, false), [zG 18 2 4,zG 19 2 5,⟨some 20, .eqs [.i, .i] true (.t 18) (.t 19), none⟩], some (21, 20)⟩]) (.kp [0, 3, 5, 21] (.cond (.t 21) (.seq (.reg [zB 2 false]) (.ret)) (.skip)))) (A5l)))))))⟩
def A5t : List Nat := GB ++ [162]
theorem I6 {c d : ACode} (h : c = d) : ∀ {Q : AExit → AS → Prop} {e : AH} {n : Nat} {H : A3}, aw Tryz.prog c Q ⟨e, n, H⟩ = aw Tryz.prog d Q ⟨e, n, H⟩ := by intros; rw [h]
def c123_k1 : ACode := .kp [6] (.seq (.reg [zM 35 6,zM 2 35]) (.ret))
def Au := @I6 _ _ c123_k1.eq_1
def c123_k2 : ACode := .kp [6, 25, 26, 27] (.reg [zE 34 .add 27 1,zM 27 34])
def Ax := @I6 _ _ c123_k2.eq_1
def c123_k3 : ACode := .kp [6, 25, 26, 27] (.seq (.block 3 (.seq (.reg [zJ 29 1 25 27,zL 30 29,zM 8 30]) (.kp [6, 8, 25, 26, 27] (.reg [zM 31 6,zM 32 8,⟨some 33, .app 55 7 136 (.t 31) (.t 32), none⟩,zM 6 33])))) (c123_k2))
def As := @I6 _ _ c123_k3.eq_1
def c123_L4 : ACode := .ke [6, 25, 26, 27] (.seq (.reg [zD 28 .lss 27 26]) (.kp [6, 25, 26, 27, 28] (.seq (.cond (.t 28) (.skip) (.exit 2)) (c123_k3))))
def Ay := @I6 _ _ c123_L4.eq_1
def c123_k5 : ACode := .kp [0, 3] (.seq (.reg [zM 23 3,⟨some 24, .call 162 [(.c (.sl 0 [] .nil)), (.t 23)], none⟩,zM 6 24]) (.kp [0, 6] (.seq (.seq (.reg [zM 25 0,zY 26 25,zI 27 0]) (.kp [6, 25, 26, 27] (.block 2 (.kp [6, 25, 26, 27] (.loop c123_L4))))) (c123_k1))))
def B0 := @I6 _ _ c123_k5.eq_1
def c123_k6 : ACode := .kp [0, 3, 9, 10, 11] (.reg [zE 22 .add 11 1,zM 11 22])
def Az := @I6 _ _ c123_k6.eq_1
def c123_k7 : ACode := .kp [0, 3, 9, 10, 11] (.seq (.block 1 (.seq (.reg [zJ 13 1 9 11,zL 14 13,zM 5 14]) (.kp [0, 3, 5, 9, 10, 11] (.seq (.reg [zM 15 3,zM 16 5,zY 17 16,zD 18 .add 15 17,zM 3 18]) (.kp [0, 3, 9, 10, 11] (.seq (.reg [zM 19 3,zE 20 .lss 19 0]) (.kp [0, 3, 9, 10, 11, 20] (.cond (.t 20) (.reg [⟨none, .nope, none⟩,⟨none, .nope, none⟩]) (.skip))))))))) (c123_k6))
def Av := @I6 _ _ c123_k7.eq_1
def c123_L8 : ACode := .ke [0, 3, 9, 10, 11] (.seq (.reg [zD 12 .lss 11 10]) (.kp [0, 3, 9, 10, 11, 12] (.seq (.cond (.t 12) (.skip) (.exit 0)) (c123_k7))))
def Aw := @I6 _ _ c123_L8.eq_1
def Hu : AFun := ⟨1, 36, [.tmp 2], .seq (.reg [⟨some 2, .mv (.c (.sl 0 [] .nil)), none⟩]) (.kp [0] (.seq (.reg [zI 3 0]) (.kp [0, 3] (.seq (.seq (.reg [zM 9 0,zY 10 9,zI 11 0]) (.kp [0, 3, 9, 10, 11] (.block 0 (.kp [0, 3, 9, 10, 11] (.loop c123_L8))))) (c123_k5)))))⟩
theorem XY : FB Tryz.prog A5t Tryz.f123 = FG Hu := by kernel_rfl
def c80_k1 : ACode := .kp [3] (.seq (.reg [zM 22 3,zM 2 22]) (.ret))
def MV := @I6 _ _ c80_k1.eq_1
def c80_k2 : ACode := .kp [3, 11, 12, 13] (.reg [zE 21 .add 13 1,zM 13 21])
def Ml := @I6 _ _ c80_k2.eq_1
def c80_k3 : ACode := .kp [3, 11, 12, 13] (.seq (.block 1 (.seq (.reg [⟨some 15, .iaddr 7 (some 7) (.t 11) (.t 13), none⟩,zG 16 7 15,⟨some 5, .alloc 55 [(.int .i64 0), (.str []), (.str []), (.sl 0 [] .nil), (.sl 0 [] .nil), (.sl 0 [] .nil), (.sl 0 [] .nil)], none⟩,zS 7 5 16]) (.kp [3, 5, 11, 12, 13] (.reg [zM 17 3,zG 18 7 5,zV 19 80 18,zD 20 .add 17 19,zM 3 20])))) (c80_k2))
def Mn := @I6 _ _ c80_k3.eq_1
def c80_L4 : ACode := .ke [3, 11, 12, 13] (.seq (.reg [zD 14 .lss 13 12]) (.kp [3, 11, 12, 13, 14] (.seq (.cond (.t 14) (.skip) (.exit 0)) (c80_k3))))
def Mg := @I6 _ _ c80_L4.eq_1
def c80 : AFun := ⟨1, 23, [.tmp 2], .seq (.reg [zH 1 55 7 0,zI 2 0]) (.kp [1] (.seq (.reg [zI 3 1]) (.kp [1, 3] (.seq (.seq (.reg [zF 6 1 5,zL 7 6,zF 8 1 6,zL 9 8,⟨some 10, .bsl 22 none [(.t 7), (.t 9)], none⟩,zV 11 123 10,zY 12 11,zI 13 0]) (.kp [3, 11, 12, 13] (.block 0 (.kp [3, 11, 12, 13] (.loop c80_L4))))) (c80_k1)))))⟩
theorem A1k : FB Tryz.prog A5t Tryz.f80 = FG c80 := by kernel_rfl
def A4d : ACode := .kp [1, 2, 3, 10, 11, 12] (.reg [zE 61 .add 12 1,zM 12 61])
def A28 : ACode := .kp [1, 2, 3, 7, 9, 10, 11, 12] (.seq (.reg [zL 51 3,zF 52 7 5,zL 53 52,zM 54 9,⟨some 55, .callv (.t 51) [(.t 53), (.t 54)], none⟩]) (.kp [1, 2, 3, 7, 10, 11, 12] (.reg [zL 56 3,zF 57 7 6,zL 58 57,zM 59 1,⟨some 60, .callv (.t 56) [(.t 58), (.t 59)], none⟩])))
def A3o : ACode := .kp [1, 2, 3, 7, 10, 11, 12] (.seq (.reg [zM 41 1,zM 9 41]) (.kp [1, 2, 3, 7, 9, 10, 11, 12] (.seq (.seq (.reg [zF 42 7 0,zL 43 42,zE 44 .eql 43 4]) (.kp [1, 2, 3, 7, 9, 10, 11, 12, 44] (.cond (.t 44) (.regD .copy [] [zM 45 1,⟨some 46, .call 54 [(.t 45)], none⟩,zF 47 7 2,zL 48 47,⟨some 49, .bsl 9 none [(.t 48)], none⟩,⟨some 50, .app 9 1 16 (.t 46) (.t 49), none⟩,zM 9 50]) (.skip)))) (A28))))
def A4g : ACode := .kp [1, 2, 3, 10, 11, 12] (.seq (.block 1 (.seq (.reg [⟨some 14, .iaddr 7 (some 7) (.t 10) (.t 12), none⟩,zG 15 7 14,⟨some 7, .alloc 55 [(.int .i64 0), (.str []), (.str []), (.sl 0 [] .nil), (.sl 0 [] .nil), (.sl 0 [] .nil), (.sl 0 [] .nil)], none⟩,zS 7 7 15]) (.kp [1, 2, 3, 7, 10, 11, 12] (.seq (.reg [zF 16 7 3,zL 17 16,⟨some 18, .callp 52 [(.t 17), (.c (.str [46]))], none⟩,zM 8 18]) (.kp [1, 2, 3, 7, 8, 10, 11, 12] (.seq (.seq (.segs [⟨none, [zF 19 7 0,zL 20 19,zE 21 .neq 20 1,zM 22 21], none⟩,⟨some (22, true), [zM 23 1,zF 24 7 3,zL 25 24,⟨some 26, .iaddr 1 none (.t 25) (.c (.int .i64 0)), none⟩,zL 27 26,zW 28 53 23 27,zN 29 28], none⟩,⟨none, [zP 30 22 29,zM 31 30], none⟩,⟨some (31, true), [zL 32 2,zM 33 8,zW 34 53 32 33,zN 35 34], none⟩,⟨none, [zP 36 31 35], none⟩]) (.kp [1, 2, 3, 7, 8, 10, 11, 12, 36] (.cond (.t 36) (.reg [zL 37 2,zM 38 8,⟨some 39, .bsl 9 none [(.t 38)], none⟩,⟨some 40, .app 9 1 16 (.t 37) (.t 39), none⟩,zU 2 40]) (.skip)))) (A3o))))))) (A4d))
def A4e : ACode := .ke [1, 2, 3, 10, 11, 12] (.seq (.reg [zD 13 .lss 12 11]) (.kp [1, 2, 3, 10, 11, 12, 13] (.seq (.cond (.t 13) (.skip) (.exit 0)) (A4g))))
def c51 : AFun := ⟨4, 62, [], .seq (.reg [zM 10 0,zY 11 10,zI 12 0]) (.kp [1, 2, 3, 10, 11, 12] (.block 0 (.kp [1, 2, 3, 10, 11, 12] (.loop A4e))))⟩
def A53 : ACode := .kp [0, 3, 4] (.seq (.segs [⟨none, [zF 27 4 0,zL 28 27,zE 29 .eql 28 0,zM 30 29], none⟩,⟨some (30, true), [zM 31 3,zM 32 0,⟨some 33, .call 24 [(.c (.sl 0 [] .nil)), (.t 32), (.c (.sl 0 [] .nil))], none⟩,zW 34 23 31 33], none⟩,⟨none, [zP 35 30 34,zM 36 35], none⟩,⟨some (36, true), [⟨some 37, .callp 14 [], none⟩], none⟩,⟨none, [zP 38 36 37,zM 2 38], none⟩]) (.ret))
def c6 : AFun := ⟨1, 39, [.tmp 2], .seq (.reg [zB 2 false]) (.kp [0] (.seq (.reg [zM 7 0,zV 8 22 7,zM 6 8,zX 9 6 0,zX 10 6 1,⟨some 4, .alloc 24 [(.int .i64 0), (.int .i64 0)], none⟩,zM 3 9,zS 2 4 10]) (.kp [0, 3, 4] (.seq (.seq (.reg [zM 11 0,zV 12 12 11,⟨some 5, .alloc 24 [(.int .i64 0), (.int .i64 0)], none⟩,zS 2 5 12]) (.kp [0, 3, 4, 5] (.seq (.reg [zF 13 5 0,zL 14 13,zE 15 .neq 14 0]) (.kp [0, 3, 4, 5, 15] (.cond (.t 15) (.seq (.segs [⟨none, [zG 16 2 4,zG 17 2 5,⟨some 18, .eqs [.i, .i] false (.t 16) (.t 17), none⟩,zM 19 18], none⟩,⟨some (19, true), [zM 20 3,zY 21 20,zE 22 .eql 21 0], some (23, 22)⟩,⟨none, [zM 24 23], none⟩,⟨some (24, true), [⟨some 25, .callp 14 [], none⟩], none⟩,⟨none, [zP 26 24 25,zM 2 26], none⟩]) (.ret)) (.skip)))))) (A53)))))⟩
end Go.Proofs.YtnfjgphfaemjcaaGreatDoor
