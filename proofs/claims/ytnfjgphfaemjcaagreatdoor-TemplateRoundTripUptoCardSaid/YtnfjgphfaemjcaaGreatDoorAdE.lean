/- The code of some functions on plain data, by program, and that it is what the program's text gives; no condition. -/
import Derived.Test.YtnfjgphfaemjcaaGreatDoorMgD
import Derived.Test.YtnfjgphfaemjcaaGreatDoorProg
import Derived.KernelRfl
set_option linter.all false
set_option linter.unusedSimpArgs false
set_option linter.unusedVariables false
namespace Go.Proofs.YtnfjgphfaemjcaaGreatDoor
def K6 : List Nat := [33, 40, 42, 70, 72, 74, 46, 79, 118, 119, 122, 51, 47, 61, 62, 90, 129, 101, 136, 166, 164, 138, 147, 179, 148, 64, 60, 99, 100, 137, 78, 157, 209, 181, 182, 177]
theorem FS {P : Program} {c d : ACode} (h : c = d) {Q : AExit → AS → Prop} {e : AL} {n : Nat} {H : A2} : aw P c Q ⟨e, n, H⟩ = aw P d Q ⟨e, n, H⟩ := by rw [h]
def c47 : AFun := { nargs := 1, nt := 14, res := [.tmp 2], code := .seq (.reg [⟨some 2, .mv (.c (.str [])), none⟩]) (.kp [0] (.seq (.reg [zM 3 0,zZ 4 3,zF 5 4 1,zL 6 5,⟨some 7, .usd 5 (.t 6), none⟩,zM 8 0,zZ 9 8,zF 10 9 1,zL 11 10,zY 12 11,⟨some 13, .ust 5 (.t 7) (.t 12), none⟩,zM 2 13]) (.ret))) }
theorem ZB : (C4 Tryz.prog K6 Tryz.f47).map (fun x => (x.nargs, x.nt, x.res, x.code)) = some (c47.nargs, c47.nt, c47.res, bare c47.code) := by kernel_rfl
def c62 : AFun := { nargs := 2, nt := 19, res := [.tmp 4, .tmp 5], code := .seq (.reg [zI 4 0,⟨some 5, .mv (.c .nif), none⟩]) (.kp [0, 1] (.seq (.reg [zM 6 0,⟨some 7, .call 101 [(.t 6)], none⟩]) (.kp [0, 1] (.seq (.reg [zM 8 0,zM 9 0,zZ 10 9,zF 11 10 1,zL 12 11,zM 13 1,⟨some 14, .appB 5 1 (.t 12) (.t 13), none⟩,zZ 15 8,zF 16 15 1,zU 16 14]) (.kp [1] (.seq (.reg [zM 17 1,⟨some 18, .lenS (.t 17), none⟩,zM 4 18,⟨some 5, .mv (.c .nif), none⟩]) (.ret))))))) }
theorem Z5 : (C4 Tryz.prog K6 Tryz.f62).map (fun x => (x.nargs, x.nt, x.res, x.code)) = some (c62.nargs, c62.nt, c62.res, bare c62.code) := by kernel_rfl
def SV : ACode := .kp [0] (.seq (.reg [zM 14 0,zZ 15 14,zF 16 15 0,zL 17 16,zM 18 0,⟨some 19, .eqpp true (.t 17) (.t 18), none⟩]) (.kp [19] (.cond (.t 19) (.bad) (.skip))))
def c101 : AFun := { nargs := 1, nt := 20, res := [], code := .seq (.reg [zM 2 0,zZ 3 2,zF 4 3 0,zL 5 4,⟨some 6, .eqp false (.t 5), none⟩]) (.kp [0, 6] (.cond (.t 6) (.reg [zM 7 0,zM 8 0,⟨some 9, .upc (.t 8), none⟩,zM 10 9,⟨some 11, .updn 86 (.t 10), none⟩,zZ 12 7,zF 13 12 0,zU 13 11]) (SV))) }
theorem Xa : (C4 Tryz.prog K6 Tryz.f101).map (fun x => (x.nargs, x.nt, x.res, x.code)) = some (c101.nargs, c101.nt, c101.res, bare c101.code) := by kernel_rfl
def c147 : AFun := { nargs := 2, nt := 9, res := [.tmp 4], code := .seq (.reg [zB 4 false]) (.kp [0, 1] (.seq (.reg [zM 5 0,zM 6 1,⟨some 7, .call 179 [(.t 5), (.t 6)], none⟩,zE 8 .geq 7 0,zM 4 8]) (.ret))) }
theorem YV : (C4 Tryz.prog K6 Tryz.f147).map (fun x => (x.nargs, x.nt, x.res, x.code)) = some (c147.nargs, c147.nt, c147.res, bare c147.code) := by kernel_rfl
def c179_k1 : ACode := .kp [] (.seq (.reg [zI 4 (-1)]) (.ret))
def HF {Q e n H} := @FS Tryz.prog _ _ c179_k1.eq_1 Q e n H
def c179_k2 : ACode := .kp [0, 1, 7, 8] (.reg [zE 18 .add 8 1,zM 8 18])
def HB {Q e n H} := @FS Tryz.prog _ _ c179_k2.eq_1 Q e n H
def c179_k3 : ACode := .kp [0, 1, 7, 8] (.seq (.block 1 (.seq (.reg [zM 10 8,zM 5 10]) (.kp [0, 1, 5, 7, 8] (.seq (.reg [zM 11 1,zM 12 0,zM 13 5,zJ 14 1 12 13,zL 15 14,⟨some 16, .callv (.t 11) [(.t 15)], none⟩]) (.kp [0, 1, 5, 7, 8, 16] (.cond (.t 16) (.seq (.reg [zM 17 5,zM 4 17]) (.ret)) (.skip))))))) (c179_k2))
def H5 {Q e n H} := @FS Tryz.prog _ _ c179_k3.eq_1 Q e n H
def c179_L4 : ACode := .ke [0, 1, 7, 8] (.seq (.reg [zD 9 .lss 8 7]) (.kp [0, 1, 7, 8, 9] (.seq (.cond (.t 9) (.skip) (.exit 0)) (c179_k3))))
def H4 {Q e n H} := @FS Tryz.prog _ _ c179_L4.eq_1 Q e n H
def c179 : AFun := { nargs := 2, nt := 19, res := [.tmp 4], code := .seq (.reg [zI 4 0]) (.kp [0, 1] (.seq (.seq (.reg [zM 6 0,zY 7 6,zI 8 0]) (.kp [0, 1, 7, 8] (.block 0 (.kp [0, 1, 7, 8] (.loop c179_L4))))) (c179_k1))) }
theorem Xz : (C4 Tryz.prog K6 Tryz.f179).map (fun x => (x.nargs, x.nt, x.res, x.code)) = some (c179.nargs, c179.nt, c179.res, bare c179.code) := by kernel_rfl
def c53 : AFun := { nargs := 2, nt := 9, res := [.tmp 4], code := .seq (.reg [zB 4 false]) (.kp [0, 1] (.seq (.reg [zM 5 0,zM 6 1,zW 7 91 5 6,zE 8 .geq 7 0,zM 4 8]) (.ret))) }
theorem Zc : (C4 Tryz.prog K6 Tryz.f53).map (fun x => (x.nargs, x.nt, x.res, x.code)) = some (c53.nargs, c53.nt, c53.res, bare c53.code) := by kernel_rfl
def c91_k1 : ACode := .kp [] (.seq (.reg [zI 4 (-1)]) (.ret))
def O8 {Q e n H} := @FS Tryz.prog _ _ c91_k1.eq_1 Q e n H
def c91_k2 : ACode := .kp [0, 1, 7, 8] (.reg [zE 18 .add 8 1,zM 8 18])
def OK {Q e n H} := @FS Tryz.prog _ _ c91_k2.eq_1 Q e n H
def c91_k3 : ACode := .kp [0, 1, 7, 8] (.seq (.block 1 (.seq (.reg [zM 10 8,zM 5 10]) (.kp [0, 1, 5, 7, 8] (.seq (.reg [zM 11 1,zM 12 0,zM 13 5,zJ 14 1 12 13,zL 15 14,zD 16 .eql 11 15]) (.kp [0, 1, 5, 7, 8, 16] (.cond (.t 16) (.seq (.reg [zM 17 5,zM 4 17]) (.ret)) (.skip))))))) (c91_k2))
def Ny {Q e n H} := @FS Tryz.prog _ _ c91_k3.eq_1 Q e n H
def c91_L4 : ACode := .ke [0, 1, 7, 8] (.seq (.reg [zD 9 .lss 8 7]) (.kp [0, 1, 7, 8, 9] (.seq (.cond (.t 9) (.skip) (.exit 0)) (c91_k3))))
def OD {Q e n H} := @FS Tryz.prog _ _ c91_L4.eq_1 Q e n H
def c91 : AFun := { nargs := 2, nt := 19, res := [.tmp 4], code := .seq (.reg [zI 4 0]) (.kp [0, 1] (.seq (.seq (.reg [zM 6 0,zY 7 6,zI 8 0]) (.kp [0, 1, 7, 8] (.block 0 (.kp [0, 1, 7, 8] (.loop c91_L4))))) (c91_k1))) }
theorem Zl : (C4 Tryz.prog K6 Tryz.f91).map (fun x => (x.nargs, x.nt, x.res, x.code)) = some (c91.nargs, c91.nt, c91.res, bare c91.code) := by kernel_rfl
def c23_k1 : ACode := .kp [] (.seq (.reg [zB 4 true]) (.ret))
def OO {Q e n H} := @FS Tryz.prog _ _ c23_k1.eq_1 Q e n H
def c23_k2 : ACode := .kp [0, 1, 5] (.reg [zM 15 5,zE 16 .add 15 1,zM 5 16])
def Nv {Q e n H} := @FS Tryz.prog _ _ c23_k2.eq_1 Q e n H
def c23_k3 : ACode := .kp [0, 1, 5] (.seq (.block 1 (.seq (.reg [zM 17 0,zM 18 5,zJ 19 1 17 18,zL 20 19,zM 21 1,zM 22 5,zJ 23 1 21 22,zL 24 23,zD 25 .neq 20 24]) (.kp [0, 1, 5, 25] (.cond (.t 25) (.seq (.reg [zB 4 false]) (.ret)) (.skip))))) (c23_k2))
def OR {Q e n H} := @FS Tryz.prog _ _ c23_k3.eq_1 Q e n H
def c23_L4 : ACode := .ke [0, 1, 5] (.seq (.seq (.reg [zM 11 5,zM 12 0,zY 13 12,zD 14 .lss 11 13]) (.kp [0, 1, 5, 14] (.cond (.t 14) (.skip) (.exit 0)))) (c23_k3))
def OI {Q e n H} := @FS Tryz.prog _ _ c23_L4.eq_1 Q e n H
def c23_k5 : ACode := .kp [0, 1] (.seq (.seq (.reg [zI 5 0]) (.kp [0, 1, 5] (.block 0 (.kp [0, 1, 5] (.loop c23_L4))))) (c23_k1))
def O0 {Q e n H} := @FS Tryz.prog _ _ c23_k5.eq_1 Q e n H
def c23 : AFun := { nargs := 2, nt := 26, res := [.tmp 4], code := .seq (.reg [zB 4 false]) (.kp [0, 1] (.seq (.seq (.reg [zM 6 0,zY 7 6,zM 8 1,zY 9 8,zD 10 .neq 7 9]) (.kp [0, 1, 10] (.cond (.t 10) (.seq (.reg [zB 4 false]) (.ret)) (.skip)))) (c23_k5))) }
theorem ZC : (C4 Tryz.prog K6 Tryz.f23).map (fun x => (x.nargs, x.nt, x.res, x.code)) = some (c23.nargs, c23.nt, c23.res, bare c23.code) := by kernel_rfl
def c143 : AFun := { nargs := 1, nt := 19, res := [.tmp 2], code := .seq (.reg [zB 2 false]) (.kp [0] (.seq (.reg [zM 6 0,zV 7 116 6,zM 5 7,zX 8 5 0,zX 9 5 1,zM 3 8,zM 4 9]) (.kp [3, 4] (.seq (.segs [⟨none, [zM 10 4,zM 11 10], none⟩,⟨some (11, true), [zM 12 3,zE 13 .geq 12 0], some (14, 13)⟩,⟨none, [zM 15 14], none⟩,⟨some (15, true), [zM 16 3,zE 17 .leq 16 999], some (18, 17)⟩,⟨none, [zM 2 18], none⟩]) (.ret))))) }
def Xb : ACode := .kp [] (.seq (.reg [zI 2 0]) (.ret))
def Xj : ACode := .kp [0] (.seq (.seq (.segs [⟨none, [zM 17 0,⟨some 18, .bin .eql (.t 17) (.c (.str [112, 97, 100])), none⟩,zM 19 18], none⟩,⟨some (19, false), [zM 20 0,⟨some 21, .bin .eql (.t 20) (.c (.str [114, 105, 103, 104, 116])), none⟩], some (22, 21)⟩,⟨none, [zM 23 22], none⟩,⟨some (23, false), [zM 24 0,⟨some 25, .bin .eql (.t 24) (.c (.str [99, 117, 116])), none⟩], some (26, 25)⟩]) (.kp [26] (.cond (.t 26) (.seq (.reg [zI 2 2]) (.ret)) (.skip)))) (Xb))
def c37 : AFun := { nargs := 1, nt := 27, res := [.tmp 2], code := .seq (.reg [zI 2 0]) (.kp [0] (.seq (.seq (.segs [⟨none, [zM 3 0,⟨some 4, .bin .eql (.t 3) (.c (.str [117, 112, 112, 101, 114])), none⟩,zM 5 4], none⟩,⟨some (5, false), [zM 6 0,⟨some 7, .bin .eql (.t 6) (.c (.str [108, 111, 119, 101, 114])), none⟩], some (8, 7)⟩,⟨none, [zM 9 8], none⟩,⟨some (9, false), [zM 10 0,⟨some 11, .bin .eql (.t 10) (.c (.str [116, 114, 105, 109])), none⟩], some (12, 11)⟩,⟨none, [zM 13 12], none⟩,⟨some (13, false), [zM 14 0,⟨some 15, .bin .eql (.t 14) (.c (.str [106, 115, 111, 110])), none⟩], some (16, 15)⟩]) (.kp [0, 16] (.cond (.t 16) (.seq (.reg [zI 2 1]) (.ret)) (.skip)))) (Xj))) }
theorem Ac {P : Program} {c d : ACode} (h : c = d) {Q : AExit → AS → Prop} {e : AL} {n : Nat} {H : A2} : aw P c Q ⟨e, n, H⟩ = aw P d Q ⟨e, n, H⟩ := by rw [h]
def c146 : AFun := { nargs := 0, nt := 2, res := [.tmp 0], code := .seq (.reg [⟨some 0, .mv (.c (.sl 0 [] .nil)), none⟩]) (.kp [] (.seq (.reg [⟨some 1, .callp 178 [(.c (.str [105, 102, 32, 101, 97, 99, 104, 32, 105, 110, 32, 101, 108, 115, 101, 32, 101, 110, 100, 32, 111, 112, 101, 110]))], none⟩,zM 0 1]) (.ret))) }
theorem Yg : (C4 Tryz.prog K6 Tryz.f146).map (fun x => (x.nargs, x.nt, x.res, x.code)) = some (c146.nargs, c146.nt, c146.res, bare c146.code) := by kernel_rfl
def c64 : AFun := { nargs := 0, nt := 3, res := [.tmp 0], code := .seq (.reg [⟨some 0, .mv (.c .nmp), none⟩]) (.kp [] (.seq (.reg [⟨some 1, .mkmap none, none⟩,⟨none, .mset none (.t 1) (.c (.str [117, 112, 112, 101, 114])) (.c (.bool false)), none⟩,⟨none, .mset none (.t 1) (.c (.str [108, 111, 119, 101, 114])) (.c (.bool false)), none⟩,⟨none, .mset none (.t 1) (.c (.str [116, 114, 105, 109])) (.c (.bool false)), none⟩,⟨none, .mset none (.t 1) (.c (.str [106, 115, 111, 110])) (.c (.bool false)), none⟩,⟨none, .mset none (.t 1) (.c (.str [112, 97, 100])) (.c (.bool true)), none⟩,⟨none, .mset none (.t 1) (.c (.str [114, 105, 103, 104, 116])) (.c (.bool true)), none⟩,⟨none, .mset none (.t 1) (.c (.str [99, 117, 116])) (.c (.bool true)), none⟩,zM 2 1,zM 0 2]) (.ret))) }
theorem Zs : (C4 Tryz.prog K6 Tryz.f64).map (fun x => (x.nargs, x.nt, x.res, x.code)) = some (c64.nargs, c64.nt, c64.res, bare c64.code) := by kernel_rfl
def c144 : AFun := { nargs := 1, nt := 21, res := [.tmp 2], code := .seq (.reg [zB 2 false]) (.kp [0] (.seq (.segs [⟨none, [zM 3 0,⟨some 4, .bin .geq (.t 3) (.c (.int .u8 97)), none⟩,zM 5 4], none⟩,⟨some (5, true), [zM 6 0,⟨some 7, .bin .leq (.t 6) (.c (.int .u8 122)), none⟩], some (8, 7)⟩,⟨none, [zM 9 8], none⟩,⟨some (9, false), [zM 10 0,⟨some 11, .bin .geq (.t 10) (.c (.int .u8 65)), none⟩,zM 12 11], none⟩,⟨some (12, true), [zM 13 0,⟨some 14, .bin .leq (.t 13) (.c (.int .u8 90)), none⟩], none⟩,⟨some (9, false), [zP 15 12 14], some (16, 15)⟩,⟨none, [zM 17 16], none⟩,⟨some (17, false), [zM 18 0,⟨some 19, .bin .eql (.t 18) (.c (.int .u8 95)), none⟩], some (20, 19)⟩,⟨none, [zM 2 20], none⟩]) (.ret))) }
theorem Yf : (C4 Tryz.prog K6 Tryz.f144).map (fun x => (x.nargs, x.nt, x.res, x.code)) = some (c144.nargs, c144.nt, c144.res, bare c144.code) := by kernel_rfl
def c145 : AFun := { nargs := 1, nt := 9, res := [.tmp 2], code := .seq (.reg [zB 2 false]) (.kp [0] (.seq (.segs [⟨none, [zM 3 0,⟨some 4, .bin .geq (.t 3) (.c (.int .u8 48)), none⟩,zM 5 4], none⟩,⟨some (5, true), [zM 6 0,⟨some 7, .bin .leq (.t 6) (.c (.int .u8 57)), none⟩], some (8, 7)⟩,⟨none, [zM 2 8], none⟩]) (.ret))) }
theorem YM : (C4 Tryz.prog K6 Tryz.f145).map (fun x => (x.nargs, x.nt, x.res, x.code)) = some (c145.nargs, c145.nt, c145.res, bare c145.code) := by kernel_rfl
def c107_k1 : ACode := .kp [0] (.seq (.segs [⟨none, [zM 26 0,⟨some 27, .bin .neq (.t 26) (.c (.str [])), none⟩,zM 28 27], none⟩,⟨some (28, true), [zM 29 0,⟨some 30, .lenS (.t 29), none⟩,zE 31 .leq 30 24], some (32, 31)⟩,⟨none, [zM 33 32], none⟩,⟨some (33, true), [⟨some 34, .callp 146 [], none⟩,zM 35 0,zW 36 53 34 35,zN 37 36], none⟩,⟨none, [zP 38 33 37,zM 2 38], none⟩]) (.ret))
def Cu {Q e n H} := @Ac Tryz.prog _ _ c107_k1.eq_1 Q e n H
def c107_k2 : ACode := .kp [0, 5, 6] (.reg [zE 25 .add 6 1,zM 6 25])
def D1 {Q e n H} := @Ac Tryz.prog _ _ c107_k2.eq_1 Q e n H
def c107_k3 : ACode := .kp [0, 5, 6] (.seq (.block 1 (.seq (.reg [zM 8 6,zM 3 8]) (.kp [0, 3, 5, 6] (.seq (.segs [⟨none, [zM 9 0,zM 10 3,⟨some 11, .sidx (.t 9) (.t 10), none⟩,zV 12 144 11,zN 13 12,zM 14 13], none⟩,⟨some (14, true), [zM 15 3,zE 16 .eql 15 0,zM 17 16], none⟩,⟨some (17, false), [zM 18 0,zM 19 3,⟨some 20, .sidx (.t 18) (.t 19), none⟩,zV 21 145 20,zN 22 21], none⟩,⟨some (14, true), [zO 23 17 22], some (24, 23)⟩]) (.kp [0, 5, 6, 24] (.cond (.t 24) (.seq (.reg [zB 2 false]) (.ret)) (.skip))))))) (c107_k2))
def Ct {Q e n H} := @Ac Tryz.prog _ _ c107_k3.eq_1 Q e n H
def c107_L4 : ACode := .ke [0, 5, 6] (.seq (.reg [zD 7 .lss 6 5]) (.kp [0, 5, 6, 7] (.seq (.cond (.t 7) (.skip) (.exit 0)) (c107_k3))))
def D0 {Q e n H} := @Ac Tryz.prog _ _ c107_L4.eq_1 Q e n H
def c107 : AFun := { nargs := 1, nt := 39, res := [.tmp 2], code := .seq (.reg [zB 2 false]) (.kp [0] (.seq (.seq (.reg [zM 4 0,⟨some 5, .lenS (.t 4), none⟩,zI 6 0]) (.kp [0, 5, 6] (.block 0 (.kp [0, 5, 6] (.loop c107_L4))))) (c107_k1))) }
theorem Xh : (C4 Tryz.prog K6 Tryz.f107).map (fun x => (x.nargs, x.nt, x.res, x.code)) = some (c107.nargs, c107.nt, c107.res, bare c107.code) := by kernel_rfl
def c114 : AFun := { nargs := 2, nt := 30, res := [.tmp 4], code := .seq (.reg [zB 4 false]) (.kp [0, 1] (.seq (.reg [zM 8 0,zV 9 115 8,zM 7 9,zX 10 7 0,zX 11 7 1,zM 5 10,zM 6 11]) (.kp [0, 1, 5, 6] (.seq (.segs [⟨none, [zM 12 6,⟨some 13, .eqi false (.t 12), none⟩,zM 14 13], none⟩,⟨some (14, true), [zM 15 0,⟨some 16, .lenS (.t 15), none⟩,zM 17 1,zD 18 .leq 16 17], some (19, 18)⟩,⟨none, [zM 20 19], none⟩,⟨some (20, true), [zM 21 5,zE 22 .geq 21 0], some (23, 22)⟩,⟨none, [zM 24 23], none⟩,⟨some (24, true), [zM 25 5,zV 26 65 25,zM 27 0,zD 28 .eql 26 27], none⟩,⟨none, [zP 29 24 28,zM 4 29], none⟩]) (.ret))))) }
theorem SB : (C4 Tryz.prog K6 Tryz.f114).map (fun x => (x.nargs, x.nt, x.res, x.code)) = some (c114.nargs, c114.nt, c114.res, bare c114.code) := by kernel_rfl
def c108_k1 : ACode := .kp [0] (.seq (.reg [zM 18 0,⟨some 19, .call 147 [(.t 18), (.c (.fn 148 [] []))], none⟩,zN 20 19,zM 2 20]) (.ret))
def EJ {Q e n H} := @Ac Tryz.prog _ _ c108_k1.eq_1 Q e n H
def c108 : AFun := { nargs := 1, nt := 21, res := [.tmp 2], code := .seq (.reg [zB 2 false]) (.kp [0] (.seq (.seq (.segs [⟨none, [zM 3 0,zY 4 3,zE 5 .eql 4 0,zM 6 5], none⟩,⟨some (6, false), [zM 7 0,zY 8 7,zE 9 .gtr 8 8], some (10, 9)⟩,⟨none, [zM 11 10], none⟩,⟨some (11, false), [zM 12 0,⟨some 13, .iaddr 1 none (.t 12) (.c (.int .i64 0)), none⟩,zL 14 13,zV 15 107 14,zN 16 15], none⟩,⟨none, [zO 17 11 16], none⟩]) (.kp [0, 17] (.cond (.t 17) (.seq (.reg [zB 2 false]) (.ret)) (.skip)))) (c108_k1))) }
theorem V2 : (C4 Tryz.prog K6 Tryz.f108).map (fun x => (x.nargs, x.nt, x.res, x.code)) = some (c108.nargs, c108.nt, c108.res, bare c108.code) := by kernel_rfl
def c148 : AFun := { nargs := 1, nt := 11, res := [.tmp 2], code := .seq (.reg [zB 2 false]) (.kp [0] (.seq (.segs [⟨none, [zM 3 0,zV 4 107 3,zN 5 4,zM 6 5], none⟩,⟨some (6, true), [zM 7 0,⟨some 8, .callp 114 [(.t 7), (.c (.int .i64 3))], none⟩,zN 9 8], none⟩,⟨none, [zP 10 6 9,zM 2 10], none⟩]) (.ret))) }
theorem Yr : (C4 Tryz.prog K6 Tryz.f148).map (fun x => (x.nargs, x.nt, x.res, x.code)) = some (c148.nargs, c148.nt, c148.res, bare c148.code) := by kernel_rfl
def c67_k1 : ACode := .kp [] (.seq (.reg [zI 6 0]) (.ret))
def Fg {Q e n H} := @Ac Tryz.prog _ _ c67_k1.eq_1 Q e n H
def c67_k2 : ACode := .kp [30] (.cond (.t 30) (.seq (.reg [zI 6 6]) (.ret)) (.skip))
def FV {Q e n H} := @Ac Tryz.prog _ _ c67_k2.eq_1 Q e n H
def c67_e3 : ACode := .kp [3, 7, 8] (.seq (.segs [⟨none, [zM 51 8,zN 52 51,zM 53 52], none⟩,⟨some (53, true), [zF 54 3 4,zL 55 54,zY 56 55,zE 57 .gtr 56 0], some (58, 57)⟩,⟨none, [zM 30 58], none⟩]) (.kp [3, 7, 8, 30] (.cond (.t 30) (.skip) (.segs [⟨none, [zM 59 7,zM 60 59], none⟩,⟨some (60, false), [zM 61 8], some (62, 61)⟩,⟨none, [zM 63 62], none⟩,⟨some (63, true), [zF 64 3 5,zL 65 64,zY 66 65,zF 67 3 6,zL 68 67,zY 69 68,zD 70 .add 66 69,zE 71 .gtr 70 0], some (72, 71)⟩,⟨none, [zM 30 72], none⟩]))))
def FN {Q e n H} := @Ac Tryz.prog _ _ c67_e3.eq_1 Q e n H
def c67_e4 : ACode := .kp [3, 7, 8] (.seq (.segs [⟨none, [zM 44 7,zM 45 44], none⟩,⟨some (45, true), [zF 46 3 3,zL 47 46,zY 48 47,zE 49 .gtr 48 0], some (50, 49)⟩,⟨none, [zM 30 50], none⟩]) (.kp [3, 7, 8, 30] (.cond (.t 30) (.skip) (c67_e3))))
def FH {Q e n H} := @Ac Tryz.prog _ _ c67_e4.eq_1 Q e n H
def c67_e5 : ACode := .kp [3, 7, 8] (.seq (.segs [⟨none, [zF 36 3 0,zL 37 36,zE 38 .neq 37 4,zM 39 38], none⟩,⟨some (39, true), [zF 40 3 2,zL 41 40,⟨some 42, .bin .neq (.t 41) (.c (.str [])), none⟩], some (43, 42)⟩,⟨none, [zM 30 43], none⟩]) (.kp [3, 7, 8, 30] (.cond (.t 30) (.skip) (c67_e4))))
def FZ {Q e n H} := @Ac Tryz.prog _ _ c67_e5.eq_1 Q e n H
def c67_e6 : ACode := .kp [3, 7, 8] (.seq (.seq (.reg [zM 31 7,zF 32 3 1,zL 33 32,⟨some 34, .bin .neq (.t 33) (.c (.str [])), none⟩,⟨some 35, .eqb true (.t 31) (.t 34), none⟩,zM 30 35]) (.kp [3, 7, 8, 30] (.cond (.t 30) (.skip) (c67_e5)))) (c67_k2))
def FR {Q e n H} := @Ac Tryz.prog _ _ c67_e6.eq_1 Q e n H
def c67_e7 : ACode := .kp [3, 7, 8] (.seq (.segs [⟨none, [zF 22 3 0,zL 23 22,zE 24 .lss 23 1,zM 25 24], none⟩,⟨some (25, false), [zF 26 3 0,zL 27 26,zE 28 .gtr 27 4], some (29, 28)⟩,⟨none, [zM 21 29], none⟩]) (.kp [3, 7, 8, 21] (.cond (.t 21) (.seq (.reg [zI 6 5]) (.ret)) (c67_e6))))
def Fh {Q e n H} := @Ac Tryz.prog _ _ c67_e7.eq_1 Q e n H
def c67_e8 : ACode := .kp [2, 3, 7, 8] (.seq (.reg [zM 19 2,zE 20 .gtr 19 16,zM 18 20]) (.kp [3, 7, 8, 18] (.cond (.t 18) (.seq (.reg [zI 6 25]) (.ret)) (c67_e7))))
def FL {Q e n H} := @Ac Tryz.prog _ _ c67_e8.eq_1 Q e n H
def c67 : AFun := { nargs := 3, nt := 73, res := [.tmp 6], code := .seq (.reg [zH 3 55 7 0,zI 6 0]) (.kp [1, 2, 3] (.seq (.reg [zF 9 3 0,zL 10 9,zE 11 .eql 10 1,zF 12 3 0,zL 13 12,zE 14 .eql 13 2,zM 7 11,zM 8 14]) (.kp [1, 2, 3, 7, 8] (.seq (.block 0 (.seq (.reg [zM 16 1,zE 17 .geq 16 200,zM 15 17]) (.kp [2, 3, 7, 8, 15] (.cond (.t 15) (.seq (.reg [zI 6 2]) (.ret)) (c67_e8))))) (c67_k1))))) }
theorem Pe : (C4 Tryz.prog K6 Tryz.f67).map (fun x => (x.nargs, x.nt, x.res, x.code)) = some (c67.nargs, c67.nt, c67.res, bare c67.code) := by kernel_rfl
def c68_k1 : ACode := .kp [] (.seq (.reg [zI 2 0]) (.ret))
def Bf {Q e n H} := @Ac Tryz.prog _ _ c68_k1.eq_1 Q e n H
def c68_k2 : ACode := .kp [32, 33, 34] (.reg [zE 75 .add 34 1,zM 34 75])
def Bh {Q e n H} := @Ac Tryz.prog _ _ c68_k2.eq_1 Q e n H
def c68_e3 : ACode := .kp [3, 4, 32, 33, 34] (.seq (.segs [⟨none, [zF 68 4 0,zL 69 68,⟨some 70, .bin .eql (.t 69) (.c (.str [106, 115, 111, 110])), none⟩,zM 71 70], none⟩,⟨some (71, true), [zM 72 3,zE 73 .gtr 72 0], some (74, 73)⟩,⟨none, [zM 67 74], none⟩]) (.kp [32, 33, 34, 67] (.cond (.t 67) (.seq (.reg [zI 2 11]) (.ret)) (.skip))))
def Bk {Q e n H} := @Ac Tryz.prog _ _ c68_e3.eq_1 Q e n H
def c68_e4 : ACode := .kp [3, 4, 5, 32, 33, 34] (.seq (.segs [⟨none, [zF 50 4 1,zL 51 50,zE 52 .lss 51 0,zM 53 52], none⟩,⟨some (53, false), [zF 54 4 1,zL 55 54,zE 56 .gtr 55 200], some (57, 56)⟩,⟨none, [zM 58 57], none⟩,⟨some (58, false), [zM 59 5,zN 60 59,zM 61 60], none⟩,⟨some (61, true), [zF 62 4 1,zL 63 62,zE 64 .neq 63 0], none⟩,⟨some (58, false), [zP 65 61 64], some (66, 65)⟩,⟨none, [zM 49 66], none⟩]) (.kp [3, 4, 32, 33, 34, 49] (.cond (.t 49) (.seq (.reg [zI 2 4]) (.ret)) (c68_e3))))
def Bx {Q e n H} := @Ac Tryz.prog _ _ c68_e4.eq_1 Q e n H
def c68_k5 : ACode := .kp [32, 33, 34] (.seq (.block 1 (.seq (.reg [zM 36 34,⟨some 37, .iaddr 2 (some 2) (.t 32) (.t 34), none⟩,zG 38 2 37,⟨some 4, .alloc 52 [(.str []), (.int .i64 0)], none⟩,zM 3 36,zS 2 4 38]) (.kp [3, 4, 32, 33, 34] (.seq (.regD .early [] [⟨some 40, .call 64 [], none⟩,zF 41 4 0,zL 42 41,⟨some 43, .mget none (.bool false) true (.t 40) (.t 42), none⟩,zM 39 43,zX 44 39 0,zX 45 39 1,zM 5 44,zM 6 45]) (.kp [3, 4, 5, 6, 32, 33, 34] (.block 2 (.seq (.reg [zM 47 6,zN 48 47,zM 46 48]) (.kp [3, 4, 5, 32, 33, 34, 46] (.cond (.t 46) (.seq (.reg [zI 2 5]) (.ret)) (c68_e4)))))))))) (c68_k2))
def Bn {Q e n H} := @Ac Tryz.prog _ _ c68_k5.eq_1 Q e n H
def c68_L6 : ACode := .ke [32, 33, 34] (.seq (.reg [zD 35 .lss 34 33]) (.kp [32, 33, 34, 35] (.seq (.cond (.t 35) (.skip) (.exit 0)) (c68_k5))))
def Bv {Q e n H} := @Ac Tryz.prog _ _ c68_L6.eq_1 Q e n H
def c68_k7 : ACode := .kp [1] (.seq (.seq (.reg [zF 31 1 4,zL 32 31,zY 33 32,zI 34 0]) (.kp [32, 33, 34] (.block 0 (.kp [32, 33, 34] (.loop c68_L6))))) (c68_k1))
def Bq {Q e n H} := @Ac Tryz.prog _ _ c68_k7.eq_1 Q e n H
def c68_k8 : ACode := .kp [1] (.seq (.seq (.reg [zF 27 1 4,zL 28 27,zY 29 28,zE 30 .gtr 29 8]) (.kp [1, 30] (.cond (.t 30) (.seq (.reg [zI 2 2]) (.ret)) (.skip)))) (c68_k7))
def Bu {Q e n H} := @Ac Tryz.prog _ _ c68_k8.eq_1 Q e n H
def c68 : AFun := { nargs := 1, nt := 76, res := [.tmp 2], code := .seq (.reg [zH 1 55 7 0,zI 2 0]) (.kp [1] (.seq (.seq (.segs [⟨none, [zF 7 1 0,zL 8 7,zE 9 .eql 8 4,zM 10 9], none⟩,⟨some (10, true), [zF 11 1 2,zL 12 11,zV 13 107 12,zN 14 13], none⟩,⟨none, [zP 15 10 14,zM 16 15], none⟩,⟨some (16, false), [zF 17 1 0,zL 18 17,zE 19 .neq 18 1,zM 20 19], none⟩,⟨some (20, true), [zF 21 1 3,zL 22 21,zV 23 108 22,zN 24 23], none⟩,⟨some (16, false), [zP 25 20 24], some (26, 25)⟩]) (.kp [1, 26] (.cond (.t 26) (.seq (.reg [zI 2 7]) (.ret)) (.skip)))) (c68_k8))) }
theorem ZM : (C4 Tryz.prog K6 Tryz.f68).map (fun x => (x.nargs, x.nt, x.res, x.code)) = some (c68.nargs, c68.nt, c68.res, bare c68.code) := by kernel_rfl
def c33_k1 : ACode := .kp [6] (.seq (.reg [⟨some 86, .build [(.int .i64 0), (.int .i64 0)] [], none⟩,zS 2 6 86]) (.ret))
def B4 {Q e n H} := @Ac Tryz.prog _ _ c33_k1.eq_1 Q e n H
def c33_k2 : ACode := .kp [0, 1, 2, 6, 14, 15, 16] (.reg [zE 85 .add 16 1,zM 16 85])
def B6 {Q e n H} := @Ac Tryz.prog _ _ c33_k2.eq_1 Q e n H
def c33_k3 : ACode := .kp [0, 1, 2, 6, 14, 15, 16, 69, 70, 71] (.reg [zE 84 .add 71 1,zM 71 84])
def B3 {Q e n H} := @Ac Tryz.prog _ _ c33_k3.eq_1 Q e n H
def c33_k4 : ACode := .kp [0, 1, 2, 6, 14, 15, 16, 69, 70, 71] (.seq (.block 3 (.seq (.reg [zJ 73 1 69 71,zL 74 73,zM 12 74]) (.kp [0, 1, 2, 6, 12, 14, 15, 16, 69, 70, 71] (.seq (.reg [zM 75 0,zM 76 12,zM 77 2,zE 78 .add 77 1,⟨some 79, .call 33 [(.t 75), (.t 76), (.t 78)], none⟩,⟨some 13, .alloc 24 [(.int .i64 0), (.int .i64 0)], none⟩,zS 2 13 79]) (.kp [0, 1, 2, 6, 13, 14, 15, 16, 69, 70, 71] (.seq (.reg [zF 80 13 0,zL 81 80,zE 82 .neq 81 0]) (.kp [0, 1, 2, 6, 13, 14, 15, 16, 69, 70, 71, 82] (.cond (.t 82) (.seq (.reg [zG 83 2 13,zS 2 6 83]) (.ret)) (.skip))))))))) (c33_k3))
def B5 {Q e n H} := @Ac Tryz.prog _ _ c33_k4.eq_1 Q e n H
def c33_L5 : ACode := .ke [0, 1, 2, 6, 14, 15, 16, 69, 70, 71] (.seq (.reg [zD 72 .lss 71 70]) (.kp [0, 1, 2, 6, 14, 15, 16, 69, 70, 71, 72] (.seq (.cond (.t 72) (.skip) (.exit 2)) (c33_k4))))
def Av {Q e n H} := @Ac Tryz.prog _ _ c33_L5.eq_1 Q e n H
def c33_k6 : ACode := .kp [0, 1, 2, 6, 8, 14, 15, 16] (.seq (.reg [zF 65 8 5,zL 66 65,zF 67 8 6,zL 68 67,⟨some 69, .bsl 22 none [(.t 66), (.t 68)], none⟩,zY 70 69,zI 71 0]) (.kp [0, 1, 2, 6, 14, 15, 16, 69, 70, 71] (.block 2 (.kp [0, 1, 2, 6, 14, 15, 16, 69, 70, 71] (.loop c33_L5)))))
def Ax {Q e n H} := @Ac Tryz.prog _ _ c33_k6.eq_1 Q e n H
def c33_k7 : ACode := .kp [0, 1, 2, 6, 8, 9, 10, 14, 15, 16] (.seq (.seq (.reg [zM 60 10,zE 61 .neq 60 0]) (.kp [0, 1, 2, 6, 8, 9, 10, 14, 15, 16, 61] (.cond (.t 61) (.seq (.reg [zM 62 10,zM 63 9,⟨some 64, .build [(.int .i64 0), (.int .i64 0)] [(0, none, (.t 62)), (1, none, (.t 63))], none⟩,zS 2 6 64]) (.ret)) (.skip)))) (c33_k6))
def Aw {Q e n H} := @Ac Tryz.prog _ _ c33_k7.eq_1 Q e n H
def c33_k8 : ACode := .kp [0, 1, 2, 6, 8, 9, 10, 14, 15, 16] (.seq (.seq (.reg [zM 56 10,zE 57 .eql 56 0]) (.kp [0, 1, 2, 6, 8, 9, 10, 14, 15, 16, 57] (.cond (.t 57) (.reg [zG 58 7 8,zV 59 68 58,zM 10 59]) (.skip)))) (c33_k7))
def B7 {Q e n H} := @Ac Tryz.prog _ _ c33_k8.eq_1 Q e n H
def c33_k9 : ACode := .kp [0, 1, 2, 6, 14, 15, 16] (.seq (.block 1 (.seq (.reg [zM 18 16,⟨some 19, .iaddr 7 (some 7) (.t 14) (.t 16), none⟩,zG 20 7 19,⟨some 8, .alloc 55 [(.int .i64 0), (.str []), (.str []), (.sl 0 [] .nil), (.sl 0 [] .nil), (.sl 0 [] .nil), (.sl 0 [] .nil)], none⟩,zM 7 18,zS 7 8 20]) (.kp [0, 1, 2, 6, 7, 8, 14, 15, 16] (.seq (.reg [zM 21 0,zZ 22 21,zF 23 22 0,zL 24 23,zM 9 24]) (.kp [0, 1, 2, 6, 7, 8, 9, 14, 15, 16] (.seq (.reg [zM 25 0,zZ 26 25,zF 27 26 0,zL 28 27,zE 29 .add 28 1,zZ 30 25,zF 31 30 0,zU 31 29]) (.kp [0, 1, 2, 6, 7, 8, 9, 14, 15, 16] (.seq (.reg [zG 32 7 8,zM 33 9,zM 34 2,⟨some 35, .callp 67 [(.t 32), (.t 33), (.t 34)], none⟩,zM 10 35]) (.kp [0, 1, 2, 6, 7, 8, 9, 10, 14, 15, 16] (.seq (.seq (.segs [⟨none, [zM 36 10,zE 37 .eql 36 0,zM 38 37], none⟩,⟨some (38, true), [zM 39 7,zE 40 .gtr 39 0], some (41, 40)⟩,⟨none, [zM 42 41], none⟩,⟨some (42, true), [zF 43 8 0,zL 44 43,zE 45 .eql 44 1], some (46, 45)⟩,⟨none, [zM 47 46], none⟩,⟨some (47, true), [zM 48 1,zM 49 7,zE 50 .sub 49 1,⟨some 51, .iaddr 7 (some 7) (.t 48) (.t 50), none⟩,zF 52 51 0,zL 53 52,zE 54 .eql 53 1], some (55, 54)⟩]) (.kp [0, 1, 2, 6, 8, 9, 10, 14, 15, 16, 55] (.cond (.t 55) (.reg [zI 10 6]) (.skip)))) (c33_k8))))))))))) (c33_k2))
def Az {Q e n H} := @Ac Tryz.prog _ _ c33_k9.eq_1 Q e n H
def c33_L10 : ACode := .ke [0, 1, 2, 6, 14, 15, 16] (.seq (.reg [zD 17 .lss 16 15]) (.kp [0, 1, 2, 6, 14, 15, 16, 17] (.seq (.cond (.t 17) (.skip) (.exit 0)) (c33_k9))))
def An {Q e n H} := @Ac Tryz.prog _ _ c33_L10.eq_1 Q e n H
def c33 : AFun := { nargs := 3, nt := 87, res := [.cell 6 (some 2)], code := .seq (.reg [⟨some 6, .alloc 24 [(.int .i64 0), (.int .i64 0)], none⟩]) (.kp [0, 1, 2, 6] (.seq (.seq (.reg [zM 14 1,zY 15 14,zI 16 0]) (.kp [0, 1, 2, 6, 14, 15, 16] (.block 0 (.kp [0, 1, 2, 6, 14, 15, 16] (.loop c33_L10))))) (c33_k1))) }
theorem ZJ : (C4 Tryz.prog K6 Tryz.f33).map (fun x => (x.nargs, x.nt, x.res, x.code)) = some (c33.nargs, c33.nt, c33.res, bare c33.code) := by kernel_rfl
def c13_k1 : ACode := .kp [2] (.seq (.reg [⟨some 16, .build [(.int .i64 0), (.int .i64 0)] [], none⟩,zS 2 2 16]) (.ret))
def J1 {Q e n H} := @Ac Tryz.prog _ _ c13_k1.eq_1 Q e n H
def c13_k2 : ACode := .kp [0, 2] (.seq (.seq (.reg [zM 11 0,zV 12 31 11,⟨some 13, .lenS (.t 12), none⟩,zE 14 .gtr 13 4000]) (.kp [2, 14] (.cond (.t 14) (.seq (.reg [⟨some 15, .build [(.int .i64 0), (.int .i64 0)] [(0, none, (.c (.int .i64 14))), (1, none, (.c (.int .i64 (-1))))], none⟩,zS 2 2 15]) (.ret)) (.skip)))) (c13_k1))
def Jr {Q e n H} := @Ac Tryz.prog _ _ c13_k2.eq_1 Q e n H
def c13 : AFun := { nargs := 1, nt := 17, res := [.cell 2 (some 2)], code := .seq (.reg [⟨some 2, .alloc 24 [(.int .i64 0), (.int .i64 0)], none⟩]) (.kp [0, 2] (.seq (.reg [⟨some 3, .alloc 64 [(.int .i64 0)], none⟩]) (.kp [0, 2, 3] (.seq (.seq (.reg [zM 5 0,⟨some 6, .call 33 [(.t 3), (.t 5), (.c (.int .i64 0))], none⟩,⟨some 4, .alloc 24 [(.int .i64 0), (.int .i64 0)], none⟩,zS 2 4 6]) (.kp [0, 2, 4] (.seq (.reg [zF 7 4 0,zL 8 7,zE 9 .neq 8 0]) (.kp [0, 2, 4, 9] (.cond (.t 9) (.seq (.reg [zG 10 2 4,zS 2 2 10]) (.ret)) (.skip)))))) (c13_k2))))) }
theorem VP : (C4 Tryz.prog K6 Tryz.f13).map (fun x => (x.nargs, x.nt, x.res, x.code)) = some (c13.nargs, c13.nt, c13.res, bare c13.code) := by kernel_rfl
def c31_k1 : ACode := .kp [3] (.seq (.reg [⟨some 82, .call 47 [(.t 3)], none⟩,zM 2 82]) (.ret))
def Bi {Q e n H} := @Ac Tryz.prog _ _ c31_k1.eq_1 Q e n H
def c31_k2 : ACode := .kp [3, 9, 10, 11] (.reg [zE 81 .add 11 1,zM 11 81])
def Bd {Q e n H} := @Ac Tryz.prog _ _ c31_k2.eq_1 Q e n H
def c31_k3 : ACode := .kp [3, 9, 10, 11] (.reg [⟨some 80, .call 62 [(.t 3), (.c (.str [60, 37, 101, 110, 100, 37, 62]))], none⟩])
def Be {Q e n H} := @Ac Tryz.prog _ _ c31_k3.eq_1 Q e n H
def c31_k4 : ACode := .kp [3, 5, 9, 10, 11] (.seq (.reg [zF 67 5 5,zL 68 67,zV 69 31 68,⟨some 70, .call 62 [(.t 3), (.t 69)], none⟩]) (.kp [3, 5, 9, 10, 11] (.seq (.seq (.reg [zF 71 5 6,zL 72 71,zY 73 72,zE 74 .gtr 73 0]) (.kp [3, 5, 9, 10, 11, 74] (.cond (.t 74) (.reg [zF 75 5 6,zL 76 75,zV 77 31 76,⟨some 78, .bin .add (.c (.str [60, 37, 101, 108, 115, 101, 37, 62])) (.t 77), none⟩,⟨some 79, .call 62 [(.t 3), (.t 78)], none⟩]) (.skip)))) (c31_k3))))
def Bm {Q e n H} := @Ac Tryz.prog _ _ c31_k4.eq_1 Q e n H
def c31_k5 : ACode := .kp [3, 9, 10, 11] (.seq (.reg [⟨some 60, .call 62 [(.t 3), (.c (.str [37, 62]))], none⟩]) (.exit 1))
def Bj {Q e n H} := @Ac Tryz.prog _ _ c31_k5.eq_1 Q e n H
def c31_k6 : ACode := .kp [3, 9, 10, 11, 40, 41, 42] (.reg [zE 59 .add 42 1,zM 42 59])
def Bt {Q e n H} := @Ac Tryz.prog _ _ c31_k6.eq_1 Q e n H
def c31_k7 : ACode := .kp [3, 9, 10, 11, 40, 41, 42] (.seq (.block 4 (.seq (.reg [⟨some 44, .iaddr 2 (some 2) (.t 40) (.t 42), none⟩,zG 45 2 44,⟨some 8, .alloc 52 [(.str []), (.int .i64 0)], none⟩,zS 2 8 45]) (.kp [3, 8, 9, 10, 11, 40, 41, 42] (.seq (.reg [zF 46 8 0,zL 47 46,⟨some 48, .bin .add (.c (.str [124])) (.t 47), none⟩,⟨some 49, .call 62 [(.t 3), (.t 48)], none⟩]) (.kp [3, 8, 9, 10, 11, 40, 41, 42] (.seq (.regD .early [] [⟨some 50, .call 64 [], none⟩,zF 51 8 0,zL 52 51,⟨some 53, .mget none (.bool false) false (.t 50) (.t 52), none⟩]) (.kp [3, 8, 9, 10, 11, 40, 41, 42, 53] (.cond (.t 53) (.reg [zF 54 8 1,zL 55 54,zV 56 65 55,⟨some 57, .bin .add (.c (.str [32])) (.t 56), none⟩,⟨some 58, .call 62 [(.t 3), (.t 57)], none⟩]) (.skip))))))))) (c31_k6))
def Bc {Q e n H} := @Ac Tryz.prog _ _ c31_k7.eq_1 Q e n H
def c31_L8 : ACode := .ke [3, 9, 10, 11, 40, 41, 42] (.seq (.reg [zD 43 .lss 42 41]) (.kp [3, 9, 10, 11, 40, 41, 42, 43] (.seq (.cond (.t 43) (.skip) (.exit 3)) (c31_k7))))
def Bo {Q e n H} := @Ac Tryz.prog _ _ c31_L8.eq_1 Q e n H
def c31_t9 : ACode := .kp [3, 5, 6, 9, 10, 11] (.seq (.reg [zM 36 6,⟨some 37, .bin .add (.c (.str [60, 37])) (.t 36), none⟩,⟨some 38, .call 62 [(.t 3), (.t 37)], none⟩]) (.kp [3, 5, 9, 10, 11] (.seq (.seq (.reg [zF 39 5 4,zL 40 39,zY 41 40,zI 42 0]) (.kp [3, 9, 10, 11, 40, 41, 42] (.block 3 (.kp [3, 9, 10, 11, 40, 41, 42] (.loop c31_L8))))) (c31_k5))))
def Bg {Q e n H} := @Ac Tryz.prog _ _ c31_t9.eq_1 Q e n H
def c31_e10 : ACode := .kp [3, 5, 6, 9, 10, 11, 19] (.seq (.reg [zE 62 .eql 19 3,zM 61 62]) (.kp [3, 5, 6, 9, 10, 11, 61] (.cond (.t 61) (.reg [zM 63 6,⟨some 64, .bin .add (.c (.str [60, 37, 105, 102, 32])) (.t 63), none⟩,⟨some 65, .bin .add (.t 64) (.c (.str [37, 62])), none⟩,⟨some 66, .call 62 [(.t 3), (.t 65)], none⟩]) (.reg [zF 20 5 2,zL 21 20,⟨some 22, .bin .add (.c (.str [60, 37, 101, 97, 99, 104, 32])) (.t 21), none⟩,⟨some 23, .bin .add (.t 22) (.c (.str [32, 105, 110, 32])), none⟩,zM 24 6,zD 25 .add 23 24,⟨some 26, .bin .add (.t 25) (.c (.str [37, 62])), none⟩,⟨some 27, .call 62 [(.t 3), (.t 26)], none⟩]))))
def BF {Q e n H} := @Ac Tryz.prog _ _ c31_e10.eq_1 Q e n H
def c31_e11 : ACode := .kp [3, 5, 6, 9, 10, 11, 19] (.seq (.reg [zE 35 .eql 19 2,zM 34 35]) (.kp [3, 5, 6, 9, 10, 11, 19, 34] (.cond (.t 34) (c31_t9) (c31_e10))))
def BG {Q e n H} := @Ac Tryz.prog _ _ c31_e11.eq_1 Q e n H
def c31_k12 : ACode := .kp [3, 9, 10, 11] (.seq (.block 1 (.seq (.reg [⟨some 13, .iaddr 7 (some 7) (.t 9) (.t 11), none⟩,zG 14 7 13,⟨some 5, .alloc 55 [(.int .i64 0), (.str []), (.str []), (.sl 0 [] .nil), (.sl 0 [] .nil), (.sl 0 [] .nil), (.sl 0 [] .nil)], none⟩,zS 7 5 14]) (.kp [3, 5, 9, 10, 11] (.seq (.reg [zF 15 5 3,zL 16 15,⟨some 17, .callp 52 [(.t 16), (.c (.str [46]))], none⟩,zM 6 17]) (.kp [3, 5, 6, 9, 10, 11] (.seq (.seq (.reg [zF 18 5 0,zL 19 18]) (.kp [3, 5, 6, 9, 10, 11, 19] (.block 2 (.seq (.reg [zE 29 .eql 19 1,zM 28 29]) (.kp [3, 5, 6, 9, 10, 11, 19, 28] (.cond (.t 28) (.seq (.reg [zF 30 5 1,zL 31 30,⟨some 32, .callp 63 [(.t 31), (.c (.str [60, 37])), (.c (.str [60, 37, 111, 112, 101, 110, 37, 62]))], none⟩,⟨some 33, .call 62 [(.t 3), (.t 32)], none⟩]) (.exit 1)) (c31_e11))))))) (c31_k4))))))) (c31_k2))
def BE {Q e n H} := @Ac Tryz.prog _ _ c31_k12.eq_1 Q e n H
def c31_L13 : ACode := .ke [3, 9, 10, 11] (.seq (.reg [zD 12 .lss 11 10]) (.kp [3, 9, 10, 11, 12] (.seq (.cond (.t 12) (.skip) (.exit 0)) (c31_k12))))
def BD {Q e n H} := @Ac Tryz.prog _ _ c31_L13.eq_1 Q e n H
def c31 : AFun := { nargs := 1, nt := 83, res := [.tmp 2], code := .seq (.reg [⟨some 2, .mv (.c (.str [])), none⟩]) (.kp [0] (.seq (.reg [⟨some 3, .alloc 86 [.np, (.sl 0 [] .nil)], none⟩]) (.kp [0, 3] (.seq (.seq (.reg [zM 9 0,zY 10 9,zI 11 0]) (.kp [3, 9, 10, 11] (.block 0 (.kp [3, 9, 10, 11] (.loop c31_L13))))) (c31_k1))))) }
theorem Zm : (C4 Tryz.prog K6 Tryz.f31).map (fun x => (x.nargs, x.nt, x.res, x.code)) = some (c31.nargs, c31.nt, c31.res, bare c31.code) := by kernel_rfl
def c11_k1 : ACode := .kp [0, 3] (.seq (.reg [zM 11 0,zV 12 31 11,⟨some 13, .build [(.int .i64 0), (.int .i64 0)] [], none⟩,zM 2 12,zS 2 3 13]) (.ret))
def O4 {Q e n H} := @Ac Tryz.prog _ _ c11_k1.eq_1 Q e n H
def c11 : AFun := { nargs := 1, nt := 14, res := [.tmp 2, .cell 3 (some 2)], code := .seq (.reg [⟨some 2, .mv (.c (.str [])), none⟩,⟨some 3, .alloc 24 [(.int .i64 0), (.int .i64 0)], none⟩]) (.kp [0, 3] (.seq (.seq (.reg [zM 5 0,zV 6 13 5,⟨some 4, .alloc 24 [(.int .i64 0), (.int .i64 0)], none⟩,zS 2 4 6]) (.kp [0, 3, 4] (.seq (.reg [zF 7 4 0,zL 8 7,zE 9 .neq 8 0]) (.kp [0, 3, 4, 9] (.cond (.t 9) (.seq (.reg [zG 10 2 4,⟨some 2, .mv (.c (.str [])), none⟩,zS 2 3 10]) (.ret)) (.skip)))))) (c11_k1))) }
theorem XL : (C4 Tryz.prog K6 Tryz.f11).map (fun x => (x.nargs, x.nt, x.res, x.code)) = some (c11.nargs, c11.nt, c11.res, bare c11.code) := by kernel_rfl
def ZP : ACode := .kp [0, 3] (.seq (.segs [⟨none, [zM 30 3,zM 31 0,zV 32 15 31,zD 33 .eql 30 32,zM 34 33], none⟩,⟨some (34, true), [⟨some 35, .callp 14 [], none⟩], none⟩,⟨none, [zP 36 34 35,zM 2 36], none⟩]) (.ret))
def ZV : ACode := .kp [0, 3, 5] (.seq (.seq (.reg [zF 22 5 0,zL 23 22,zE 24 .neq 23 0]) (.kp [0, 3, 24] (.cond (.t 24) (.seq (.segs [⟨none, [zM 25 3,⟨some 26, .bin .eql (.t 25) (.c (.str [])), none⟩,zM 27 26], none⟩,⟨some (27, true), [⟨some 28, .callp 14 [], none⟩], none⟩,⟨none, [zP 29 27 28,zM 2 29], none⟩]) (.ret)) (.skip)))) (ZP))
def c3 : AFun := { nargs := 1, nt := 37, res := [.tmp 2], code := .seq (.reg [zB 2 false]) (.kp [0] (.seq (.reg [zM 7 0,zV 8 11 7,zM 6 8,zX 9 6 0,zX 10 6 1,⟨some 4, .alloc 24 [(.int .i64 0), (.int .i64 0)], none⟩,zM 3 9,zS 2 4 10]) (.kp [0, 3, 4] (.seq (.reg [zM 11 0,zV 12 12 11,⟨some 5, .alloc 24 [(.int .i64 0), (.int .i64 0)], none⟩,zS 2 5 12]) (.kp [0, 3, 4, 5] (.seq (.seq (.segs [⟨none, [zM 13 0,zV 14 13 13,zG 15 2 5,⟨some 16, .eqs [.i, .i] true (.t 14) (.t 15), none⟩,zM 17 16], none⟩,⟨some (17, false), [zG 18 2 4,zG 19 2 5,⟨some 20, .eqs [.i, .i] true (.t 18) (.t 19), none⟩], some (21, 20)⟩]) (.kp [0, 3, 5, 21] (.cond (.t 21) (.seq (.reg [zB 2 false]) (.ret)) (.skip)))) (ZV))))))) }
def Z4 : List Nat := K6 ++ [162]
theorem Fw {P : Program} {c d : ACode} (h : c = d) {Q : AExit → AS → Prop} {e : AL} {n : Nat} {H : A2} : aw P c Q ⟨e, n, H⟩ = aw P d Q ⟨e, n, H⟩ := by rw [h]
def c123_k1 : ACode := .kp [6] (.seq (.reg [zM 35 6,zM 2 35]) (.ret))
def Ag {Q e n H} := @Fw Tryz.prog _ _ c123_k1.eq_1 Q e n H
def c123_k2 : ACode := .kp [6, 25, 26, 27] (.reg [zE 34 .add 27 1,zM 27 34])
def Aj {Q e n H} := @Fw Tryz.prog _ _ c123_k2.eq_1 Q e n H
def c123_k3 : ACode := .kp [6, 25, 26, 27] (.seq (.block 3 (.seq (.reg [zJ 29 1 25 27,zL 30 29,zM 8 30]) (.kp [6, 8, 25, 26, 27] (.reg [zM 31 6,zM 32 8,⟨some 33, .app 55 7 136 (.t 31) (.t 32), none⟩,zM 6 33])))) (c123_k2))
def Ah {Q e n H} := @Fw Tryz.prog _ _ c123_k3.eq_1 Q e n H
def c123_L4 : ACode := .ke [6, 25, 26, 27] (.seq (.reg [zD 28 .lss 27 26]) (.kp [6, 25, 26, 27, 28] (.seq (.cond (.t 28) (.skip) (.exit 2)) (c123_k3))))
def Af {Q e n H} := @Fw Tryz.prog _ _ c123_L4.eq_1 Q e n H
def c123_k5 : ACode := .kp [0, 3] (.seq (.reg [zM 23 3,⟨some 24, .call 162 [(.c (.sl 0 [] .nil)), (.t 23)], none⟩,zM 6 24]) (.kp [0, 6] (.seq (.seq (.reg [zM 25 0,zY 26 25,zI 27 0]) (.kp [6, 25, 26, 27] (.block 2 (.kp [6, 25, 26, 27] (.loop c123_L4))))) (c123_k1))))
def Al {Q e n H} := @Fw Tryz.prog _ _ c123_k5.eq_1 Q e n H
def c123_k6 : ACode := .kp [0, 3, 9, 10, 11] (.reg [zE 22 .add 11 1,zM 11 22])
def Ak {Q e n H} := @Fw Tryz.prog _ _ c123_k6.eq_1 Q e n H
def c123_k7 : ACode := .kp [0, 3, 9, 10, 11] (.seq (.block 1 (.seq (.reg [zJ 13 1 9 11,zL 14 13,zM 5 14]) (.kp [0, 3, 5, 9, 10, 11] (.seq (.reg [zM 15 3,zM 16 5,zY 17 16,zD 18 .add 15 17,zM 3 18]) (.kp [0, 3, 9, 10, 11] (.seq (.reg [zM 19 3,zE 20 .lss 19 0]) (.kp [0, 3, 9, 10, 11, 20] (.cond (.t 20) (.reg [⟨none, .nope, none⟩,⟨none, .nope, none⟩]) (.skip))))))))) (c123_k6))
def Ai {Q e n H} := @Fw Tryz.prog _ _ c123_k7.eq_1 Q e n H
def c123_L8 : ACode := .ke [0, 3, 9, 10, 11] (.seq (.reg [zD 12 .lss 11 10]) (.kp [0, 3, 9, 10, 11, 12] (.seq (.cond (.t 12) (.skip) (.exit 0)) (c123_k7))))
def Ae {Q e n H} := @Fw Tryz.prog _ _ c123_L8.eq_1 Q e n H
def c123 : AFun := { nargs := 1, nt := 36, res := [.tmp 2], code := .seq (.reg [⟨some 2, .mv (.c (.sl 0 [] .nil)), none⟩]) (.kp [0] (.seq (.reg [zI 3 0]) (.kp [0, 3] (.seq (.seq (.reg [zM 9 0,zY 10 9,zI 11 0]) (.kp [0, 3, 9, 10, 11] (.block 0 (.kp [0, 3, 9, 10, 11] (.loop c123_L8))))) (c123_k5))))) }
theorem Uq : (C4 Tryz.prog Z4 Tryz.f123).map (fun x => (x.nargs, x.nt, x.res, x.code)) = some (c123.nargs, c123.nt, c123.res, bare c123.code) := by kernel_rfl
def c80_k1 : ACode := .kp [3] (.seq (.reg [zM 22 3,zM 2 22]) (.ret))
def J5 {Q e n H} := @Fw Tryz.prog _ _ c80_k1.eq_1 Q e n H
def c80_k2 : ACode := .kp [3, 11, 12, 13] (.reg [zE 21 .add 13 1,zM 13 21])
def II {Q e n H} := @Fw Tryz.prog _ _ c80_k2.eq_1 Q e n H
def c80_k3 : ACode := .kp [3, 11, 12, 13] (.seq (.block 1 (.seq (.reg [⟨some 15, .iaddr 7 (some 7) (.t 11) (.t 13), none⟩,zG 16 7 15,⟨some 5, .alloc 55 [(.int .i64 0), (.str []), (.str []), (.sl 0 [] .nil), (.sl 0 [] .nil), (.sl 0 [] .nil), (.sl 0 [] .nil)], none⟩,zS 7 5 16]) (.kp [3, 5, 11, 12, 13] (.reg [zM 17 3,zG 18 7 5,zV 19 80 18,zD 20 .add 17 19,zM 3 20])))) (c80_k2))
def IW {Q e n H} := @Fw Tryz.prog _ _ c80_k3.eq_1 Q e n H
def c80_L4 : ACode := .ke [3, 11, 12, 13] (.seq (.reg [zD 14 .lss 13 12]) (.kp [3, 11, 12, 13, 14] (.seq (.cond (.t 14) (.skip) (.exit 0)) (c80_k3))))
def KE {Q e n H} := @Fw Tryz.prog _ _ c80_L4.eq_1 Q e n H
def c80 : AFun := { nargs := 1, nt := 23, res := [.tmp 2], code := .seq (.reg [zH 1 55 7 0,zI 2 0]) (.kp [1] (.seq (.reg [zI 3 1]) (.kp [1, 3] (.seq (.seq (.reg [zF 6 1 5,zL 7 6,zF 8 1 6,zL 9 8,⟨some 10, .bsl 22 none [(.t 7), (.t 9)], none⟩,zV 11 123 10,zY 12 11,zI 13 0]) (.kp [3, 11, 12, 13] (.block 0 (.kp [3, 11, 12, 13] (.loop c80_L4))))) (c80_k1))))) }
theorem XB : (C4 Tryz.prog Z4 Tryz.f80).map (fun x => (x.nargs, x.nt, x.res, x.code)) = some (c80.nargs, c80.nt, c80.res, bare c80.code) := by kernel_rfl
theorem Gj {P : Program} {c d : ACode} (h : c = d) {Q : AExit → AS → Prop} {e : AL} {n : Nat} {H : A2} : aw P c Q ⟨e, n, H⟩ = aw P d Q ⟨e, n, H⟩ := by rw [h]
def c18_k1 : ACode := .kp [] (.seq (.reg [zB 4 true]) (.ret))
def Tf {Q e n H} := @Gj Tryz.prog _ _ c18_k1.eq_1 Q e n H
def c18_k2 : ACode := .kp [0, 1, 5] (.reg [zM 18 5,zE 19 .add 18 1,zM 5 19])
def Nw {Q e n H} := @Gj Tryz.prog _ _ c18_k2.eq_1 Q e n H
def c18_k3 : ACode := .kp [0, 1, 5, 6, 7, 8] (.reg [zM 85 8,zE 86 .add 85 1,zM 8 86])
def Iv {Q e n H} := @Gj Tryz.prog _ _ c18_k3.eq_1 Q e n H
def c18_k4 : ACode := .kp [0, 1, 5, 6, 7, 8] (.seq (.block 3 (.seq (.reg [zF 87 6 4,zL 88 87,zM 89 8,⟨some 90, .iaddr 2 (some 2) (.t 88) (.t 89), none⟩,zG 91 2 90,zF 92 7 4,zL 93 92,zM 94 8,⟨some 95, .iaddr 2 (some 2) (.t 93) (.t 94), none⟩,zG 96 2 95,⟨some 97, .eqs [.s, .i] true (.t 91) (.t 96), none⟩]) (.kp [0, 1, 5, 6, 7, 8, 97] (.cond (.t 97) (.seq (.reg [zB 4 false]) (.ret)) (.skip))))) (c18_k3))
def JJ {Q e n H} := @Gj Tryz.prog _ _ c18_k4.eq_1 Q e n H
def c18_L5 : ACode := .ke [0, 1, 5, 6, 7, 8] (.seq (.seq (.reg [zM 80 8,zF 81 6 4,zL 82 81,zY 83 82,zD 84 .lss 80 83]) (.kp [0, 1, 5, 6, 7, 8, 84] (.cond (.t 84) (.skip) (.exit 2)))) (c18_k4))
def KB {Q e n H} := @Gj Tryz.prog _ _ c18_L5.eq_1 Q e n H
def c18_k6 : ACode := .kp [0, 1, 5, 6, 7] (.seq (.reg [zI 8 0]) (.kp [0, 1, 5, 6, 7, 8] (.block 2 (.kp [0, 1, 5, 6, 7, 8] (.loop c18_L5)))))
def ON {Q e n H} := @Gj Tryz.prog _ _ c18_k6.eq_1 Q e n H
def c18_k7 : ACode := .kp [0, 1, 5] (.seq (.block 1 (.seq (.regD .refs [] [zM 20 0,zM 21 5,⟨some 22, .iaddr 7 (some 7) (.t 20) (.t 21), none⟩,zG 23 7 22,zM 24 1,zM 25 5,⟨some 26, .iaddr 7 (some 7) (.t 24) (.t 25), none⟩,zG 27 7 26,⟨some 6, .alloc 55 [(.int .i64 0), (.str []), (.str []), (.sl 0 [] .nil), (.sl 0 [] .nil), (.sl 0 [] .nil), (.sl 0 [] .nil)], none⟩,⟨some 7, .alloc 55 [(.int .i64 0), (.str []), (.str []), (.sl 0 [] .nil), (.sl 0 [] .nil), (.sl 0 [] .nil), (.sl 0 [] .nil)], none⟩,zS 7 6 23,zS 7 7 27]) (.kp [0, 1, 5, 6, 7] (.seq (.seq (.segs [⟨none, [zF 28 6 0,zL 29 28,zF 30 7 0,zL 31 30,zD 32 .neq 29 31,zM 33 32], none⟩,⟨some (33, false), [zF 34 6 1,zL 35 34,zF 36 7 1,zL 37 36,zD 38 .neq 35 37], some (39, 38)⟩,⟨none, [zM 40 39], none⟩,⟨some (40, false), [zF 41 6 2,zL 42 41,zF 43 7 2,zL 44 43,zD 45 .neq 42 44], some (46, 45)⟩,⟨none, [zM 47 46], none⟩,⟨some (47, false), [zF 48 6 3,zL 49 48,zF 50 7 3,zL 51 50,zW 52 23 49 51,zN 53 52], none⟩,⟨none, [zO 54 47 53,zM 55 54], none⟩,⟨some (55, false), [zF 56 6 4,zL 57 56,zY 58 57,zF 59 7 4,zL 60 59,zY 61 60,zD 62 .neq 58 61], some (63, 62)⟩,⟨none, [zM 64 63], none⟩,⟨some (64, false), [zF 65 6 5,zL 66 65,zF 67 7 5,zL 68 67,zW 69 18 66 68,zN 70 69], none⟩,⟨none, [zO 71 64 70,zM 72 71], none⟩,⟨some (72, false), [zF 73 6 6,zL 74 73,zF 75 7 6,zL 76 75,zW 77 18 74 76,zN 78 77], none⟩,⟨none, [zO 79 72 78], none⟩]) (.kp [0, 1, 5, 6, 7, 79] (.cond (.t 79) (.seq (.reg [zB 4 false]) (.ret)) (.skip)))) (c18_k6))))) (c18_k2))
def GT {Q e n H} := @Gj Tryz.prog _ _ c18_k7.eq_1 Q e n H
def c18_L8 : ACode := .ke [0, 1, 5] (.seq (.seq (.reg [zM 14 5,zM 15 0,zY 16 15,zD 17 .lss 14 16]) (.kp [0, 1, 5, 17] (.cond (.t 17) (.skip) (.exit 0)))) (c18_k7))
def GZ {Q e n H} := @Gj Tryz.prog _ _ c18_L8.eq_1 Q e n H
def c18_k9 : ACode := .kp [0, 1] (.seq (.seq (.reg [zI 5 0]) (.kp [0, 1, 5] (.block 0 (.kp [0, 1, 5] (.loop c18_L8))))) (c18_k1))
def O7 {Q e n H} := @Gj Tryz.prog _ _ c18_k9.eq_1 Q e n H
def c18 : AFun := { nargs := 2, nt := 98, res := [.tmp 4], code := .seq (.reg [zB 4 false]) (.kp [0, 1] (.seq (.seq (.reg [zM 9 0,zY 10 9,zM 11 1,zY 12 11,zD 13 .neq 10 12]) (.kp [0, 1, 13] (.cond (.t 13) (.seq (.reg [zB 4 false]) (.ret)) (.skip)))) (c18_k9))) }
theorem ZR : (C4 Tryz.prog K6 Tryz.f18).map (fun x => (x.nargs, x.nt, x.res, x.code)) = some (c18.nargs, c18.nt, c18.res, bare c18.code) := by kernel_rfl
def c7_k1 : ACode := .kp [0, 3] (.seq (.reg [zM 21 3,zV 22 16 21,zM 20 22,zX 23 20 0,zX 24 20 1,⟨some 6, .alloc 24 [(.int .i64 0), (.int .i64 0)], none⟩,zM 5 23,zS 2 6 24]) (.kp [0, 5, 6] (.seq (.segs [⟨none, [zF 25 6 0,zL 26 25,zE 27 .eql 26 0,zM 28 27], none⟩,⟨some (28, true), [zM 29 0,zM 30 5,zW 31 18 29 30], none⟩,⟨none, [zP 32 28 31,zM 33 32], none⟩,⟨some (33, true), [⟨some 34, .callp 14 [], none⟩], none⟩,⟨none, [zP 35 33 34,zM 2 35], none⟩]) (.ret))))
def Qc {Q e n H} := @Gj Tryz.prog _ _ c7_k1.eq_1 Q e n H
def c7 : AFun := { nargs := 1, nt := 36, res := [.tmp 2], code := .seq (.reg [zB 2 false]) (.kp [0] (.seq (.reg [zM 8 0,zV 9 11 8,zM 7 9,zX 10 7 0,zX 11 7 1,⟨some 4, .alloc 24 [(.int .i64 0), (.int .i64 0)], none⟩,zM 3 10,zS 2 4 11]) (.kp [0, 3, 4] (.seq (.seq (.reg [zF 12 4 0,zL 13 12,zE 14 .neq 13 0]) (.kp [0, 3, 14] (.cond (.t 14) (.seq (.segs [⟨none, [zM 15 3,⟨some 16, .bin .eql (.t 15) (.c (.str [])), none⟩,zM 17 16], none⟩,⟨some (17, true), [⟨some 18, .callp 14 [], none⟩], none⟩,⟨none, [zP 19 17 18,zM 2 19], none⟩]) (.ret)) (.skip)))) (c7_k1))))) }
theorem Zq : (C4 Tryz.prog K6 Tryz.f7).map (fun x => (x.nargs, x.nt, x.res, x.code)) = some (c7.nargs, c7.nt, c7.res, bare c7.code) := by kernel_rfl
end Go.Proofs.YtnfjgphfaemjcaaGreatDoor
