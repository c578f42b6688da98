/- The code of some functions on plain data, by program, and that it is what the program's text gives; no condition. -/
import Derived.Test.YtecpfmhminkalaaGreatDoorAdA
import Derived.Test.YtecpfmhminkalaaGreatDoorProg
import Derived.KernelRfl
set_option linter.all false
set_option linter.unusedSimpArgs false
set_option linter.unusedVariables false
namespace Go.Proofs.YtecpfmhminkalaaGreatDoor
theorem awgoD {P : Program} {c d : ACode} (h : c = d) {Q : AExit → AS → Prop} {e : AEnv} {n : Nat} {H : AHeap} : aw P c Q ⟨e, n, H⟩ = aw P d Q ⟨e, n, H⟩ := by rw [h]
def c23_k1 : ACode := .kp [4, 6, 7, 9, 10, 11, 12, 13] (.reg [⟨some 38, .mv (.t 13), none⟩,
    ⟨some 39, .call 70 [(.t 38)], none⟩])
def c23_k1_go {Q e n H} := @awgoD Tryz.prog _ _ c23_k1.eq_1 Q e n H
def c23_k2 : ACode := .kp [4, 6, 7, 9, 10, 11, 12, 13, 14] (.seq (.segs [⟨none, [⟨some 72, .mv (.t 14), none⟩,
      ⟨some 73, .mv (.t 11), none⟩,
      ⟨some 74, .bin .sub (.t 72) (.t 73), none⟩,
      ⟨some 75, .faddr (.t 4) 1 none, none⟩,
      ⟨some 76, .load none (.t 75), none⟩,
      ⟨some 77, .bin .rem (.t 74) (.t 76), none⟩,
      ⟨some 78, .bin .eql (.t 77) (.c (.int .i64 0)), none⟩,
      ⟨some 79, .mv (.t 78), none⟩], none⟩,
    ⟨some (79, true), [⟨some 80, .mv (.t 13), none⟩,
      ⟨some 81, .nilck (.t 80), none⟩,
      ⟨some 82, .faddr (.t 81) 0 (some 6), none⟩,
      ⟨some 83, .load (some 6) (.t 82), none⟩,
      ⟨some 84, .load (some 8) (.t 4), none⟩,
      ⟨some 85, .load (some 6) (.t 6), none⟩,
      ⟨some 86, .callp 71 [(.t 83), (.t 84), (.t 85)], none⟩], none⟩,
    ⟨none, [⟨some 87, .pick (.t 79) (.t 86) (.c (.bool false)), none⟩], none⟩]) (.kp [4, 6, 7, 9, 10, 11, 12, 13, 87] (.cond (.t 87) (.reg [⟨some 88, .mv (.t 10), none⟩,
    ⟨some 89, .mv (.t 13), none⟩,
    ⟨some 90, .nilck (.t 89), none⟩,
    ⟨some 91, .faddr (.t 90) 0 (some 6), none⟩,
    ⟨some 92, .faddr (.t 91) 0 none, none⟩,
    ⟨some 93, .load none (.t 92), none⟩,
    ⟨some 94, .bsl 3 none [(.t 93)], none⟩,
    ⟨some 95, .app 3 1 8 (.t 88) (.t 94), none⟩,
    ⟨some 10, .mv (.t 95), none⟩]) (.skip))))
def c23_k2_go {Q e n H} := @awgoD Tryz.prog _ _ c23_k2.eq_1 Q e n H
def c23_k3 : ACode := .kp [4, 6, 7, 9, 11, 13, 14] (.reg [⟨some 71, .mv (.t 14), none⟩,
    ⟨some 10, .mv (.c (.sl 0 [] .nil)), none⟩,
    ⟨some 12, .mv (.t 71), none⟩])
def c23_k3_go {Q e n H} := @awgoD Tryz.prog _ _ c23_k3.eq_1 Q e n H
def c23_t4 : ACode := .kp [4, 6, 7, 9, 10, 11, 13, 14] (.seq (.seq (.segs [⟨none, [⟨some 58, .mv (.t 9), none⟩,
      ⟨some 59, .mv (.t 10), none⟩,
      ⟨some 60, .callv (.t 58) [(.t 59)], none⟩,
      ⟨some 61, .not (.t 60), none⟩,
      ⟨some 62, .mv (.t 61), none⟩], none⟩,
    ⟨some (62, false), [⟨some 63, .mv (.t 13), none⟩,
      ⟨some 64, .nilck (.t 63), none⟩,
      ⟨some 65, .faddr (.t 64) 0 (some 6), none⟩,
      ⟨some 66, .faddr (.t 65) 0 none, none⟩,
      ⟨some 67, .load none (.t 66), none⟩,
      ⟨some 68, .load none (.t 7), none⟩,
      ⟨some 69, .bin .gtr (.t 67) (.t 68), none⟩], some (70, 69)⟩]) (.kp [4, 6, 7, 9, 11, 13, 14, 70] (.cond (.t 70) (.ret) (.skip)))) (c23_k3))
def c23_t4_go {Q e n H} := @awgoD Tryz.prog _ _ c23_t4.eq_1 Q e n H
def c23_L5 : ACode := .ke [4, 6, 7, 9, 10, 11, 12, 13] (.seq (.block 1 (.seq (.reg [⟨some 40, .mv (.t 13), none⟩,
    ⟨some 41, .nilck (.t 40), none⟩,
    ⟨some 42, .faddr (.t 41) 0 (some 6), none⟩,
    ⟨some 43, .load (some 6) (.t 42), none⟩,
    ⟨some 44, .faddr (.t 4) 0 none, none⟩,
    ⟨some 45, .load none (.t 44), none⟩,
    ⟨some 46, .callp 67 [(.t 43), (.t 45)], none⟩,
    ⟨some 14, .mv (.t 46), none⟩]) (.kp [4, 6, 7, 9, 10, 11, 12, 13, 14] (.seq (.seq (.segs [⟨none, [⟨some 47, .mv (.t 14), none⟩,
      ⟨some 48, .mv (.t 12), none⟩,
      ⟨some 49, .bin .neq (.t 47) (.t 48), none⟩,
      ⟨some 50, .mv (.t 49), none⟩], none⟩,
    ⟨some (50, false), [⟨some 51, .mv (.t 13), none⟩,
      ⟨some 52, .nilck (.t 51), none⟩,
      ⟨some 53, .faddr (.t 52) 0 (some 6), none⟩,
      ⟨some 54, .faddr (.t 53) 0 none, none⟩,
      ⟨some 55, .load none (.t 54), none⟩,
      ⟨some 56, .bin .gtr (.t 55) (.c (.int .i64 3652059)), none⟩], some (57, 56)⟩]) (.kp [4, 6, 7, 9, 10, 11, 12, 13, 14, 57] (.cond (.t 57) (c23_t4) (.skip)))) (c23_k2))))) (c23_k1))
def c23_L5_go {Q e n H} := @awgoD Tryz.prog _ _ c23_L5.eq_1 Q e n H
def c23_k6 : ACode := .kp [3, 4, 5, 6, 7] (.seq (.reg [⟨some 8, .alloc 3 [(.int .i64 0)], none⟩,
    ⟨none, .store none (.t 8) (.c (.int .i64 0)), none⟩]) (.kp [3, 4, 5, 6, 7, 8] (.seq (.reg [⟨some 27, .mkfn 65 [] [(.t 4), (.t 3), (.t 7), (.t 8), (.t 5)], none⟩,
    ⟨some 9, .mv (.t 27), none⟩]) (.kp [4, 6, 7, 9] (.seq (.reg [⟨some 10, .mv (.c (.sl 0 [] .nil)), none⟩]) (.kp [4, 6, 7, 9, 10] (.seq (.reg [⟨some 28, .load (some 6) (.t 6), none⟩,
    ⟨some 29, .faddr (.t 4) 0 none, none⟩,
    ⟨some 30, .load none (.t 29), none⟩,
    ⟨some 31, .callp 67 [(.t 28), (.t 30)], none⟩,
    ⟨some 11, .mv (.t 31), none⟩]) (.kp [4, 6, 7, 9, 10, 11] (.seq (.reg [⟨some 32, .mv (.t 11), none⟩,
    ⟨some 12, .mv (.t 32), none⟩]) (.kp [4, 6, 7, 9, 10, 11, 12] (.seq (.reg [⟨some 33, .load (some 6) (.t 6), none⟩,
    ⟨some 34, .faddr (.t 4) 0 none, none⟩,
    ⟨some 35, .load none (.t 34), none⟩,
    ⟨some 36, .callp 69 [(.t 33), (.t 35)], none⟩,
    ⟨some 37, .call 68 [(.t 36)], none⟩,
    ⟨some 13, .mv (.t 37), none⟩]) (.kp [4, 6, 7, 9, 10, 11, 12, 13] (.block 0 (.kp [4, 6, 7, 9, 10, 11, 12, 13] (.loop c23_L5)))))))))))))))
def c23_k6_go {Q e n H} := @awgoD Tryz.prog _ _ c23_k6.eq_1 Q e n H
def c23 : AFun := { nargs := 3, nt := 96, res := [], code := .seq (.reg [⟨some 3, .box 3 none (.t 0), none⟩,
    ⟨some 4, .box 25 (some 8) (.t 1), none⟩,
    ⟨some 5, .box 49 none (.t 2), none⟩]) (.kp [3, 4, 5] (.seq (.reg [⟨some 15, .load none (.t 3), none⟩,
    ⟨some 16, .callp 64 [(.t 15)], none⟩,
    ⟨some 6, .alloc 85 [(.int .i64 0), (.int .i64 0), (.int .i64 0), (.int .i64 0), (.int .i64 0), (.int .i64 0)], none⟩,
    ⟨none, .store (some 6) (.t 6) (.t 16), none⟩]) (.kp [3, 4, 5, 6] (.seq (.reg [⟨some 17, .load none (.t 3), none⟩,
    ⟨some 18, .bin .add (.t 17) (.c (.int .i64 20000)), none⟩,
    ⟨some 19, .mm false (.t 18) (.c (.int .i64 3652059)), none⟩,
    ⟨some 7, .alloc 3 [(.int .i64 0)], none⟩,
    ⟨none, .store none (.t 7) (.t 19), none⟩]) (.kp [3, 4, 5, 6, 7] (.seq (.seq (.reg [⟨some 20, .faddr (.t 4) 7 none, none⟩,
    ⟨some 21, .load none (.t 20), none⟩,
    ⟨some 22, .bin .gtr (.t 21) (.c (.int .i64 0)), none⟩]) (.kp [3, 4, 5, 6, 7, 22] (.cond (.t 22) (.reg [⟨some 23, .load none (.t 7), none⟩,
    ⟨some 24, .faddr (.t 4) 7 none, none⟩,
    ⟨some 25, .load none (.t 24), none⟩,
    ⟨some 26, .mm false (.t 23) (.t 25), none⟩,
    ⟨none, .store none (.t 7) (.t 26), none⟩]) (.skip)))) (c23_k6))))))) }
theorem cmp23 : (cFun Tryz.prog efs Tryz.f23).map (fun x => (x.nargs, x.nt, x.res, x.code)) = some (c23.nargs, c23.nt, c23.res, bare c23.code) := by kernel_rfl
def c65_k1 : ACode := .kp [] (.seq (.reg [⟨some 7, .mv (.c (.bool true)), none⟩]) (.ret))
def c65_k1_go {Q e n H} := @awgoD Tryz.prog _ _ c65_k1.eq_1 Q e n H
def c65_k2 : ACode := .kp [1, 2, 3, 4, 5, 13, 14, 15] (.reg [⟨some 44, .bin .add (.t 15) (.c (.int .i64 1)), none⟩,
    ⟨some 15, .mv (.t 44), none⟩])
def c65_k2_go {Q e n H} := @awgoD Tryz.prog _ _ c65_k2.eq_1 Q e n H
def c65_k3 : ACode := .kp [1, 2, 3, 4, 5, 13, 14, 15] (.reg [⟨some 42, .load none (.t 4), none⟩,
    ⟨some 43, .bin .add (.t 42) (.c (.int .i64 1)), none⟩,
    ⟨none, .store none (.t 4) (.t 43), none⟩])
def c65_k3_go {Q e n H} := @awgoD Tryz.prog _ _ c65_k3.eq_1 Q e n H
def c65_k4 : ACode := .kp [1, 2, 3, 4, 5, 9, 13, 14, 15] (.seq (.seq (.segs [⟨none, [⟨some 22, .mv (.t 9), none⟩,
      ⟨some 23, .load none (.t 3), none⟩,
      ⟨some 24, .bin .gtr (.t 22) (.t 23), none⟩,
      ⟨some 25, .mv (.t 24), none⟩], none⟩,
    ⟨some (25, false), [⟨some 26, .faddr (.t 1) 6 none, none⟩,
      ⟨some 27, .load none (.t 26), none⟩,
      ⟨some 28, .bin .gtr (.t 27) (.c (.int .i64 0)), none⟩,
      ⟨some 29, .mv (.t 28), none⟩], none⟩,
    ⟨some (29, true), [⟨some 30, .load none (.t 4), none⟩,
      ⟨some 31, .faddr (.t 1) 6 none, none⟩,
      ⟨some 32, .load none (.t 31), none⟩,
      ⟨some 33, .bin .eql (.t 30) (.t 32), none⟩], none⟩,
    ⟨some (25, false), [⟨some 34, .pick (.t 29) (.t 33) (.c (.bool false)), none⟩], some (35, 34)⟩,
    ⟨none, [⟨some 36, .mv (.t 35), none⟩], none⟩,
    ⟨some (36, false), [⟨some 37, .load none (.t 5), none⟩,
      ⟨some 38, .mv (.t 9), none⟩,
      ⟨some 39, .callv (.t 37) [(.t 38)], none⟩,
      ⟨some 40, .not (.t 39), none⟩], none⟩,
    ⟨none, [⟨some 41, .pick (.t 36) (.c (.bool true)) (.t 40), none⟩], none⟩]) (.kp [1, 2, 3, 4, 5, 13, 14, 15, 41] (.cond (.t 41) (.seq (.reg [⟨some 7, .mv (.c (.bool false)), none⟩]) (.ret)) (.skip)))) (c65_k3))
def c65_k4_go {Q e n H} := @awgoD Tryz.prog _ _ c65_k4.eq_1 Q e n H
def c65_k5 : ACode := .kp [1, 2, 3, 4, 5, 13, 14, 15] (.seq (.block 1 (.seq (.reg [⟨some 17, .iaddr 1 none (.t 13) (.t 15), none⟩,
    ⟨some 18, .load none (.t 17), none⟩,
    ⟨some 9, .mv (.t 18), none⟩]) (.kp [1, 2, 3, 4, 5, 9, 13, 14, 15] (.seq (.seq (.reg [⟨some 19, .mv (.t 9), none⟩,
    ⟨some 20, .load none (.t 2), none⟩,
    ⟨some 21, .bin .lss (.t 19) (.t 20), none⟩]) (.kp [1, 2, 3, 4, 5, 9, 13, 14, 15, 21] (.cond (.t 21) (.exit 1) (.skip)))) (c65_k4))))) (c65_k2))
def c65_k5_go {Q e n H} := @awgoD Tryz.prog _ _ c65_k5.eq_1 Q e n H
def c65_L6 : ACode := .ke [1, 2, 3, 4, 5, 13, 14, 15] (.seq (.reg [⟨some 16, .bin .lss (.t 15) (.t 14), none⟩]) (.kp [1, 2, 3, 4, 5, 13, 14, 15, 16] (.seq (.cond (.t 16) (.skip) (.exit 0)) (c65_k5))))
def c65_L6_go {Q e n H} := @awgoD Tryz.prog _ _ c65_L6.eq_1 Q e n H
def c65 : AFun := { nargs := 6, nt := 45, res := [.tmp 7], code := .seq (.reg [⟨some 7, .mv (.c (.bool false)), none⟩]) (.kp [0, 1, 2, 3, 4, 5] (.seq (.seq (.reg [⟨some 10, .mv (.t 0), none⟩,
    ⟨some 11, .faddr (.t 1) 5 none, none⟩,
    ⟨some 12, .load none (.t 11), none⟩,
    ⟨some 13, .callp 66 [(.t 10), (.t 12)], none⟩,
    ⟨some 14, .len (.t 13), none⟩,
    ⟨some 15, .mv (.c (.int .i64 0)), none⟩]) (.kp [1, 2, 3, 4, 5, 13, 14, 15] (.block 0 (.kp [1, 2, 3, 4, 5, 13, 14, 15] (.loop c65_L6))))) (c65_k1))) }
theorem cmp65 : (cFun Tryz.prog efs Tryz.f65).map (fun x => (x.nargs, x.nt, x.res, x.code)) = some (c65.nargs, c65.nt, c65.res, bare c65.code) := by kernel_rfl
def c24_k1 : ACode := .kp [0, 1] (.seq (.reg [⟨some 9, .load none (.t 1), none⟩,
    ⟨some 10, .mv (.t 0), none⟩,
    ⟨some 11, .bsl 3 none [(.t 10)], none⟩,
    ⟨some 12, .app 3 1 8 (.t 9) (.t 11), none⟩,
    ⟨none, .store none (.t 1) (.t 12), none⟩]) (.kp [] (.seq (.reg [⟨some 4, .mv (.c (.bool true)), none⟩]) (.ret))))
def c24_k1_go {Q e n H} := @awgoD Tryz.prog _ _ c24_k1.eq_1 Q e n H
def c24 : AFun := { nargs := 3, nt := 13, res := [.tmp 4], code := .seq (.reg [⟨some 4, .mv (.c (.bool false)), none⟩]) (.kp [0, 1, 2] (.seq (.seq (.reg [⟨some 5, .load none (.t 1), none⟩,
    ⟨some 6, .len (.t 5), none⟩,
    ⟨some 7, .load none (.t 2), none⟩,
    ⟨some 8, .bin .eql (.t 6) (.t 7), none⟩]) (.kp [0, 1, 8] (.cond (.t 8) (.seq (.reg [⟨some 4, .mv (.c (.bool false)), none⟩]) (.ret)) (.skip)))) (c24_k1))) }
theorem cmp24 : (cFun Tryz.prog efs Tryz.f24).map (fun x => (x.nargs, x.nt, x.res, x.code)) = some (c24.nargs, c24.nt, c24.res, bare c24.code) := by kernel_rfl
def c45_k1 : ACode := .kp [2] (.seq (.reg [⟨some 9, .load none (.t 2), none⟩,
    ⟨some 10, .bin .eql (.t 9) (.c (.int .i64 0)), none⟩,
    ⟨some 4, .mv (.t 10), none⟩]) (.ret))
def c45_k1_go {Q e n H} := @awgoD Tryz.prog _ _ c45_k1.eq_1 Q e n H
def c45 : AFun := { nargs := 3, nt := 11, res := [.tmp 4], code := .seq (.reg [⟨some 4, .mv (.c (.bool false)), none⟩]) (.kp [0, 1, 2] (.seq (.seq (.reg [⟨some 5, .mv (.t 0), none⟩,
    ⟨some 6, .load none (.t 1), none⟩,
    ⟨some 7, .bin .gtr (.t 5) (.t 6), none⟩]) (.kp [0, 2, 7] (.cond (.t 7) (.reg [⟨some 8, .mv (.t 0), none⟩,
    ⟨none, .store none (.t 2) (.t 8), none⟩]) (.skip)))) (c45_k1))) }
theorem cmp45 : (cFun Tryz.prog efs Tryz.f45).map (fun x => (x.nargs, x.nt, x.res, x.code)) = some (c45.nargs, c45.nt, c45.res, bare c45.code) := by kernel_rfl
def c7_k1 : ACode := .kp [0, 4, 5, 7] (.seq (.reg [⟨some 9, .alloc 22 [(.sl 0 [] .nil)], none⟩]) (.kp [0, 4, 5, 7, 9] (.seq (.reg [⟨some 24, .mv (.t 0), none⟩,
    ⟨some 25, .load (some 8) (.t 4), none⟩,
    ⟨some 26, .mkfn 24 [] [(.t 9), (.t 5)], none⟩,
    ⟨some 27, .call 23 [(.t 24), (.t 25), (.t 26)], none⟩]) (.kp [7, 9] (.seq (.reg [⟨some 28, .load none (.t 9), none⟩,
    ⟨some 29, .build [(.int .i64 0), (.int .i64 0)] [], none⟩,
    ⟨some 6, .mv (.t 28), none⟩,
    ⟨none, .store (some 2) (.t 7) (.t 29), none⟩]) (.ret))))))
def c7_k1_go {Q e n H} := @awgoD Tryz.prog _ _ c7_k1.eq_1 Q e n H
def c7_k2 : ACode := .kp [0, 4, 5, 7] (.seq (.seq (.segs [⟨none, [⟨some 17, .load none (.t 5), none⟩,
      ⟨some 18, .bin .lss (.t 17) (.c (.int .i64 0)), none⟩,
      ⟨some 19, .mv (.t 18), none⟩], none⟩,
    ⟨some (19, false), [⟨some 20, .load none (.t 5), none⟩,
      ⟨some 21, .bin .gtr (.t 20) (.c (.int .i64 20001)), none⟩], some (22, 21)⟩]) (.kp [0, 4, 5, 7, 22] (.cond (.t 22) (.seq (.reg [⟨some 23, .build [(.int .i64 0), (.int .i64 0)] [(0, none, (.c (.int .i64 4))), (1, none, (.c (.int .i64 (-3))))], none⟩,
    ⟨some 6, .mv (.c (.sl 0 [] .nil)), none⟩,
    ⟨none, .store (some 2) (.t 7) (.t 23), none⟩]) (.ret)) (.skip)))) (c7_k1))
def c7_k2_go {Q e n H} := @awgoD Tryz.prog _ _ c7_k2.eq_1 Q e n H
def c7 : AFun := { nargs := 3, nt := 30, res := [.tmp 6, .cell 7 (some 2)], code := .seq (.reg [⟨some 4, .box 25 (some 8) (.t 1), none⟩,
    ⟨some 5, .box 3 none (.t 2), none⟩,
    ⟨some 6, .mv (.c (.sl 0 [] .nil)), none⟩,
    ⟨some 7, .alloc 27 [(.int .i64 0), (.int .i64 0)], none⟩]) (.kp [0, 4, 5, 7] (.seq (.seq (.reg [⟨some 10, .mv (.t 0), none⟩,
    ⟨some 11, .load (some 8) (.t 4), none⟩,
    ⟨some 12, .callp 22 [(.t 10), (.t 11)], none⟩,
    ⟨some 8, .alloc 27 [(.int .i64 0), (.int .i64 0)], none⟩,
    ⟨none, .store (some 2) (.t 8) (.t 12), none⟩]) (.kp [0, 4, 5, 7, 8] (.seq (.reg [⟨some 13, .faddr (.t 8) 0 none, none⟩,
    ⟨some 14, .load none (.t 13), none⟩,
    ⟨some 15, .bin .neq (.t 14) (.c (.int .i64 0)), none⟩]) (.kp [0, 4, 5, 7, 8, 15] (.cond (.t 15) (.seq (.reg [⟨some 16, .load (some 2) (.t 8), none⟩,
    ⟨some 6, .mv (.c (.sl 0 [] .nil)), none⟩,
    ⟨none, .store (some 2) (.t 7) (.t 16), none⟩]) (.ret)) (.skip)))))) (c7_k2))) }
theorem cmp7 : (cFun Tryz.prog efs Tryz.f7).map (fun x => (x.nargs, x.nt, x.res, x.code)) = some (c7.nargs, c7.nt, c7.res, bare c7.code) := by kernel_rfl
def c16_k1 : ACode := .kp [0, 4, 5, 8] (.seq (.reg [⟨some 10, .alloc 3 [(.int .i64 0)], none⟩,
    ⟨none, .store none (.t 10) (.c (.int .i64 0)), none⟩]) (.kp [0, 4, 5, 8, 10] (.seq (.reg [⟨some 25, .mv (.t 0), none⟩,
    ⟨some 26, .load (some 8) (.t 4), none⟩,
    ⟨some 27, .mkfn 45 [] [(.t 5), (.t 10)], none⟩,
    ⟨some 28, .call 23 [(.t 25), (.t 26), (.t 27)], none⟩]) (.kp [8, 10] (.seq (.reg [⟨some 29, .load none (.t 10), none⟩,
    ⟨some 30, .load none (.t 10), none⟩,
    ⟨some 31, .bin .gtr (.t 30) (.c (.int .i64 0)), none⟩,
    ⟨some 32, .build [(.int .i64 0), (.int .i64 0)] [], none⟩,
    ⟨some 6, .mv (.t 29), none⟩,
    ⟨some 7, .mv (.t 31), none⟩,
    ⟨none, .store (some 2) (.t 8) (.t 32), none⟩]) (.ret))))))
def c16_k1_go {Q e n H} := @awgoD Tryz.prog _ _ c16_k1.eq_1 Q e n H
def c16_k2 : ACode := .kp [0, 4, 5, 8] (.seq (.seq (.segs [⟨none, [⟨some 18, .load none (.t 5), none⟩,
      ⟨some 19, .bin .lss (.t 18) (.c (.int .i64 0)), none⟩,
      ⟨some 20, .mv (.t 19), none⟩], none⟩,
    ⟨some (20, false), [⟨some 21, .load none (.t 5), none⟩,
      ⟨some 22, .bin .gtr (.t 21) (.c (.int .i64 3652059)), none⟩], some (23, 22)⟩]) (.kp [0, 4, 5, 8, 23] (.cond (.t 23) (.seq (.reg [⟨some 24, .build [(.int .i64 0), (.int .i64 0)] [(0, none, (.c (.int .i64 4))), (1, none, (.c (.int .i64 (-3))))], none⟩,
    ⟨some 6, .mv (.c (.int .i64 0)), none⟩,
    ⟨some 7, .mv (.c (.bool false)), none⟩,
    ⟨none, .store (some 2) (.t 8) (.t 24), none⟩]) (.ret)) (.skip)))) (c16_k1))
def c16_k2_go {Q e n H} := @awgoD Tryz.prog _ _ c16_k2.eq_1 Q e n H
def c16 : AFun := { nargs := 3, nt := 33, res := [.tmp 6, .tmp 7, .cell 8 (some 2)], code := .seq (.reg [⟨some 4, .box 25 (some 8) (.t 1), none⟩,
    ⟨some 5, .box 3 none (.t 2), none⟩,
    ⟨some 6, .mv (.c (.int .i64 0)), none⟩,
    ⟨some 7, .mv (.c (.bool false)), none⟩,
    ⟨some 8, .alloc 27 [(.int .i64 0), (.int .i64 0)], none⟩]) (.kp [0, 4, 5, 8] (.seq (.seq (.reg [⟨some 11, .mv (.t 0), none⟩,
    ⟨some 12, .load (some 8) (.t 4), none⟩,
    ⟨some 13, .callp 22 [(.t 11), (.t 12)], none⟩,
    ⟨some 9, .alloc 27 [(.int .i64 0), (.int .i64 0)], none⟩,
    ⟨none, .store (some 2) (.t 9) (.t 13), none⟩]) (.kp [0, 4, 5, 8, 9] (.seq (.reg [⟨some 14, .faddr (.t 9) 0 none, none⟩,
    ⟨some 15, .load none (.t 14), none⟩,
    ⟨some 16, .bin .neq (.t 15) (.c (.int .i64 0)), none⟩]) (.kp [0, 4, 5, 8, 9, 16] (.cond (.t 16) (.seq (.reg [⟨some 17, .load (some 2) (.t 9), none⟩,
    ⟨some 6, .mv (.c (.int .i64 0)), none⟩,
    ⟨some 7, .mv (.c (.bool false)), none⟩,
    ⟨none, .store (some 2) (.t 8) (.t 17), none⟩]) (.ret)) (.skip)))))) (c16_k2))) }
theorem cmp16 : (cFun Tryz.prog efs Tryz.f16).map (fun x => (x.nargs, x.nt, x.res, x.code)) = some (c16.nargs, c16.nt, c16.res, bare c16.code) := by kernel_rfl
def c13 : AFun := { nargs := 0, nt := 56, res := [.tmp 0], code := .seq (.reg [⟨some 0, .mv (.c (.bool false)), none⟩]) (.kp [] (.seq (.reg [⟨some 9, .bsl 3 none [(.c (.int .i64 (-1)))], none⟩,
    ⟨some 10, .build [(.int .i64 0), (.int .i64 0), (.sl 0 [] .nil), (.sl 0 [] .nil), (.sl 0 [] .nil), (.sl 0 [] .nil), (.int .i64 0), (.int .i64 0)] [(0, none, (.c (.int .i64 3))), (1, none, (.c (.int .i64 1))), (3, none, (.t 9))], none⟩,
    ⟨some 1, .alloc 25 [(.int .i64 0), (.int .i64 0), (.sl 0 [] .nil), (.sl 0 [] .nil), (.sl 0 [] .nil), (.sl 0 [] .nil), (.int .i64 0), (.int .i64 0)], none⟩,
    ⟨none, .store (some 8) (.t 1) (.t 10), none⟩]) (.kp [1] (.seq (.reg [⟨some 12, .load (some 8) (.t 1), none⟩,
    ⟨some 13, .callp 7 [(.c (.int .i64 1)), (.t 12), (.c (.int .i64 3))], none⟩,
    ⟨some 11, .mv (.t 13), none⟩,
    ⟨some 14, .extr (.t 11) 0, none⟩,
    ⟨some 15, .extr (.t 11) 1, none⟩,
    ⟨some 3, .alloc 27 [(.int .i64 0), (.int .i64 0)], none⟩,
    ⟨some 2, .mv (.t 14), none⟩,
    ⟨none, .store (some 2) (.t 3) (.t 15), none⟩]) (.kp [1, 2, 3] (.seq (.reg [⟨some 17, .load (some 8) (.t 1), none⟩,
    ⟨some 18, .callp 16 [(.c (.int .i64 1)), (.t 17), (.c (.int .i64 31))], none⟩,
    ⟨some 16, .mv (.t 18), none⟩,
    ⟨some 19, .extr (.t 16) 0, none⟩,
    ⟨some 20, .extr (.t 16) 1, none⟩,
    ⟨some 21, .extr (.t 16) 2, none⟩,
    ⟨some 6, .alloc 27 [(.int .i64 0), (.int .i64 0)], none⟩,
    ⟨some 4, .mv (.t 19), none⟩,
    ⟨some 5, .mv (.t 20), none⟩,
    ⟨none, .store (some 2) (.t 6) (.t 21), none⟩]) (.kp [1, 2, 3, 4, 5, 6] (.seq (.reg [⟨some 23, .load (some 8) (.t 1), none⟩,
    ⟨some 24, .callp 17 [(.t 23)], none⟩,
    ⟨some 22, .mv (.t 24), none⟩,
    ⟨some 25, .extr (.t 22) 0, none⟩,
    ⟨some 26, .extr (.t 22) 1, none⟩,
    ⟨some 8, .alloc 27 [(.int .i64 0), (.int .i64 0)], none⟩,
    ⟨some 7, .mv (.t 25), none⟩,
    ⟨none, .store (some 2) (.t 8) (.t 26), none⟩]) (.kp [2, 3, 4, 5, 6, 7, 8] (.seq (.segs [⟨none, [⟨some 27, .faddr (.t 3) 0 none, none⟩,
      ⟨some 28, .load none (.t 27), none⟩,
      ⟨some 29, .bin .eql (.t 28) (.c (.int .i64 0)), none⟩,
      ⟨some 30, .mv (.t 29), none⟩], none⟩,
    ⟨some (30, true), [⟨some 31, .faddr (.t 6) 0 none, none⟩,
      ⟨some 32, .load none (.t 31), none⟩,
      ⟨some 33, .bin .eql (.t 32) (.c (.int .i64 0)), none⟩], some (34, 33)⟩,
    ⟨none, [⟨some 35, .mv (.t 34), none⟩], none⟩,
    ⟨some (35, true), [⟨some 36, .faddr (.t 8) 0 none, none⟩,
      ⟨some 37, .load none (.t 36), none⟩,
      ⟨some 38, .bin .eql (.t 37) (.c (.int .i64 0)), none⟩], some (39, 38)⟩,
    ⟨none, [⟨some 40, .mv (.t 39), none⟩], none⟩,
    ⟨some (40, true), [⟨some 41, .mv (.t 2), none⟩,
      ⟨some 42, .bsl 3 none [(.c (.int .i64 31)), (.c (.int .i64 59)), (.c (.int .i64 90))], none⟩,
      ⟨some 43, .callp 14 [(.t 41), (.t 42)], none⟩], none⟩,
    ⟨none, [⟨some 44, .pick (.t 40) (.t 43) (.c (.bool false)), none⟩,
      ⟨some 45, .mv (.t 44), none⟩], none⟩,
    ⟨some (45, true), [⟨some 46, .mv (.t 5), none⟩], some (47, 46)⟩,
    ⟨none, [⟨some 48, .mv (.t 47), none⟩], none⟩,
    ⟨some (48, true), [⟨some 49, .mv (.t 4), none⟩,
      ⟨some 50, .bin .eql (.t 49) (.c (.int .i64 59)), none⟩], some (51, 50)⟩,
    ⟨none, [⟨some 52, .mv (.t 51), none⟩], none⟩,
    ⟨some (52, true), [⟨some 53, .mv (.t 7), none⟩,
      ⟨some 54, .bin .eql (.t 53) (.c (.str [101, 118, 101, 114, 121, 32, 49, 32, 109, 111, 110, 116, 104, 32, 100, 97, 121, 115, 32, 45, 49])), none⟩], some (55, 54)⟩,
    ⟨none, [⟨some 0, .mv (.t 55), none⟩], none⟩]) (.ret))))))))))) }
theorem cmp13 : (cFun Tryz.prog efs Tryz.f13).map (fun x => (x.nargs, x.nt, x.res, x.code)) = some (c13.nargs, c13.nt, c13.res, bare c13.code) := by kernel_rfl
end Go.Proofs.YtecpfmhminkalaaGreatDoor
