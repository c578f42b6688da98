/- The code of some functions on plain data, by program, and that it is what the program's text gives; no condition. -/
import Derived.Test.YtecpfmhminkalaaGreatDoorMgB
import Derived.Test.YtecpfmhminkalaaGreatDoorProg
import Derived.KernelRfl
set_option linter.all false
set_option linter.unusedSimpArgs false
set_option linter.unusedVariables false
namespace Go.Proofs.YtecpfmhminkalaaGreatDoor
/-- the functions that turn memory of their caller's -/
def efs : List Nat := [23, 24, 45, 65, 48, 68, 70, 86, 88, 89, 92, 93, 94]
theorem awgoA {P : Program} {c d : ACode} (h : c = d) {Q : AExit → AS → Prop} {e : AEnv} {n : Nat} {H : AHeap} : aw P c Q ⟨e, n, H⟩ = aw P d Q ⟨e, n, H⟩ := by rw [h]
def c11 : AFun := { nargs := 3, nt := 15, res := [.tmp 6], code := .seq (.reg [⟨some 6, .mv (.c (.bool false)), none⟩]) (.kp [0, 1, 2] (.seq (.segs [⟨none, [⟨some 7, .mv (.t 1), none⟩,
      ⟨some 8, .mv (.t 0), none⟩,
      ⟨some 9, .bin .leq (.t 7) (.t 8), none⟩,
      ⟨some 10, .mv (.t 9), none⟩], none⟩,
    ⟨some (10, true), [⟨some 11, .mv (.t 0), none⟩,
      ⟨some 12, .mv (.t 2), none⟩,
      ⟨some 13, .bin .leq (.t 11) (.t 12), none⟩], some (14, 13)⟩,
    ⟨none, [⟨some 6, .mv (.t 14), none⟩], none⟩]) (.ret))) }
theorem cmp11 : (cFun Tryz.prog efs Tryz.f11).map (fun x => (x.nargs, x.nt, x.res, x.code)) = some (c11.nargs, c11.nt, c11.res, bare c11.code) := by kernel_rfl
def c14_k1 : ACode := .kp [] (.seq (.reg [⟨some 4, .mv (.c (.bool true)), none⟩]) (.ret))
def c14_k1_go {Q e n H} := @awgoA Tryz.prog _ _ c14_k1.eq_1 Q e n H
def c14_k2 : ACode := .kp [0, 1, 5] (.reg [⟨some 15, .mv (.t 5), none⟩,
    ⟨some 16, .bin .add (.t 15) (.c (.int .i64 1)), none⟩,
    ⟨some 5, .mv (.t 16), none⟩])
def c14_k2_go {Q e n H} := @awgoA Tryz.prog _ _ c14_k2.eq_1 Q e n H
def c14_k3 : ACode := .kp [0, 1, 5] (.seq (.block 1 (.seq (.reg [⟨some 17, .mv (.t 0), none⟩,
    ⟨some 18, .mv (.t 5), none⟩,
    ⟨some 19, .iaddr 1 none (.t 17) (.t 18), none⟩,
    ⟨some 20, .load none (.t 19), none⟩,
    ⟨some 21, .mv (.t 1), none⟩,
    ⟨some 22, .mv (.t 5), none⟩,
    ⟨some 23, .iaddr 1 none (.t 21) (.t 22), none⟩,
    ⟨some 24, .load none (.t 23), none⟩,
    ⟨some 25, .bin .neq (.t 20) (.t 24), none⟩]) (.kp [0, 1, 5, 25] (.cond (.t 25) (.seq (.reg [⟨some 4, .mv (.c (.bool false)), none⟩]) (.ret)) (.skip))))) (c14_k2))
def c14_k3_go {Q e n H} := @awgoA Tryz.prog _ _ c14_k3.eq_1 Q e n H
def c14_L4 : ACode := .ke [0, 1, 5] (.seq (.seq (.reg [⟨some 11, .mv (.t 5), none⟩,
    ⟨some 12, .mv (.t 0), none⟩,
    ⟨some 13, .len (.t 12), none⟩,
    ⟨some 14, .bin .lss (.t 11) (.t 13), none⟩]) (.kp [0, 1, 5, 14] (.cond (.t 14) (.skip) (.exit 0)))) (c14_k3))
def c14_L4_go {Q e n H} := @awgoA Tryz.prog _ _ c14_L4.eq_1 Q e n H
def c14_k5 : ACode := .kp [0, 1] (.seq (.seq (.reg [⟨some 5, .mv (.c (.int .i64 0)), none⟩]) (.kp [0, 1, 5] (.block 0 (.kp [0, 1, 5] (.loop c14_L4))))) (c14_k1))
def c14_k5_go {Q e n H} := @awgoA Tryz.prog _ _ c14_k5.eq_1 Q e n H
def c14 : AFun := { nargs := 2, nt := 26, res := [.tmp 4], code := .seq (.reg [⟨some 4, .mv (.c (.bool false)), none⟩]) (.kp [0, 1] (.seq (.seq (.reg [⟨some 6, .mv (.t 0), none⟩,
    ⟨some 7, .len (.t 6), none⟩,
    ⟨some 8, .mv (.t 1), none⟩,
    ⟨some 9, .len (.t 8), none⟩,
    ⟨some 10, .bin .neq (.t 7) (.t 9), none⟩]) (.kp [0, 1, 10] (.cond (.t 10) (.seq (.reg [⟨some 4, .mv (.c (.bool false)), none⟩]) (.ret)) (.skip)))) (c14_k5))) }
theorem cmp14 : (cFun Tryz.prog efs Tryz.f14).map (fun x => (x.nargs, x.nt, x.res, x.code)) = some (c14.nargs, c14.nt, c14.res, bare c14.code) := by kernel_rfl
def c116_k1 : ACode := .kp [0, 2, 3] (.seq (.reg [⟨some 12, .mv (.t 0), none⟩,
    ⟨some 13, .callp 135 [(.t 12)], none⟩,
    ⟨some 14, .build [(.int .i64 0), (.int .i64 0)] [], none⟩,
    ⟨none, .store (some 6) (.t 2) (.t 13), none⟩,
    ⟨none, .store (some 2) (.t 3) (.t 14), none⟩]) (.ret))
def c116_k1_go {Q e n H} := @awgoA Tryz.prog _ _ c116_k1.eq_1 Q e n H
def c116 : AFun := { nargs := 1, nt := 15, res := [.cell 2 (some 6), .cell 3 (some 2)], code := .seq (.reg [⟨some 2, .alloc 99 [(.int .i64 0), (.int .i64 0), (.int .i64 0), (.int .i64 0), (.int .i64 0), (.int .i64 0)], none⟩,
    ⟨some 3, .alloc 27 [(.int .i64 0), (.int .i64 0)], none⟩]) (.kp [0, 2, 3] (.seq (.seq (.segs [⟨none, [⟨some 4, .mv (.t 0), none⟩,
      ⟨some 5, .bin .lss (.t 4) (.c (.int .i64 0)), none⟩,
      ⟨some 6, .mv (.t 5), none⟩], none⟩,
    ⟨some (6, false), [⟨some 7, .mv (.t 0), none⟩,
      ⟨some 8, .bin .gtr (.t 7) (.c (.int .i64 315537897599)), none⟩], some (9, 8)⟩]) (.kp [0, 2, 3, 9] (.cond (.t 9) (.seq (.reg [⟨some 10, .build [(.int .i64 0), (.int .i64 0), (.int .i64 0), (.int .i64 0), (.int .i64 0), (.int .i64 0)] [], none⟩,
    ⟨some 11, .build [(.int .i64 0), (.int .i64 0)] [(0, none, (.c (.int .i64 4))), (1, none, (.c (.int .i64 (-1))))], none⟩,
    ⟨none, .store (some 6) (.t 2) (.t 10), none⟩,
    ⟨none, .store (some 2) (.t 3) (.t 11), none⟩]) (.ret)) (.skip)))) (c116_k1))) }
theorem cmp116 : (cFun Tryz.prog efs Tryz.f116).map (fun x => (x.nargs, x.nt, x.res, x.code)) = some (c116.nargs, c116.nt, c116.res, bare c116.code) := by kernel_rfl
def c9_k1 : ACode := .kp [2] (.seq (.reg [⟨some 97, .callp 12 [(.c (.int .i64 0)), (.c (.int .i64 0))], none⟩,
    ⟨none, .store (some 2) (.t 2) (.t 97), none⟩]) (.ret))
def c9_k1_go {Q e n H} := @awgoA Tryz.prog _ _ c9_k1.eq_1 Q e n H
def c9_k2 : ACode := .kp [1, 2] (.seq (.seq (.reg [⟨some 92, .faddr (.t 1) 7 none, none⟩,
    ⟨some 93, .load none (.t 92), none⟩,
    ⟨some 94, .callp 11 [(.t 93), (.c (.int .i64 0)), (.c (.int .i64 3652059))], none⟩,
    ⟨some 95, .not (.t 94), none⟩]) (.kp [2, 95] (.cond (.t 95) (.seq (.reg [⟨some 96, .callp 12 [(.c (.int .i64 4)), (.c (.int .i64 7))], none⟩,
    ⟨none, .store (some 2) (.t 2) (.t 96), none⟩]) (.ret)) (.skip)))) (c9_k1))
def c9_k2_go {Q e n H} := @awgoA Tryz.prog _ _ c9_k2.eq_1 Q e n H
def c9_k3 : ACode := .kp [1, 2] (.seq (.seq (.reg [⟨some 87, .faddr (.t 1) 6 none, none⟩,
    ⟨some 88, .load none (.t 87), none⟩,
    ⟨some 89, .callp 11 [(.t 88), (.c (.int .i64 0)), (.c (.int .i64 20001))], none⟩,
    ⟨some 90, .not (.t 89), none⟩]) (.kp [1, 2, 90] (.cond (.t 90) (.seq (.reg [⟨some 91, .callp 12 [(.c (.int .i64 4)), (.c (.int .i64 6))], none⟩,
    ⟨none, .store (some 2) (.t 2) (.t 91), none⟩]) (.ret)) (.skip)))) (c9_k2))
def c9_k3_go {Q e n H} := @awgoA Tryz.prog _ _ c9_k3.eq_1 Q e n H
def c9_k4 : ACode := .kp [1, 2] (.seq (.seq (.reg [⟨some 80, .faddr (.t 1) 5 none, none⟩,
    ⟨some 81, .load none (.t 80), none⟩,
    ⟨some 82, .callp 41 [(.t 81), (.c (.int .i64 (-366))), (.c (.int .i64 366))], none⟩,
    ⟨some 7, .mv (.t 82), none⟩]) (.kp [1, 2, 7] (.seq (.reg [⟨some 83, .mv (.t 7), none⟩,
    ⟨some 84, .bin .neq (.t 83) (.c (.int .i64 0)), none⟩]) (.kp [1, 2, 7, 84] (.cond (.t 84) (.seq (.reg [⟨some 85, .mv (.t 7), none⟩,
    ⟨some 86, .callp 12 [(.t 85), (.c (.int .i64 5))], none⟩,
    ⟨none, .store (some 2) (.t 2) (.t 86), none⟩]) (.ret)) (.skip)))))) (c9_k3))
def c9_k4_go {Q e n H} := @awgoA Tryz.prog _ _ c9_k4.eq_1 Q e n H
def c9_k5 : ACode := .kp [1, 2, 5] (.reg [⟨some 42, .mv (.t 5), none⟩,
    ⟨some 43, .bin .add (.t 42) (.c (.int .i64 1)), none⟩,
    ⟨some 5, .mv (.t 43), none⟩])
def c9_k5_go {Q e n H} := @awgoA Tryz.prog _ _ c9_k5.eq_1 Q e n H
def c9_k6 : ACode := .kp [1, 2, 5, 6] (.reg [⟨some 66, .mv (.t 6), none⟩,
    ⟨some 67, .bin .add (.t 66) (.c (.int .i64 1)), none⟩,
    ⟨some 6, .mv (.t 67), none⟩])
def c9_k6_go {Q e n H} := @awgoA Tryz.prog _ _ c9_k6.eq_1 Q e n H
def c9_k7 : ACode := .kp [1, 2, 5, 6] (.seq (.block 3 (.seq (.reg [⟨some 68, .faddr (.t 1) 4 none, none⟩,
    ⟨some 69, .load none (.t 68), none⟩,
    ⟨some 70, .mv (.t 6), none⟩,
    ⟨some 71, .iaddr 2 (some 2) (.t 69) (.t 70), none⟩,
    ⟨some 72, .load (some 2) (.t 71), none⟩,
    ⟨some 73, .faddr (.t 1) 4 none, none⟩,
    ⟨some 74, .load none (.t 73), none⟩,
    ⟨some 75, .mv (.t 5), none⟩,
    ⟨some 76, .iaddr 2 (some 2) (.t 74) (.t 75), none⟩,
    ⟨some 77, .load (some 2) (.t 76), none⟩,
    ⟨some 78, .eqs [.i, .i] false (.t 72) (.t 77), none⟩]) (.kp [1, 2, 5, 6, 78] (.cond (.t 78) (.seq (.reg [⟨some 79, .callp 12 [(.c (.int .i64 8)), (.c (.int .i64 4))], none⟩,
    ⟨none, .store (some 2) (.t 2) (.t 79), none⟩]) (.ret)) (.skip))))) (c9_k6))
def c9_k7_go {Q e n H} := @awgoA Tryz.prog _ _ c9_k7.eq_1 Q e n H
def c9_L8 : ACode := .ke [1, 2, 5, 6] (.seq (.seq (.reg [⟨some 63, .mv (.t 6), none⟩,
    ⟨some 64, .mv (.t 5), none⟩,
    ⟨some 65, .bin .lss (.t 63) (.t 64), none⟩]) (.kp [1, 2, 5, 6, 65] (.cond (.t 65) (.skip) (.exit 2)))) (c9_k7))
def c9_L8_go {Q e n H} := @awgoA Tryz.prog _ _ c9_L8.eq_1 Q e n H
def c9_k9 : ACode := .kp [1, 2, 5] (.seq (.reg [⟨some 6, .mv (.c (.int .i64 0)), none⟩]) (.kp [1, 2, 5, 6] (.block 2 (.kp [1, 2, 5, 6] (.loop c9_L8)))))
def c9_k9_go {Q e n H} := @awgoA Tryz.prog _ _ c9_k9.eq_1 Q e n H
def c9_k10 : ACode := .kp [1, 2, 5] (.seq (.block 1 (.seq (.seq (.segs [⟨none, [⟨some 44, .faddr (.t 1) 4 none, none⟩,
      ⟨some 45, .load none (.t 44), none⟩,
      ⟨some 46, .mv (.t 5), none⟩,
      ⟨some 47, .iaddr 2 (some 2) (.t 45) (.t 46), none⟩,
      ⟨some 48, .faddr (.t 47) 0 none, none⟩,
      ⟨some 49, .load none (.t 48), none⟩,
      ⟨some 50, .callp 11 [(.t 49), (.c (.int .i64 0)), (.c (.int .i64 6))], none⟩,
      ⟨some 51, .not (.t 50), none⟩,
      ⟨some 52, .mv (.t 51), none⟩], none⟩,
    ⟨some (52, false), [⟨some 53, .faddr (.t 1) 4 none, none⟩,
      ⟨some 54, .load none (.t 53), none⟩,
      ⟨some 55, .mv (.t 5), none⟩,
      ⟨some 56, .iaddr 2 (some 2) (.t 54) (.t 55), none⟩,
      ⟨some 57, .faddr (.t 56) 1 none, none⟩,
      ⟨some 58, .load none (.t 57), none⟩,
      ⟨some 59, .callp 11 [(.t 58), (.c (.int .i64 (-5))), (.c (.int .i64 5))], none⟩,
      ⟨some 60, .not (.t 59), none⟩], none⟩,
    ⟨none, [⟨some 61, .pick (.t 52) (.c (.bool true)) (.t 60), none⟩], none⟩]) (.kp [1, 2, 5, 61] (.cond (.t 61) (.seq (.reg [⟨some 62, .callp 12 [(.c (.int .i64 4)), (.c (.int .i64 4))], none⟩,
    ⟨none, .store (some 2) (.t 2) (.t 62), none⟩]) (.ret)) (.skip)))) (c9_k9))) (c9_k5))
def c9_k10_go {Q e n H} := @awgoA Tryz.prog _ _ c9_k10.eq_1 Q e n H
def c9_L11 : ACode := .ke [1, 2, 5] (.seq (.seq (.reg [⟨some 37, .mv (.t 5), none⟩,
    ⟨some 38, .faddr (.t 1) 4 none, none⟩,
    ⟨some 39, .load none (.t 38), none⟩,
    ⟨some 40, .len (.t 39), none⟩,
    ⟨some 41, .bin .lss (.t 37) (.t 40), none⟩]) (.kp [1, 2, 5, 41] (.cond (.t 41) (.skip) (.exit 0)))) (c9_k10))
def c9_L11_go {Q e n H} := @awgoA Tryz.prog _ _ c9_L11.eq_1 Q e n H
def c9_k12 : ACode := .kp [1, 2] (.seq (.seq (.reg [⟨some 5, .mv (.c (.int .i64 0)), none⟩]) (.kp [1, 2, 5] (.block 0 (.kp [1, 2, 5] (.loop c9_L11))))) (c9_k4))
def c9_k12_go {Q e n H} := @awgoA Tryz.prog _ _ c9_k12.eq_1 Q e n H
def c9_k13 : ACode := .kp [1, 2] (.seq (.seq (.reg [⟨some 32, .faddr (.t 1) 4 none, none⟩,
    ⟨some 33, .load none (.t 32), none⟩,
    ⟨some 34, .len (.t 33), none⟩,
    ⟨some 35, .bin .gtr (.t 34) (.c (.int .i64 12)), none⟩]) (.kp [1, 2, 35] (.cond (.t 35) (.seq (.reg [⟨some 36, .callp 12 [(.c (.int .i64 2)), (.c (.int .i64 4))], none⟩,
    ⟨none, .store (some 2) (.t 2) (.t 36), none⟩]) (.ret)) (.skip)))) (c9_k12))
def c9_k13_go {Q e n H} := @awgoA Tryz.prog _ _ c9_k13.eq_1 Q e n H
def c9_k14 : ACode := .kp [1, 2] (.seq (.seq (.reg [⟨some 25, .faddr (.t 1) 3 none, none⟩,
    ⟨some 26, .load none (.t 25), none⟩,
    ⟨some 27, .callp 41 [(.t 26), (.c (.int .i64 (-31))), (.c (.int .i64 31))], none⟩,
    ⟨some 4, .mv (.t 27), none⟩]) (.kp [1, 2, 4] (.seq (.reg [⟨some 28, .mv (.t 4), none⟩,
    ⟨some 29, .bin .neq (.t 28) (.c (.int .i64 0)), none⟩]) (.kp [1, 2, 4, 29] (.cond (.t 29) (.seq (.reg [⟨some 30, .mv (.t 4), none⟩,
    ⟨some 31, .callp 12 [(.t 30), (.c (.int .i64 3))], none⟩,
    ⟨none, .store (some 2) (.t 2) (.t 31), none⟩]) (.ret)) (.skip)))))) (c9_k13))
def c9_k14_go {Q e n H} := @awgoA Tryz.prog _ _ c9_k14.eq_1 Q e n H
def c9_k15 : ACode := .kp [1, 2] (.seq (.seq (.reg [⟨some 18, .faddr (.t 1) 2 none, none⟩,
    ⟨some 19, .load none (.t 18), none⟩,
    ⟨some 20, .callp 41 [(.t 19), (.c (.int .i64 1)), (.c (.int .i64 12))], none⟩,
    ⟨some 3, .mv (.t 20), none⟩]) (.kp [1, 2, 3] (.seq (.reg [⟨some 21, .mv (.t 3), none⟩,
    ⟨some 22, .bin .neq (.t 21) (.c (.int .i64 0)), none⟩]) (.kp [1, 2, 3, 22] (.cond (.t 22) (.seq (.reg [⟨some 23, .mv (.t 3), none⟩,
    ⟨some 24, .callp 12 [(.t 23), (.c (.int .i64 2))], none⟩,
    ⟨none, .store (some 2) (.t 2) (.t 24), none⟩]) (.ret)) (.skip)))))) (c9_k14))
def c9_k15_go {Q e n H} := @awgoA Tryz.prog _ _ c9_k15.eq_1 Q e n H
def c9_k16 : ACode := .kp [1, 2] (.seq (.seq (.reg [⟨some 13, .faddr (.t 1) 1 none, none⟩,
    ⟨some 14, .load none (.t 13), none⟩,
    ⟨some 15, .callp 11 [(.t 14), (.c (.int .i64 1)), (.c (.int .i64 1000))], none⟩,
    ⟨some 16, .not (.t 15), none⟩]) (.kp [1, 2, 16] (.cond (.t 16) (.seq (.reg [⟨some 17, .callp 12 [(.c (.int .i64 4)), (.c (.int .i64 1))], none⟩,
    ⟨none, .store (some 2) (.t 2) (.t 17), none⟩]) (.ret)) (.skip)))) (c9_k15))
def c9_k16_go {Q e n H} := @awgoA Tryz.prog _ _ c9_k16.eq_1 Q e n H
def c9 : AFun := { nargs := 1, nt := 98, res := [.cell 2 (some 2)], code := .seq (.reg [⟨some 1, .box 25 (some 8) (.t 0), none⟩,
    ⟨some 2, .alloc 27 [(.int .i64 0), (.int .i64 0)], none⟩]) (.kp [1, 2] (.seq (.seq (.reg [⟨some 8, .faddr (.t 1) 0 none, none⟩,
    ⟨some 9, .load none (.t 8), none⟩,
    ⟨some 10, .callp 11 [(.t 9), (.c (.int .i64 1)), (.c (.int .i64 4))], none⟩,
    ⟨some 11, .not (.t 10), none⟩]) (.kp [1, 2, 11] (.cond (.t 11) (.seq (.reg [⟨some 12, .callp 12 [(.c (.int .i64 5)), (.c (.int .i64 0))], none⟩,
    ⟨none, .store (some 2) (.t 2) (.t 12), none⟩]) (.ret)) (.skip)))) (c9_k16))) }
theorem cmp9 : (cFun Tryz.prog efs Tryz.f9).map (fun x => (x.nargs, x.nt, x.res, x.code)) = some (c9.nargs, c9.nt, c9.res, bare c9.code) := by kernel_rfl
def c12 : AFun := { nargs := 2, nt := 8, res := [.cell 4 (some 2)], code := .seq (.reg [⟨some 4, .alloc 27 [(.int .i64 0), (.int .i64 0)], none⟩]) (.kp [0, 1, 4] (.seq (.reg [⟨some 5, .mv (.t 0), none⟩,
    ⟨some 6, .mv (.t 1), none⟩,
    ⟨some 7, .build [(.int .i64 0), (.int .i64 0)] [(0, none, (.t 5)), (1, none, (.t 6))], none⟩,
    ⟨none, .store (some 2) (.t 4) (.t 7), none⟩]) (.ret))) }
theorem cmp12 : (cFun Tryz.prog efs Tryz.f12).map (fun x => (x.nargs, x.nt, x.res, x.code)) = some (c12.nargs, c12.nt, c12.res, bare c12.code) := by kernel_rfl
def c22_k1 : ACode := .kp [4] (.seq (.reg [⟨some 19, .build [(.int .i64 0), (.int .i64 0)] [], none⟩,
    ⟨none, .store (some 2) (.t 4) (.t 19), none⟩]) (.ret))
def c22_k1_go {Q e n H} := @awgoA Tryz.prog _ _ c22_k1.eq_1 Q e n H
def c22_k2 : ACode := .kp [0, 4] (.seq (.seq (.segs [⟨none, [⟨some 12, .mv (.t 0), none⟩,
      ⟨some 13, .bin .lss (.t 12) (.c (.int .i64 1)), none⟩,
      ⟨some 14, .mv (.t 13), none⟩], none⟩,
    ⟨some (14, false), [⟨some 15, .mv (.t 0), none⟩,
      ⟨some 16, .bin .gtr (.t 15) (.c (.int .i64 3652059)), none⟩], some (17, 16)⟩]) (.kp [4, 17] (.cond (.t 17) (.seq (.reg [⟨some 18, .build [(.int .i64 0), (.int .i64 0)] [(0, none, (.c (.int .i64 4))), (1, none, (.c (.int .i64 (-1))))], none⟩,
    ⟨none, .store (some 2) (.t 4) (.t 18), none⟩]) (.ret)) (.skip)))) (c22_k1))
def c22_k2_go {Q e n H} := @awgoA Tryz.prog _ _ c22_k2.eq_1 Q e n H
def c22 : AFun := { nargs := 2, nt := 20, res := [.cell 4 (some 2)], code := .seq (.reg [⟨some 3, .box 25 (some 8) (.t 1), none⟩,
    ⟨some 4, .alloc 27 [(.int .i64 0), (.int .i64 0)], none⟩]) (.kp [0, 3, 4] (.seq (.seq (.reg [⟨some 6, .load (some 8) (.t 3), none⟩,
    ⟨some 7, .callp 8 [(.t 6)], none⟩,
    ⟨some 5, .alloc 27 [(.int .i64 0), (.int .i64 0)], none⟩,
    ⟨none, .store (some 2) (.t 5) (.t 7), none⟩]) (.kp [0, 4, 5] (.seq (.reg [⟨some 8, .faddr (.t 5) 0 none, none⟩,
    ⟨some 9, .load none (.t 8), none⟩,
    ⟨some 10, .bin .neq (.t 9) (.c (.int .i64 0)), none⟩]) (.kp [0, 4, 5, 10] (.cond (.t 10) (.seq (.reg [⟨some 11, .load (some 2) (.t 5), none⟩,
    ⟨none, .store (some 2) (.t 4) (.t 11), none⟩]) (.ret)) (.skip)))))) (c22_k2))) }
theorem cmp22 : (cFun Tryz.prog efs Tryz.f22).map (fun x => (x.nargs, x.nt, x.res, x.code)) = some (c22.nargs, c22.nt, c22.res, bare c22.code) := by kernel_rfl
def c135 : AFun := { nargs := 1, nt := 22, res := [.cell 2 (some 6)], code := .seq (.reg [⟨some 2, .alloc 99 [(.int .i64 0), (.int .i64 0), (.int .i64 0), (.int .i64 0), (.int .i64 0), (.int .i64 0)], none⟩]) (.kp [0, 2] (.seq (.reg [⟨some 5, .mv (.t 0), none⟩,
    ⟨some 6, .bin .quo (.t 5) (.c (.int .i64 86400)), none⟩,
    ⟨some 7, .bin .add (.t 6) (.c (.int .i64 1)), none⟩,
    ⟨some 8, .callp 156 [(.t 7)], none⟩,
    ⟨some 3, .alloc 99 [(.int .i64 0), (.int .i64 0), (.int .i64 0), (.int .i64 0), (.int .i64 0), (.int .i64 0)], none⟩,
    ⟨none, .store (some 6) (.t 3) (.t 8), none⟩]) (.kp [0, 2, 3] (.seq (.reg [⟨some 9, .mv (.t 0), none⟩,
    ⟨some 10, .bin .rem (.t 9) (.c (.int .i64 86400)), none⟩,
    ⟨some 4, .mv (.t 10), none⟩]) (.kp [2, 3, 4] (.seq (.reg [⟨some 11, .mv (.t 4), none⟩,
    ⟨some 12, .bin .quo (.t 11) (.c (.int .i64 3600)), none⟩,
    ⟨some 13, .mv (.t 4), none⟩,
    ⟨some 14, .bin .quo (.t 13) (.c (.int .i64 60)), none⟩,
    ⟨some 15, .bin .rem (.t 14) (.c (.int .i64 60)), none⟩,
    ⟨some 16, .mv (.t 4), none⟩,
    ⟨some 17, .bin .rem (.t 16) (.c (.int .i64 60)), none⟩,
    ⟨some 18, .faddr (.t 3) 3 none, none⟩,
    ⟨none, .store none (.t 18) (.t 12), none⟩,
    ⟨some 19, .faddr (.t 3) 4 none, none⟩,
    ⟨none, .store none (.t 19) (.t 15), none⟩,
    ⟨some 20, .faddr (.t 3) 5 none, none⟩,
    ⟨none, .store none (.t 20) (.t 17), none⟩]) (.kp [2, 3] (.seq (.reg [⟨some 21, .load (some 6) (.t 3), none⟩,
    ⟨none, .store (some 6) (.t 2) (.t 21), none⟩]) (.ret))))))))) }
theorem cmp135 : (cFun Tryz.prog efs Tryz.f135).map (fun x => (x.nargs, x.nt, x.res, x.code)) = some (c135.nargs, c135.nt, c135.res, bare c135.code) := by kernel_rfl
def c41_k1 : ACode := .kp [] (.seq (.reg [⟨some 6, .mv (.c (.int .i64 0)), none⟩]) (.ret))
def c41_k1_go {Q e n H} := @awgoA Tryz.prog _ _ c41_k1.eq_1 Q e n H
def c41_k2 : ACode := .kp [0, 1, 2, 7] (.reg [⟨some 16, .mv (.t 7), none⟩,
    ⟨some 17, .bin .add (.t 16) (.c (.int .i64 1)), none⟩,
    ⟨some 7, .mv (.t 17), none⟩])
def c41_k2_go {Q e n H} := @awgoA Tryz.prog _ _ c41_k2.eq_1 Q e n H
def c41_k3 : ACode := .kp [0, 1, 2, 7] (.seq (.block 1 (.seq (.reg [⟨some 18, .mv (.t 0), none⟩,
    ⟨some 19, .mv (.t 7), none⟩,
    ⟨some 20, .mv (.t 1), none⟩,
    ⟨some 21, .mv (.t 2), none⟩,
    ⟨some 22, .callp 74 [(.t 18), (.t 19), (.t 20), (.t 21)], none⟩,
    ⟨some 8, .mv (.t 22), none⟩]) (.kp [0, 1, 2, 7, 8] (.seq (.reg [⟨some 23, .mv (.t 8), none⟩,
    ⟨some 24, .bin .neq (.t 23) (.c (.int .i64 0)), none⟩]) (.kp [0, 1, 2, 7, 8, 24] (.cond (.t 24) (.seq (.reg [⟨some 25, .mv (.t 8), none⟩,
    ⟨some 6, .mv (.t 25), none⟩]) (.ret)) (.skip))))))) (c41_k2))
def c41_k3_go {Q e n H} := @awgoA Tryz.prog _ _ c41_k3.eq_1 Q e n H
def c41_L4 : ACode := .ke [0, 1, 2, 7] (.seq (.seq (.reg [⟨some 12, .mv (.t 7), none⟩,
    ⟨some 13, .mv (.t 0), none⟩,
    ⟨some 14, .len (.t 13), none⟩,
    ⟨some 15, .bin .lss (.t 12) (.t 14), none⟩]) (.kp [0, 1, 2, 7, 15] (.cond (.t 15) (.skip) (.exit 0)))) (c41_k3))
def c41_L4_go {Q e n H} := @awgoA Tryz.prog _ _ c41_L4.eq_1 Q e n H
def c41_k5 : ACode := .kp [0, 1, 2] (.seq (.seq (.reg [⟨some 7, .mv (.c (.int .i64 0)), none⟩]) (.kp [0, 1, 2, 7] (.block 0 (.kp [0, 1, 2, 7] (.loop c41_L4))))) (c41_k1))
def c41_k5_go {Q e n H} := @awgoA Tryz.prog _ _ c41_k5.eq_1 Q e n H
def c41 : AFun := { nargs := 3, nt := 26, res := [.tmp 6], code := .seq (.reg [⟨some 6, .mv (.c (.int .i64 0)), none⟩]) (.kp [0, 1, 2] (.seq (.seq (.reg [⟨some 9, .mv (.t 0), none⟩,
    ⟨some 10, .len (.t 9), none⟩,
    ⟨some 11, .bin .gtr (.t 10) (.c (.int .i64 12)), none⟩]) (.kp [0, 1, 2, 11] (.cond (.t 11) (.seq (.reg [⟨some 6, .mv (.c (.int .i64 2)), none⟩]) (.ret)) (.skip)))) (c41_k5))) }
theorem cmp41 : (cFun Tryz.prog efs Tryz.f41).map (fun x => (x.nargs, x.nt, x.res, x.code)) = some (c41.nargs, c41.nt, c41.res, bare c41.code) := by kernel_rfl
def c156_k1 : ACode := .kp [2, 3, 4, 5] (.seq (.reg [⟨some 32, .mv (.t 3), none⟩,
    ⟨some 33, .mv (.t 5), none⟩,
    ⟨some 34, .mv (.t 4), none⟩,
    ⟨some 35, .build [(.int .i64 0), (.int .i64 0), (.int .i64 0), (.int .i64 0), (.int .i64 0), (.int .i64 0)] [(0, none, (.t 32)), (1, none, (.t 33)), (2, none, (.t 34))], none⟩,
    ⟨none, .store (some 6) (.t 2) (.t 35), none⟩]) (.ret))
def c156_k1_go {Q e n H} := @awgoA Tryz.prog _ _ c156_k1.eq_1 Q e n H
def c156_k2 : ACode := .kp [2, 3, 4, 5] (.block 3 (.seq (.reg [⟨some 25, .mv (.t 4), none⟩,
    ⟨some 26, .mv (.t 3), none⟩,
    ⟨some 27, .mv (.t 5), none⟩,
    ⟨some 28, .callp 136 [(.t 26), (.t 27)], none⟩,
    ⟨some 29, .bin .sub (.t 25) (.t 28), none⟩,
    ⟨some 4, .mv (.t 29), none⟩]) (.kp [2, 3, 4, 5] (.reg [⟨some 30, .mv (.t 5), none⟩,
    ⟨some 31, .bin .add (.t 30) (.c (.int .i64 1)), none⟩,
    ⟨some 5, .mv (.t 31), none⟩]))))
def c156_k2_go {Q e n H} := @awgoA Tryz.prog _ _ c156_k2.eq_1 Q e n H
def c156_L3 : ACode := .ke [2, 3, 4, 5] (.seq (.seq (.reg [⟨some 20, .mv (.t 4), none⟩,
    ⟨some 21, .mv (.t 3), none⟩,
    ⟨some 22, .mv (.t 5), none⟩,
    ⟨some 23, .callp 136 [(.t 21), (.t 22)], none⟩,
    ⟨some 24, .bin .gtr (.t 20) (.t 23), none⟩]) (.kp [2, 3, 4, 5, 24] (.cond (.t 24) (.skip) (.exit 2)))) (c156_k2))
def c156_L3_go {Q e n H} := @awgoA Tryz.prog _ _ c156_L3.eq_1 Q e n H
def c156_k4 : ACode := .kp [0, 2, 3] (.seq (.reg [⟨some 16, .mv (.t 0), none⟩,
    ⟨some 17, .mv (.t 3), none⟩,
    ⟨some 18, .callp 158 [(.t 17)], none⟩,
    ⟨some 19, .bin .sub (.t 16) (.t 18), none⟩,
    ⟨some 4, .mv (.t 19), none⟩]) (.kp [2, 3, 4] (.seq (.reg [⟨some 5, .mv (.c (.int .i64 1)), none⟩]) (.kp [2, 3, 4, 5] (.seq (.block 2 (.kp [2, 3, 4, 5] (.loop c156_L3))) (c156_k1))))))
def c156_k4_go {Q e n H} := @awgoA Tryz.prog _ _ c156_k4.eq_1 Q e n H
def c156_k5 : ACode := .kp [0, 2, 3] (.block 1 (.reg [⟨some 14, .mv (.t 3), none⟩,
    ⟨some 15, .bin .add (.t 14) (.c (.int .i64 1)), none⟩,
    ⟨some 3, .mv (.t 15), none⟩]))
def c156_k5_go {Q e n H} := @awgoA Tryz.prog _ _ c156_k5.eq_1 Q e n H
def c156_L6 : ACode := .ke [0, 2, 3] (.seq (.seq (.reg [⟨some 9, .mv (.t 3), none⟩,
    ⟨some 10, .bin .add (.t 9) (.c (.int .i64 1)), none⟩,
    ⟨some 11, .callp 158 [(.t 10)], none⟩,
    ⟨some 12, .mv (.t 0), none⟩,
    ⟨some 13, .bin .lss (.t 11) (.t 12), none⟩]) (.kp [0, 2, 3, 13] (.cond (.t 13) (.skip) (.exit 0)))) (c156_k5))
def c156_L6_go {Q e n H} := @awgoA Tryz.prog _ _ c156_L6.eq_1 Q e n H
def c156 : AFun := { nargs := 1, nt := 36, res := [.cell 2 (some 6)], code := .seq (.reg [⟨some 2, .alloc 99 [(.int .i64 0), (.int .i64 0), (.int .i64 0), (.int .i64 0), (.int .i64 0), (.int .i64 0)], none⟩]) (.kp [0, 2] (.seq (.reg [⟨some 6, .mv (.t 0), none⟩,
    ⟨some 7, .bin .quo (.t 6) (.c (.int .i64 366)), none⟩,
    ⟨some 8, .bin .add (.t 7) (.c (.int .i64 1)), none⟩,
    ⟨some 3, .mv (.t 8), none⟩]) (.kp [0, 2, 3] (.seq (.block 0 (.kp [0, 2, 3] (.loop c156_L6))) (c156_k4))))) }
theorem cmp156 : (cFun Tryz.prog efs Tryz.f156).map (fun x => (x.nargs, x.nt, x.res, x.code)) = some (c156.nargs, c156.nt, c156.res, bare c156.code) := by kernel_rfl
def c74_k1 : ACode := .kp [] (.seq (.reg [⟨some 8, .mv (.c (.int .i64 0)), none⟩]) (.ret))
def c74_k1_go {Q e n H} := @awgoA Tryz.prog _ _ c74_k1.eq_1 Q e n H
def c74_k2 : ACode := .kp [0, 1, 9] (.reg [⟨some 28, .mv (.t 9), none⟩,
    ⟨some 29, .bin .add (.t 28) (.c (.int .i64 1)), none⟩,
    ⟨some 9, .mv (.t 29), none⟩])
def c74_k2_go {Q e n H} := @awgoA Tryz.prog _ _ c74_k2.eq_1 Q e n H
def c74_k3 : ACode := .kp [0, 1, 9] (.seq (.block 1 (.seq (.reg [⟨some 30, .mv (.t 0), none⟩,
    ⟨some 31, .mv (.t 9), none⟩,
    ⟨some 32, .iaddr 1 none (.t 30) (.t 31), none⟩,
    ⟨some 33, .load none (.t 32), none⟩,
    ⟨some 34, .mv (.t 0), none⟩,
    ⟨some 35, .mv (.t 1), none⟩,
    ⟨some 36, .iaddr 1 none (.t 34) (.t 35), none⟩,
    ⟨some 37, .load none (.t 36), none⟩,
    ⟨some 38, .bin .eql (.t 33) (.t 37), none⟩]) (.kp [0, 1, 9, 38] (.cond (.t 38) (.seq (.reg [⟨some 8, .mv (.c (.int .i64 8)), none⟩]) (.ret)) (.skip))))) (c74_k2))
def c74_k3_go {Q e n H} := @awgoA Tryz.prog _ _ c74_k3.eq_1 Q e n H
def c74_L4 : ACode := .ke [0, 1, 9] (.seq (.seq (.reg [⟨some 25, .mv (.t 9), none⟩,
    ⟨some 26, .mv (.t 1), none⟩,
    ⟨some 27, .bin .lss (.t 25) (.t 26), none⟩]) (.kp [0, 1, 9, 27] (.cond (.t 27) (.skip) (.exit 0)))) (c74_k3))
def c74_L4_go {Q e n H} := @awgoA Tryz.prog _ _ c74_L4.eq_1 Q e n H
def c74_k5 : ACode := .kp [0, 1] (.seq (.seq (.reg [⟨some 9, .mv (.c (.int .i64 0)), none⟩]) (.kp [0, 1, 9] (.block 0 (.kp [0, 1, 9] (.loop c74_L4))))) (c74_k1))
def c74_k5_go {Q e n H} := @awgoA Tryz.prog _ _ c74_k5.eq_1 Q e n H
def c74 : AFun := { nargs := 4, nt := 39, res := [.tmp 8], code := .seq (.reg [⟨some 8, .mv (.c (.int .i64 0)), none⟩]) (.kp [0, 1, 2, 3] (.seq (.seq (.segs [⟨none, [⟨some 10, .mv (.t 0), none⟩,
      ⟨some 11, .mv (.t 1), none⟩,
      ⟨some 12, .iaddr 1 none (.t 10) (.t 11), none⟩,
      ⟨some 13, .load none (.t 12), none⟩,
      ⟨some 14, .mv (.t 2), none⟩,
      ⟨some 15, .mv (.t 3), none⟩,
      ⟨some 16, .callp 11 [(.t 13), (.t 14), (.t 15)], none⟩,
      ⟨some 17, .not (.t 16), none⟩,
      ⟨some 18, .mv (.t 17), none⟩], none⟩,
    ⟨some (18, false), [⟨some 19, .mv (.t 0), none⟩,
      ⟨some 20, .mv (.t 1), none⟩,
      ⟨some 21, .iaddr 1 none (.t 19) (.t 20), none⟩,
      ⟨some 22, .load none (.t 21), none⟩,
      ⟨some 23, .bin .eql (.t 22) (.c (.int .i64 0)), none⟩], some (24, 23)⟩]) (.kp [0, 1, 24] (.cond (.t 24) (.seq (.reg [⟨some 8, .mv (.c (.int .i64 4)), none⟩]) (.ret)) (.skip)))) (c74_k5))) }
theorem cmp74 : (cFun Tryz.prog efs Tryz.f74).map (fun x => (x.nargs, x.nt, x.res, x.code)) = some (c74.nargs, c74.nt, c74.res, bare c74.code) := by kernel_rfl
def c8_k1 : ACode := .kp [2] (.seq (.reg [⟨some 29, .build [(.int .i64 0), (.int .i64 0)] [], none⟩,
    ⟨none, .store (some 2) (.t 2) (.t 29), none⟩]) (.ret))
def c8_k1_go {Q e n H} := @awgoA Tryz.prog _ _ c8_k1.eq_1 Q e n H
def c8_k2 : ACode := .kp [2, 16, 17] (.reg [⟨some 28, .bin .add (.t 17) (.c (.int .i64 1)), none⟩,
    ⟨some 17, .mv (.t 28), none⟩])
def c8_k2_go {Q e n H} := @awgoA Tryz.prog _ _ c8_k2.eq_1 Q e n H
def c8_k3 : ACode := .kp [2, 16, 17] (.seq (.block 1 (.seq (.reg [⟨some 19, .mv (.t 17), none⟩,
    ⟨some 20, .aidx 8 1 none (.t 16) (.t 17), none⟩,
    ⟨some 4, .mv (.t 19), none⟩,
    ⟨some 5, .mv (.t 20), none⟩]) (.kp [2, 4, 5, 16, 17] (.seq (.reg [⟨some 21, .mv (.t 5), none⟩,
    ⟨some 22, .callv (.t 21) [], none⟩,
    ⟨some 6, .mv (.t 22), none⟩]) (.kp [2, 4, 6, 16, 17] (.seq (.reg [⟨some 23, .mv (.t 6), none⟩,
    ⟨some 24, .bin .neq (.t 23) (.c (.int .i64 0)), none⟩]) (.kp [2, 4, 6, 16, 17, 24] (.cond (.t 24) (.seq (.reg [⟨some 25, .mv (.t 6), none⟩,
    ⟨some 26, .mv (.t 4), none⟩,
    ⟨some 27, .build [(.int .i64 0), (.int .i64 0)] [(0, none, (.t 25)), (1, none, (.t 26))], none⟩,
    ⟨none, .store (some 2) (.t 2) (.t 27), none⟩]) (.ret)) (.skip))))))))) (c8_k2))
def c8_k3_go {Q e n H} := @awgoA Tryz.prog _ _ c8_k3.eq_1 Q e n H
def c8_L4 : ACode := .ke [2, 16, 17] (.seq (.reg [⟨some 18, .bin .lss (.t 17) (.c (.int .i64 8)), none⟩]) (.kp [2, 16, 17, 18] (.seq (.cond (.t 18) (.skip) (.exit 0)) (c8_k3))))
def c8_L4_go {Q e n H} := @awgoA Tryz.prog _ _ c8_L4.eq_1 Q e n H
def c8 : AFun := { nargs := 1, nt := 30, res := [.cell 2 (some 2)], code := .seq (.reg [⟨some 1, .box 25 (some 8) (.t 0), none⟩,
    ⟨some 2, .alloc 27 [(.int .i64 0), (.int .i64 0)], none⟩]) (.kp [1, 2] (.seq (.reg [⟨some 7, .mkfn 25 [] [(.t 1)], none⟩,
    ⟨some 8, .mkfn 26 [] [(.t 1)], none⟩,
    ⟨some 9, .mkfn 28 [] [(.t 1)], none⟩,
    ⟨some 10, .mkfn 31 [] [(.t 1)], none⟩,
    ⟨some 11, .mkfn 34 [] [(.t 1)], none⟩,
    ⟨some 12, .mkfn 37 [] [(.t 1)], none⟩,
    ⟨some 13, .mkfn 39 [] [(.t 1)], none⟩,
    ⟨some 14, .mkfn 40 [] [(.t 1)], none⟩,
    ⟨some 15, .build [.nfn, .nfn, .nfn, .nfn, .nfn, .nfn, .nfn, .nfn] [(0, none, (.t 7)), (1, none, (.t 8)), (2, none, (.t 9)), (3, none, (.t 10)), (4, none, (.t 11)), (5, none, (.t 12)), (6, none, (.t 13)), (7, none, (.t 14))], none⟩,
    ⟨some 3, .alloc 58 [.nfn, .nfn, .nfn, .nfn, .nfn, .nfn, .nfn, .nfn], none⟩,
    ⟨none, .store (some 8) (.t 3) (.t 15), none⟩]) (.kp [2, 3] (.seq (.seq (.reg [⟨some 16, .load (some 8) (.t 3), none⟩,
    ⟨some 17, .mv (.c (.int .i64 0)), none⟩]) (.kp [2, 16, 17] (.block 0 (.kp [2, 16, 17] (.loop c8_L4))))) (c8_k1))))) }
theorem cmp8 : (cFun Tryz.prog efs Tryz.f8).map (fun x => (x.nargs, x.nt, x.res, x.code)) = some (c8.nargs, c8.nt, c8.res, bare c8.code) := by kernel_rfl
def c25_k1 : ACode := .kp [] (.seq (.reg [⟨some 1, .mv (.c (.int .i64 0)), none⟩]) (.ret))
def c25_k1_go {Q e n H} := @awgoA Tryz.prog _ _ c25_k1.eq_1 Q e n H
def c25 : AFun := { nargs := 1, nt := 10, res := [.tmp 1], code := .seq (.reg [⟨some 1, .mv (.c (.int .i64 0)), none⟩]) (.kp [0] (.seq (.seq (.segs [⟨none, [⟨some 2, .faddr (.t 0) 0 none, none⟩,
      ⟨some 3, .load none (.t 2), none⟩,
      ⟨some 4, .bin .lss (.t 3) (.c (.int .i64 1)), none⟩,
      ⟨some 5, .mv (.t 4), none⟩], none⟩,
    ⟨some (5, false), [⟨some 6, .faddr (.t 0) 0 none, none⟩,
      ⟨some 7, .load none (.t 6), none⟩,
      ⟨some 8, .bin .gtr (.t 7) (.c (.int .i64 4)), none⟩], some (9, 8)⟩]) (.kp [9] (.cond (.t 9) (.seq (.reg [⟨some 1, .mv (.c (.int .i64 5)), none⟩]) (.ret)) (.skip)))) (c25_k1))) }
theorem cmp25 : (cFun Tryz.prog efs Tryz.f25).map (fun x => (x.nargs, x.nt, x.res, x.code)) = some (c25.nargs, c25.nt, c25.res, bare c25.code) := by kernel_rfl
def c26 : AFun := { nargs := 1, nt := 5, res := [.tmp 1], code := .seq (.reg [⟨some 1, .mv (.c (.int .i64 0)), none⟩]) (.kp [0] (.seq (.reg [⟨some 2, .faddr (.t 0) 1 none, none⟩,
    ⟨some 3, .load none (.t 2), none⟩,
    ⟨some 4, .callp 27 [(.t 3), (.c (.int .i64 1)), (.c (.int .i64 1000))], none⟩,
    ⟨some 1, .mv (.t 4), none⟩]) (.ret))) }
theorem cmp26 : (cFun Tryz.prog efs Tryz.f26).map (fun x => (x.nargs, x.nt, x.res, x.code)) = some (c26.nargs, c26.nt, c26.res, bare c26.code) := by kernel_rfl
def c27_k1 : ACode := .kp [] (.seq (.reg [⟨some 6, .mv (.c (.int .i64 0)), none⟩]) (.ret))
def c27_k1_go {Q e n H} := @awgoA Tryz.prog _ _ c27_k1.eq_1 Q e n H
def c27 : AFun := { nargs := 3, nt := 15, res := [.tmp 6], code := .seq (.reg [⟨some 6, .mv (.c (.int .i64 0)), none⟩]) (.kp [0, 1, 2] (.seq (.seq (.segs [⟨none, [⟨some 7, .mv (.t 0), none⟩,
      ⟨some 8, .mv (.t 1), none⟩,
      ⟨some 9, .bin .lss (.t 7) (.t 8), none⟩,
      ⟨some 10, .mv (.t 9), none⟩], none⟩,
    ⟨some (10, false), [⟨some 11, .mv (.t 0), none⟩,
      ⟨some 12, .mv (.t 2), none⟩,
      ⟨some 13, .bin .gtr (.t 11) (.t 12), none⟩], some (14, 13)⟩]) (.kp [14] (.cond (.t 14) (.seq (.reg [⟨some 6, .mv (.c (.int .i64 4)), none⟩]) (.ret)) (.skip)))) (c27_k1))) }
theorem cmp27 : (cFun Tryz.prog efs Tryz.f27).map (fun x => (x.nargs, x.nt, x.res, x.code)) = some (c27.nargs, c27.nt, c27.res, bare c27.code) := by kernel_rfl
def c28 : AFun := { nargs := 1, nt := 5, res := [.tmp 1], code := .seq (.reg [⟨some 1, .mv (.c (.int .i64 0)), none⟩]) (.kp [0] (.seq (.reg [⟨some 2, .faddr (.t 0) 2 none, none⟩,
    ⟨some 3, .load none (.t 2), none⟩,
    ⟨some 4, .callp 29 [(.t 3), (.c (.fn 30 [] []))], none⟩,
    ⟨some 1, .mv (.t 4), none⟩]) (.ret))) }
theorem cmp28 : (cFun Tryz.prog efs Tryz.f28).map (fun x => (x.nargs, x.nt, x.res, x.code)) = some (c28.nargs, c28.nt, c28.res, bare c28.code) := by kernel_rfl
def c29_k1 : ACode := .kp [] (.seq (.reg [⟨some 4, .mv (.c (.int .i64 0)), none⟩]) (.ret))
def c29_k1_go {Q e n H} := @awgoA Tryz.prog _ _ c29_k1.eq_1 Q e n H
def c29_k2 : ACode := .kp [0, 1, 10, 11, 12] (.reg [⟨some 28, .bin .add (.t 12) (.c (.int .i64 1)), none⟩,
    ⟨some 12, .mv (.t 28), none⟩])
def c29_k2_go {Q e n H} := @awgoA Tryz.prog _ _ c29_k2.eq_1 Q e n H
def c29_e3 : ACode := .kp [0, 1, 5, 6, 10, 11, 12] (.seq (.reg [⟨some 23, .mv (.t 0), none⟩,
    ⟨some 24, .mv (.t 5), none⟩,
    ⟨some 25, .cut 1 (.t 23) none (some (.t 24)), none⟩,
    ⟨some 26, .mv (.t 6), none⟩,
    ⟨some 27, .callp 72 [(.t 25), (.t 26)], none⟩,
    ⟨some 22, .mv (.t 27), none⟩]) (.kp [0, 1, 10, 11, 12, 22] (.cond (.t 22) (.seq (.reg [⟨some 4, .mv (.c (.int .i64 8)), none⟩]) (.ret)) (.skip))))
def c29_e3_go {Q e n H} := @awgoA Tryz.prog _ _ c29_e3.eq_1 Q e n H
def c29_k4 : ACode := .kp [0, 1, 10, 11, 12] (.seq (.block 1 (.seq (.reg [⟨some 14, .mv (.t 12), none⟩,
    ⟨some 15, .iaddr 1 none (.t 10) (.t 12), none⟩,
    ⟨some 16, .load none (.t 15), none⟩,
    ⟨some 5, .mv (.t 14), none⟩,
    ⟨some 6, .mv (.t 16), none⟩]) (.kp [0, 1, 5, 6, 10, 11, 12] (.block 2 (.seq (.reg [⟨some 18, .mv (.t 1), none⟩,
    ⟨some 19, .mv (.t 6), none⟩,
    ⟨some 20, .callv (.t 18) [(.t 19)], none⟩,
    ⟨some 21, .not (.t 20), none⟩,
    ⟨some 17, .mv (.t 21), none⟩]) (.kp [0, 1, 5, 6, 10, 11, 12, 17] (.cond (.t 17) (.seq (.reg [⟨some 4, .mv (.c (.int .i64 4)), none⟩]) (.ret)) (c29_e3)))))))) (c29_k2))
def c29_k4_go {Q e n H} := @awgoA Tryz.prog _ _ c29_k4.eq_1 Q e n H
def c29_L5 : ACode := .ke [0, 1, 10, 11, 12] (.seq (.reg [⟨some 13, .bin .lss (.t 12) (.t 11), none⟩]) (.kp [0, 1, 10, 11, 12, 13] (.seq (.cond (.t 13) (.skip) (.exit 0)) (c29_k4))))
def c29_L5_go {Q e n H} := @awgoA Tryz.prog _ _ c29_L5.eq_1 Q e n H
def c29_k6 : ACode := .kp [0, 1] (.seq (.seq (.reg [⟨some 10, .mv (.t 0), none⟩,
    ⟨some 11, .len (.t 10), none⟩,
    ⟨some 12, .mv (.c (.int .i64 0)), none⟩]) (.kp [0, 1, 10, 11, 12] (.block 0 (.kp [0, 1, 10, 11, 12] (.loop c29_L5))))) (c29_k1))
def c29_k6_go {Q e n H} := @awgoA Tryz.prog _ _ c29_k6.eq_1 Q e n H
def c29 : AFun := { nargs := 2, nt := 29, res := [.tmp 4], code := .seq (.reg [⟨some 4, .mv (.c (.int .i64 0)), none⟩]) (.kp [0, 1] (.seq (.seq (.reg [⟨some 7, .mv (.t 0), none⟩,
    ⟨some 8, .len (.t 7), none⟩,
    ⟨some 9, .bin .gtr (.t 8) (.c (.int .i64 12)), none⟩]) (.kp [0, 1, 9] (.cond (.t 9) (.seq (.reg [⟨some 4, .mv (.c (.int .i64 2)), none⟩]) (.ret)) (.skip)))) (c29_k6))) }
theorem cmp29 : (cFun Tryz.prog efs Tryz.f29).map (fun x => (x.nargs, x.nt, x.res, x.code)) = some (c29.nargs, c29.nt, c29.res, bare c29.code) := by kernel_rfl
def c30 : AFun := { nargs := 1, nt := 9, res := [.tmp 2], code := .seq (.reg [⟨some 2, .mv (.c (.bool false)), none⟩]) (.kp [0] (.seq (.segs [⟨none, [⟨some 3, .mv (.t 0), none⟩,
      ⟨some 4, .bin .geq (.t 3) (.c (.int .i64 1)), none⟩,
      ⟨some 5, .mv (.t 4), none⟩], none⟩,
    ⟨some (5, true), [⟨some 6, .mv (.t 0), none⟩,
      ⟨some 7, .bin .leq (.t 6) (.c (.int .i64 12)), none⟩], some (8, 7)⟩,
    ⟨none, [⟨some 2, .mv (.t 8), none⟩], none⟩]) (.ret))) }
theorem cmp30 : (cFun Tryz.prog efs Tryz.f30).map (fun x => (x.nargs, x.nt, x.res, x.code)) = some (c30.nargs, c30.nt, c30.res, bare c30.code) := by kernel_rfl
def c31 : AFun := { nargs := 1, nt := 5, res := [.tmp 1], code := .seq (.reg [⟨some 1, .mv (.c (.int .i64 0)), none⟩]) (.kp [0] (.seq (.reg [⟨some 2, .faddr (.t 0) 3 none, none⟩,
    ⟨some 3, .load none (.t 2), none⟩,
    ⟨some 4, .callp 29 [(.t 3), (.c (.fn 32 [] []))], none⟩,
    ⟨some 1, .mv (.t 4), none⟩]) (.ret))) }
theorem cmp31 : (cFun Tryz.prog efs Tryz.f31).map (fun x => (x.nargs, x.nt, x.res, x.code)) = some (c31.nargs, c31.nt, c31.res, bare c31.code) := by kernel_rfl
def c32 : AFun := { nargs := 1, nt := 5, res := [.tmp 2], code := .seq (.reg [⟨some 2, .mv (.c (.bool false)), none⟩]) (.kp [0] (.seq (.reg [⟨some 3, .mv (.t 0), none⟩,
    ⟨some 4, .callp 33 [(.t 3), (.c (.int .i64 31))], none⟩,
    ⟨some 2, .mv (.t 4), none⟩]) (.ret))) }
theorem cmp32 : (cFun Tryz.prog efs Tryz.f32).map (fun x => (x.nargs, x.nt, x.res, x.code)) = some (c32.nargs, c32.nt, c32.res, bare c32.code) := by kernel_rfl
def c33 : AFun := { nargs := 2, nt := 18, res := [.tmp 4], code := .seq (.reg [⟨some 4, .mv (.c (.bool false)), none⟩]) (.kp [0, 1] (.seq (.segs [⟨none, [⟨some 5, .mv (.t 0), none⟩,
      ⟨some 6, .bin .neq (.t 5) (.c (.int .i64 0)), none⟩,
      ⟨some 7, .mv (.t 6), none⟩], none⟩,
    ⟨some (7, true), [⟨some 8, .mv (.t 0), none⟩,
      ⟨some 9, .mv (.t 1), none⟩,
      ⟨some 10, .neg (.t 9), none⟩,
      ⟨some 11, .bin .geq (.t 8) (.t 10), none⟩], some (12, 11)⟩,
    ⟨none, [⟨some 13, .mv (.t 12), none⟩], none⟩,
    ⟨some (13, true), [⟨some 14, .mv (.t 0), none⟩,
      ⟨some 15, .mv (.t 1), none⟩,
      ⟨some 16, .bin .leq (.t 14) (.t 15), none⟩], some (17, 16)⟩,
    ⟨none, [⟨some 4, .mv (.t 17), none⟩], none⟩]) (.ret))) }
theorem cmp33 : (cFun Tryz.prog efs Tryz.f33).map (fun x => (x.nargs, x.nt, x.res, x.code)) = some (c33.nargs, c33.nt, c33.res, bare c33.code) := by kernel_rfl
def c34 : AFun := { nargs := 1, nt := 5, res := [.tmp 1], code := .seq (.reg [⟨some 1, .mv (.c (.int .i64 0)), none⟩]) (.kp [0] (.seq (.reg [⟨some 2, .faddr (.t 0) 4 none, none⟩,
    ⟨some 3, .load none (.t 2), none⟩,
    ⟨some 4, .callp 35 [(.t 3), (.c (.fn 36 [] []))], none⟩,
    ⟨some 1, .mv (.t 4), none⟩]) (.ret))) }
theorem cmp34 : (cFun Tryz.prog efs Tryz.f34).map (fun x => (x.nargs, x.nt, x.res, x.code)) = some (c34.nargs, c34.nt, c34.res, bare c34.code) := by kernel_rfl
def c35_k1 : ACode := .kp [] (.seq (.reg [⟨some 4, .mv (.c (.int .i64 0)), none⟩]) (.ret))
def c35_k1_go {Q e n H} := @awgoA Tryz.prog _ _ c35_k1.eq_1 Q e n H
def c35_k2 : ACode := .kp [0, 1, 10, 11, 12] (.reg [⟨some 28, .bin .add (.t 12) (.c (.int .i64 1)), none⟩,
    ⟨some 12, .mv (.t 28), none⟩])
def c35_k2_go {Q e n H} := @awgoA Tryz.prog _ _ c35_k2.eq_1 Q e n H
def c35_e3 : ACode := .kp [0, 1, 5, 6, 10, 11, 12] (.seq (.reg [⟨some 23, .mv (.t 0), none⟩,
    ⟨some 24, .mv (.t 5), none⟩,
    ⟨some 25, .cut 2 (.t 23) none (some (.t 24)), none⟩,
    ⟨some 26, .load (some 2) (.t 6), none⟩,
    ⟨some 27, .callp 73 [(.t 25), (.t 26)], none⟩,
    ⟨some 22, .mv (.t 27), none⟩]) (.kp [0, 1, 10, 11, 12, 22] (.cond (.t 22) (.seq (.reg [⟨some 4, .mv (.c (.int .i64 8)), none⟩]) (.ret)) (.skip))))
def c35_e3_go {Q e n H} := @awgoA Tryz.prog _ _ c35_e3.eq_1 Q e n H
def c35_k4 : ACode := .kp [0, 1, 10, 11, 12] (.seq (.block 1 (.seq (.reg [⟨some 14, .mv (.t 12), none⟩,
    ⟨some 15, .iaddr 2 (some 2) (.t 10) (.t 12), none⟩,
    ⟨some 16, .load (some 2) (.t 15), none⟩,
    ⟨some 6, .alloc 56 [(.int .i64 0), (.int .i64 0)], none⟩,
    ⟨some 5, .mv (.t 14), none⟩,
    ⟨none, .store (some 2) (.t 6) (.t 16), none⟩]) (.kp [0, 1, 5, 6, 10, 11, 12] (.block 2 (.seq (.reg [⟨some 18, .mv (.t 1), none⟩,
    ⟨some 19, .load (some 2) (.t 6), none⟩,
    ⟨some 20, .callv (.t 18) [(.t 19)], none⟩,
    ⟨some 21, .not (.t 20), none⟩,
    ⟨some 17, .mv (.t 21), none⟩]) (.kp [0, 1, 5, 6, 10, 11, 12, 17] (.cond (.t 17) (.seq (.reg [⟨some 4, .mv (.c (.int .i64 4)), none⟩]) (.ret)) (c35_e3)))))))) (c35_k2))
def c35_k4_go {Q e n H} := @awgoA Tryz.prog _ _ c35_k4.eq_1 Q e n H
def c35_L5 : ACode := .ke [0, 1, 10, 11, 12] (.seq (.reg [⟨some 13, .bin .lss (.t 12) (.t 11), none⟩]) (.kp [0, 1, 10, 11, 12, 13] (.seq (.cond (.t 13) (.skip) (.exit 0)) (c35_k4))))
def c35_L5_go {Q e n H} := @awgoA Tryz.prog _ _ c35_L5.eq_1 Q e n H
def c35_k6 : ACode := .kp [0, 1] (.seq (.seq (.reg [⟨some 10, .mv (.t 0), none⟩,
    ⟨some 11, .len (.t 10), none⟩,
    ⟨some 12, .mv (.c (.int .i64 0)), none⟩]) (.kp [0, 1, 10, 11, 12] (.block 0 (.kp [0, 1, 10, 11, 12] (.loop c35_L5))))) (c35_k1))
def c35_k6_go {Q e n H} := @awgoA Tryz.prog _ _ c35_k6.eq_1 Q e n H
def c35 : AFun := { nargs := 2, nt := 29, res := [.tmp 4], code := .seq (.reg [⟨some 4, .mv (.c (.int .i64 0)), none⟩]) (.kp [0, 1] (.seq (.seq (.reg [⟨some 7, .mv (.t 0), none⟩,
    ⟨some 8, .len (.t 7), none⟩,
    ⟨some 9, .bin .gtr (.t 8) (.c (.int .i64 12)), none⟩]) (.kp [0, 1, 9] (.cond (.t 9) (.seq (.reg [⟨some 4, .mv (.c (.int .i64 2)), none⟩]) (.ret)) (.skip)))) (c35_k6))) }
theorem cmp35 : (cFun Tryz.prog efs Tryz.f35).map (fun x => (x.nargs, x.nt, x.res, x.code)) = some (c35.nargs, c35.nt, c35.res, bare c35.code) := by kernel_rfl
def c36 : AFun := { nargs := 1, nt := 21, res := [.tmp 2], code := .seq (.reg [⟨some 1, .box 56 (some 2) (.t 0), none⟩,
    ⟨some 2, .mv (.c (.bool false)), none⟩]) (.kp [1] (.seq (.segs [⟨none, [⟨some 3, .faddr (.t 1) 0 none, none⟩,
      ⟨some 4, .load none (.t 3), none⟩,
      ⟨some 5, .bin .geq (.t 4) (.c (.int .i64 0)), none⟩,
      ⟨some 6, .mv (.t 5), none⟩], none⟩,
    ⟨some (6, true), [⟨some 7, .faddr (.t 1) 0 none, none⟩,
      ⟨some 8, .load none (.t 7), none⟩,
      ⟨some 9, .bin .leq (.t 8) (.c (.int .i64 6)), none⟩], some (10, 9)⟩,
    ⟨none, [⟨some 11, .mv (.t 10), none⟩], none⟩,
    ⟨some (11, true), [⟨some 12, .faddr (.t 1) 1 none, none⟩,
      ⟨some 13, .load none (.t 12), none⟩,
      ⟨some 14, .bin .geq (.t 13) (.c (.int .i64 (-5))), none⟩], some (15, 14)⟩,
    ⟨none, [⟨some 16, .mv (.t 15), none⟩], none⟩,
    ⟨some (16, true), [⟨some 17, .faddr (.t 1) 1 none, none⟩,
      ⟨some 18, .load none (.t 17), none⟩,
      ⟨some 19, .bin .leq (.t 18) (.c (.int .i64 5)), none⟩], some (20, 19)⟩,
    ⟨none, [⟨some 2, .mv (.t 20), none⟩], none⟩]) (.ret))) }
theorem cmp36 : (cFun Tryz.prog efs Tryz.f36).map (fun x => (x.nargs, x.nt, x.res, x.code)) = some (c36.nargs, c36.nt, c36.res, bare c36.code) := by kernel_rfl
def c37 : AFun := { nargs := 1, nt := 5, res := [.tmp 1], code := .seq (.reg [⟨some 1, .mv (.c (.int .i64 0)), none⟩]) (.kp [0] (.seq (.reg [⟨some 2, .faddr (.t 0) 5 none, none⟩,
    ⟨some 3, .load none (.t 2), none⟩,
    ⟨some 4, .callp 29 [(.t 3), (.c (.fn 38 [] []))], none⟩,
    ⟨some 1, .mv (.t 4), none⟩]) (.ret))) }
theorem cmp37 : (cFun Tryz.prog efs Tryz.f37).map (fun x => (x.nargs, x.nt, x.res, x.code)) = some (c37.nargs, c37.nt, c37.res, bare c37.code) := by kernel_rfl
def c38 : AFun := { nargs := 1, nt := 5, res := [.tmp 2], code := .seq (.reg [⟨some 2, .mv (.c (.bool false)), none⟩]) (.kp [0] (.seq (.reg [⟨some 3, .mv (.t 0), none⟩,
    ⟨some 4, .callp 33 [(.t 3), (.c (.int .i64 366))], none⟩,
    ⟨some 2, .mv (.t 4), none⟩]) (.ret))) }
theorem cmp38 : (cFun Tryz.prog efs Tryz.f38).map (fun x => (x.nargs, x.nt, x.res, x.code)) = some (c38.nargs, c38.nt, c38.res, bare c38.code) := by kernel_rfl
def c39 : AFun := { nargs := 1, nt := 5, res := [.tmp 1], code := .seq (.reg [⟨some 1, .mv (.c (.int .i64 0)), none⟩]) (.kp [0] (.seq (.reg [⟨some 2, .faddr (.t 0) 6 none, none⟩,
    ⟨some 3, .load none (.t 2), none⟩,
    ⟨some 4, .callp 27 [(.t 3), (.c (.int .i64 0)), (.c (.int .i64 20001))], none⟩,
    ⟨some 1, .mv (.t 4), none⟩]) (.ret))) }
theorem cmp39 : (cFun Tryz.prog efs Tryz.f39).map (fun x => (x.nargs, x.nt, x.res, x.code)) = some (c39.nargs, c39.nt, c39.res, bare c39.code) := by kernel_rfl
def c40 : AFun := { nargs := 1, nt := 5, res := [.tmp 1], code := .seq (.reg [⟨some 1, .mv (.c (.int .i64 0)), none⟩]) (.kp [0] (.seq (.reg [⟨some 2, .faddr (.t 0) 7 none, none⟩,
    ⟨some 3, .load none (.t 2), none⟩,
    ⟨some 4, .callp 27 [(.t 3), (.c (.int .i64 0)), (.c (.int .i64 3652059))], none⟩,
    ⟨some 1, .mv (.t 4), none⟩]) (.ret))) }
theorem cmp40 : (cFun Tryz.prog efs Tryz.f40).map (fun x => (x.nargs, x.nt, x.res, x.code)) = some (c40.nargs, c40.nt, c40.res, bare c40.code) := by kernel_rfl
def c72 : AFun := { nargs := 2, nt := 9, res := [.tmp 4], code := .seq (.reg [⟨some 4, .mv (.c (.bool false)), none⟩]) (.kp [0, 1] (.seq (.reg [⟨some 5, .mv (.t 0), none⟩,
    ⟨some 6, .mv (.t 1), none⟩,
    ⟨some 7, .callp 103 [(.t 5), (.t 6)], none⟩,
    ⟨some 8, .bin .geq (.t 7) (.c (.int .i64 0)), none⟩,
    ⟨some 4, .mv (.t 8), none⟩]) (.ret))) }
theorem cmp72 : (cFun Tryz.prog efs Tryz.f72).map (fun x => (x.nargs, x.nt, x.res, x.code)) = some (c72.nargs, c72.nt, c72.res, bare c72.code) := by kernel_rfl
def c73 : AFun := { nargs := 2, nt := 9, res := [.tmp 4], code := .seq (.reg [⟨some 3, .box 56 (some 2) (.t 1), none⟩,
    ⟨some 4, .mv (.c (.bool false)), none⟩]) (.kp [0, 3] (.seq (.reg [⟨some 5, .mv (.t 0), none⟩,
    ⟨some 6, .load (some 2) (.t 3), none⟩,
    ⟨some 7, .callp 104 [(.t 5), (.t 6)], none⟩,
    ⟨some 8, .bin .geq (.t 7) (.c (.int .i64 0)), none⟩,
    ⟨some 4, .mv (.t 8), none⟩]) (.ret))) }
theorem cmp73 : (cFun Tryz.prog efs Tryz.f73).map (fun x => (x.nargs, x.nt, x.res, x.code)) = some (c73.nargs, c73.nt, c73.res, bare c73.code) := by kernel_rfl
def c103_k1 : ACode := .kp [] (.seq (.reg [⟨some 4, .mv (.c (.int .i64 (-1))), none⟩]) (.ret))
def c103_k1_go {Q e n H} := @awgoA Tryz.prog _ _ c103_k1.eq_1 Q e n H
def c103_k2 : ACode := .kp [0, 1, 7, 8] (.reg [⟨some 18, .bin .add (.t 8) (.c (.int .i64 1)), none⟩,
    ⟨some 8, .mv (.t 18), none⟩])
def c103_k2_go {Q e n H} := @awgoA Tryz.prog _ _ c103_k2.eq_1 Q e n H
def c103_k3 : ACode := .kp [0, 1, 7, 8] (.seq (.block 1 (.seq (.reg [⟨some 10, .mv (.t 8), none⟩,
    ⟨some 5, .mv (.t 10), none⟩]) (.kp [0, 1, 5, 7, 8] (.seq (.reg [⟨some 11, .mv (.t 1), none⟩,
    ⟨some 12, .mv (.t 0), none⟩,
    ⟨some 13, .mv (.t 5), none⟩,
    ⟨some 14, .iaddr 1 none (.t 12) (.t 13), none⟩,
    ⟨some 15, .load none (.t 14), none⟩,
    ⟨some 16, .bin .eql (.t 11) (.t 15), none⟩]) (.kp [0, 1, 5, 7, 8, 16] (.cond (.t 16) (.seq (.reg [⟨some 17, .mv (.t 5), none⟩,
    ⟨some 4, .mv (.t 17), none⟩]) (.ret)) (.skip))))))) (c103_k2))
def c103_k3_go {Q e n H} := @awgoA Tryz.prog _ _ c103_k3.eq_1 Q e n H
def c103_L4 : ACode := .ke [0, 1, 7, 8] (.seq (.reg [⟨some 9, .bin .lss (.t 8) (.t 7), none⟩]) (.kp [0, 1, 7, 8, 9] (.seq (.cond (.t 9) (.skip) (.exit 0)) (c103_k3))))
def c103_L4_go {Q e n H} := @awgoA Tryz.prog _ _ c103_L4.eq_1 Q e n H
def c103 : AFun := { nargs := 2, nt := 19, res := [.tmp 4], code := .seq (.reg [⟨some 4, .mv (.c (.int .i64 0)), none⟩]) (.kp [0, 1] (.seq (.seq (.reg [⟨some 6, .mv (.t 0), none⟩,
    ⟨some 7, .len (.t 6), none⟩,
    ⟨some 8, .mv (.c (.int .i64 0)), none⟩]) (.kp [0, 1, 7, 8] (.block 0 (.kp [0, 1, 7, 8] (.loop c103_L4))))) (c103_k1))) }
theorem cmp103 : (cFun Tryz.prog efs Tryz.f103).map (fun x => (x.nargs, x.nt, x.res, x.code)) = some (c103.nargs, c103.nt, c103.res, bare c103.code) := by kernel_rfl
def c104_k1 : ACode := .kp [] (.seq (.reg [⟨some 4, .mv (.c (.int .i64 (-1))), none⟩]) (.ret))
def c104_k1_go {Q e n H} := @awgoA Tryz.prog _ _ c104_k1.eq_1 Q e n H
def c104_k2 : ACode := .kp [0, 3, 7, 8] (.reg [⟨some 18, .bin .add (.t 8) (.c (.int .i64 1)), none⟩,
    ⟨some 8, .mv (.t 18), none⟩])
def c104_k2_go {Q e n H} := @awgoA Tryz.prog _ _ c104_k2.eq_1 Q e n H
def c104_k3 : ACode := .kp [0, 3, 7, 8] (.seq (.block 1 (.seq (.reg [⟨some 10, .mv (.t 8), none⟩,
    ⟨some 5, .mv (.t 10), none⟩]) (.kp [0, 3, 5, 7, 8] (.seq (.reg [⟨some 11, .load (some 2) (.t 3), none⟩,
    ⟨some 12, .mv (.t 0), none⟩,
    ⟨some 13, .mv (.t 5), none⟩,
    ⟨some 14, .iaddr 2 (some 2) (.t 12) (.t 13), none⟩,
    ⟨some 15, .load (some 2) (.t 14), none⟩,
    ⟨some 16, .eqs [.i, .i] false (.t 11) (.t 15), none⟩]) (.kp [0, 3, 5, 7, 8, 16] (.cond (.t 16) (.seq (.reg [⟨some 17, .mv (.t 5), none⟩,
    ⟨some 4, .mv (.t 17), none⟩]) (.ret)) (.skip))))))) (c104_k2))
def c104_k3_go {Q e n H} := @awgoA Tryz.prog _ _ c104_k3.eq_1 Q e n H
def c104_L4 : ACode := .ke [0, 3, 7, 8] (.seq (.reg [⟨some 9, .bin .lss (.t 8) (.t 7), none⟩]) (.kp [0, 3, 7, 8, 9] (.seq (.cond (.t 9) (.skip) (.exit 0)) (c104_k3))))
def c104_L4_go {Q e n H} := @awgoA Tryz.prog _ _ c104_L4.eq_1 Q e n H
def c104 : AFun := { nargs := 2, nt := 19, res := [.tmp 4], code := .seq (.reg [⟨some 3, .box 56 (some 2) (.t 1), none⟩,
    ⟨some 4, .mv (.c (.int .i64 0)), none⟩]) (.kp [0, 3] (.seq (.seq (.reg [⟨some 6, .mv (.t 0), none⟩,
    ⟨some 7, .len (.t 6), none⟩,
    ⟨some 8, .mv (.c (.int .i64 0)), none⟩]) (.kp [0, 3, 7, 8] (.block 0 (.kp [0, 3, 7, 8] (.loop c104_L4))))) (c104_k1))) }
theorem cmp104 : (cFun Tryz.prog efs Tryz.f104).map (fun x => (x.nargs, x.nt, x.res, x.code)) = some (c104.nargs, c104.nt, c104.res, bare c104.code) := by kernel_rfl
def c100_k1 : ACode := .kp [1, 3] (.seq (.reg [⟨some 11, .load (some 6) (.t 1), none⟩,
    ⟨some 12, .callp 118 [(.t 11)], none⟩,
    ⟨some 13, .build [(.int .i64 0), (.int .i64 0)] [], none⟩,
    ⟨some 2, .mv (.t 12), none⟩,
    ⟨none, .store (some 2) (.t 3) (.t 13), none⟩]) (.ret))
def c100_k1_go {Q e n H} := @awgoA Tryz.prog _ _ c100_k1.eq_1 Q e n H
def c100 : AFun := { nargs := 1, nt := 14, res := [.tmp 2, .cell 3 (some 2)], code := .seq (.reg [⟨some 1, .box 99 (some 6) (.t 0), none⟩,
    ⟨some 2, .mv (.c (.int .i64 0)), none⟩,
    ⟨some 3, .alloc 27 [(.int .i64 0), (.int .i64 0)], none⟩]) (.kp [1, 3] (.seq (.seq (.reg [⟨some 5, .load (some 6) (.t 1), none⟩,
    ⟨some 6, .callp 117 [(.t 5)], none⟩,
    ⟨some 4, .alloc 27 [(.int .i64 0), (.int .i64 0)], none⟩,
    ⟨none, .store (some 2) (.t 4) (.t 6), none⟩]) (.kp [1, 3, 4] (.seq (.reg [⟨some 7, .faddr (.t 4) 0 none, none⟩,
    ⟨some 8, .load none (.t 7), none⟩,
    ⟨some 9, .bin .neq (.t 8) (.c (.int .i64 0)), none⟩]) (.kp [1, 3, 4, 9] (.cond (.t 9) (.seq (.reg [⟨some 10, .load (some 2) (.t 4), none⟩,
    ⟨some 2, .mv (.c (.int .i64 0)), none⟩,
    ⟨none, .store (some 2) (.t 3) (.t 10), none⟩]) (.ret)) (.skip)))))) (c100_k1))) }
theorem cmp100 : (cFun Tryz.prog efs Tryz.f100).map (fun x => (x.nargs, x.nt, x.res, x.code)) = some (c100.nargs, c100.nt, c100.res, bare c100.code) := by kernel_rfl
def c117_k1 : ACode := .kp [2] (.seq (.reg [⟨some 53, .build [(.int .i64 0), (.int .i64 0)] [], none⟩,
    ⟨none, .store (some 2) (.t 2) (.t 53), none⟩]) (.ret))
def c117_k1_go {Q e n H} := @awgoA Tryz.prog _ _ c117_k1.eq_1 Q e n H
def c117_k2 : ACode := .kp [1, 2, 25, 26] (.reg [⟨some 52, .bin .add (.t 26) (.c (.int .i64 1)), none⟩,
    ⟨some 26, .mv (.t 52), none⟩])
def c117_k2_go {Q e n H} := @awgoA Tryz.prog _ _ c117_k2.eq_1 Q e n H
def c117_k3 : ACode := .kp [1, 2, 4, 5, 25, 26] (.seq (.segs [⟨none, [⟨some 38, .faddr (.t 5) 0 none, none⟩,
      ⟨some 39, .load none (.t 38), none⟩,
      ⟨some 40, .faddr (.t 5) 1 none, none⟩,
      ⟨some 41, .load none (.t 40), none⟩,
      ⟨some 42, .bin .lss (.t 39) (.t 41), none⟩,
      ⟨some 43, .mv (.t 42), none⟩], none⟩,
    ⟨some (43, false), [⟨some 44, .faddr (.t 5) 0 none, none⟩,
      ⟨some 45, .load none (.t 44), none⟩,
      ⟨some 46, .faddr (.t 5) 2 none, none⟩,
      ⟨some 47, .load none (.t 46), none⟩,
      ⟨some 48, .bin .gtr (.t 45) (.t 47), none⟩], some (49, 48)⟩]) (.kp [1, 2, 4, 25, 26, 49] (.cond (.t 49) (.seq (.reg [⟨some 50, .mv (.t 4), none⟩,
    ⟨some 51, .build [(.int .i64 0), (.int .i64 0)] [(0, none, (.c (.int .i64 4))), (1, none, (.t 50))], none⟩,
    ⟨none, .store (some 2) (.t 2) (.t 51), none⟩]) (.ret)) (.skip))))
def c117_k3_go {Q e n H} := @awgoA Tryz.prog _ _ c117_k3.eq_1 Q e n H
def c117_k4 : ACode := .kp [1, 2, 25, 26] (.seq (.block 1 (.seq (.reg [⟨some 28, .mv (.t 26), none⟩,
    ⟨some 29, .aidx 6 3 (some 3) (.t 25) (.t 26), none⟩,
    ⟨some 5, .alloc 163 [(.int .i64 0), (.int .i64 0), (.int .i64 0)], none⟩,
    ⟨some 4, .mv (.t 28), none⟩,
    ⟨none, .store (some 3) (.t 5) (.t 29), none⟩]) (.kp [1, 2, 4, 5, 25, 26] (.seq (.seq (.reg [⟨some 30, .mv (.t 4), none⟩,
    ⟨some 31, .bin .eql (.t 30) (.c (.int .i64 2)), none⟩]) (.kp [1, 2, 4, 5, 25, 26, 31] (.cond (.t 31) (.reg [⟨some 32, .faddr (.t 1) 0 none, none⟩,
    ⟨some 33, .load none (.t 32), none⟩,
    ⟨some 34, .faddr (.t 1) 1 none, none⟩,
    ⟨some 35, .load none (.t 34), none⟩,
    ⟨some 36, .callp 136 [(.t 33), (.t 35)], none⟩,
    ⟨some 37, .faddr (.t 5) 2 none, none⟩,
    ⟨none, .store none (.t 37) (.t 36), none⟩]) (.skip)))) (c117_k3))))) (c117_k2))
def c117_k4_go {Q e n H} := @awgoA Tryz.prog _ _ c117_k4.eq_1 Q e n H
def c117_L5 : ACode := .ke [1, 2, 25, 26] (.seq (.reg [⟨some 27, .bin .lss (.t 26) (.c (.int .i64 6)), none⟩]) (.kp [1, 2, 25, 26, 27] (.seq (.cond (.t 27) (.skip) (.exit 0)) (c117_k4))))
def c117_L5_go {Q e n H} := @awgoA Tryz.prog _ _ c117_L5.eq_1 Q e n H
def c117 : AFun := { nargs := 1, nt := 54, res := [.cell 2 (some 2)], code := .seq (.reg [⟨some 1, .box 99 (some 6) (.t 0), none⟩,
    ⟨some 2, .alloc 27 [(.int .i64 0), (.int .i64 0)], none⟩]) (.kp [1, 2] (.seq (.reg [⟨some 6, .faddr (.t 1) 0 none, none⟩,
    ⟨some 7, .load none (.t 6), none⟩,
    ⟨some 8, .build [(.int .i64 0), (.int .i64 0), (.int .i64 0)] [(0, none, (.t 7)), (1, none, (.c (.int .i64 1))), (2, none, (.c (.int .i64 9999)))], none⟩,
    ⟨some 9, .faddr (.t 1) 1 none, none⟩,
    ⟨some 10, .load none (.t 9), none⟩,
    ⟨some 11, .build [(.int .i64 0), (.int .i64 0), (.int .i64 0)] [(0, none, (.t 10)), (1, none, (.c (.int .i64 1))), (2, none, (.c (.int .i64 12)))], none⟩,
    ⟨some 12, .faddr (.t 1) 2 none, none⟩,
    ⟨some 13, .load none (.t 12), none⟩,
    ⟨some 14, .build [(.int .i64 0), (.int .i64 0), (.int .i64 0)] [(0, none, (.t 13)), (1, none, (.c (.int .i64 1))), (2, none, (.c (.int .i64 31)))], none⟩,
    ⟨some 15, .faddr (.t 1) 3 none, none⟩,
    ⟨some 16, .load none (.t 15), none⟩,
    ⟨some 17, .build [(.int .i64 0), (.int .i64 0), (.int .i64 0)] [(0, none, (.t 16)), (1, none, (.c (.int .i64 0))), (2, none, (.c (.int .i64 23)))], none⟩,
    ⟨some 18, .faddr (.t 1) 4 none, none⟩,
    ⟨some 19, .load none (.t 18), none⟩,
    ⟨some 20, .build [(.int .i64 0), (.int .i64 0), (.int .i64 0)] [(0, none, (.t 19)), (1, none, (.c (.int .i64 0))), (2, none, (.c (.int .i64 59)))], none⟩,
    ⟨some 21, .faddr (.t 1) 5 none, none⟩,
    ⟨some 22, .load none (.t 21), none⟩,
    ⟨some 23, .build [(.int .i64 0), (.int .i64 0), (.int .i64 0)] [(0, none, (.t 22)), (1, none, (.c (.int .i64 0))), (2, none, (.c (.int .i64 59)))], none⟩,
    ⟨some 24, .build [(.int .i64 0), (.int .i64 0), (.int .i64 0), (.int .i64 0), (.int .i64 0), (.int .i64 0), (.int .i64 0), (.int .i64 0), (.int .i64 0), (.int .i64 0), (.int .i64 0), (.int .i64 0), (.int .i64 0), (.int .i64 0), (.int .i64 0), (.int .i64 0), (.int .i64 0), (.int .i64 0)] [(0, (some 3), (.t 8)), (3, (some 3), (.t 11)), (6, (some 3), (.t 14)), (9, (some 3), (.t 17)), (12, (some 3), (.t 20)), (15, (some 3), (.t 23))], none⟩,
    ⟨some 3, .alloc 164 [(.int .i64 0), (.int .i64 0), (.int .i64 0), (.int .i64 0), (.int .i64 0), (.int .i64 0), (.int .i64 0), (.int .i64 0), (.int .i64 0), (.int .i64 0), (.int .i64 0), (.int .i64 0), (.int .i64 0), (.int .i64 0), (.int .i64 0), (.int .i64 0), (.int .i64 0), (.int .i64 0)], none⟩,
    ⟨none, .store (some 18) (.t 3) (.t 24), none⟩]) (.kp [1, 2, 3] (.seq (.seq (.reg [⟨some 25, .load (some 18) (.t 3), none⟩,
    ⟨some 26, .mv (.c (.int .i64 0)), none⟩]) (.kp [1, 2, 25, 26] (.block 0 (.kp [1, 2, 25, 26] (.loop c117_L5))))) (c117_k1))))) }
theorem cmp117 : (cFun Tryz.prog efs Tryz.f117).map (fun x => (x.nargs, x.nt, x.res, x.code)) = some (c117.nargs, c117.nt, c117.res, bare c117.code) := by kernel_rfl
def c118 : AFun := { nargs := 1, nt := 18, res := [.tmp 2], code := .seq (.reg [⟨some 1, .box 99 (some 6) (.t 0), none⟩,
    ⟨some 2, .mv (.c (.int .i64 0)), none⟩]) (.kp [1] (.seq (.reg [⟨some 3, .load (some 6) (.t 1), none⟩,
    ⟨some 4, .callp 137 [(.t 3)], none⟩,
    ⟨some 5, .bin .sub (.t 4) (.c (.int .i64 1)), none⟩,
    ⟨some 6, .bin .mul (.t 5) (.c (.int .i64 86400)), none⟩,
    ⟨some 7, .faddr (.t 1) 3 none, none⟩,
    ⟨some 8, .load none (.t 7), none⟩,
    ⟨some 9, .bin .mul (.t 8) (.c (.int .i64 60)), none⟩,
    ⟨some 10, .faddr (.t 1) 4 none, none⟩,
    ⟨some 11, .load none (.t 10), none⟩,
    ⟨some 12, .bin .add (.t 9) (.t 11), none⟩,
    ⟨some 13, .bin .mul (.t 12) (.c (.int .i64 60)), none⟩,
    ⟨some 14, .bin .add (.t 6) (.t 13), none⟩,
    ⟨some 15, .faddr (.t 1) 5 none, none⟩,
    ⟨some 16, .load none (.t 15), none⟩,
    ⟨some 17, .bin .add (.t 14) (.t 16), none⟩,
    ⟨some 2, .mv (.t 17), none⟩]) (.ret))) }
theorem cmp118 : (cFun Tryz.prog efs Tryz.f118).map (fun x => (x.nargs, x.nt, x.res, x.code)) = some (c118.nargs, c118.nt, c118.res, bare c118.code) := by kernel_rfl
def c136_k1 : ACode := .kp [] (.seq (.reg [⟨some 4, .mv (.c (.int .i64 31)), none⟩]) (.ret))
def c136_k1_go {Q e n H} := @awgoA Tryz.prog _ _ c136_k1.eq_1 Q e n H
def c136_k2 : ACode := .kp [] (.seq (.reg [⟨some 4, .mv (.c (.int .i64 28)), none⟩]) (.ret))
def c136_k2_go {Q e n H} := @awgoA Tryz.prog _ _ c136_k2.eq_1 Q e n H
def c136_k3 : ACode := .kp [10] (.cond (.t 10) (.seq (.reg [⟨some 4, .mv (.c (.int .i64 30)), none⟩]) (.ret)) (.skip))
def c136_k3_go {Q e n H} := @awgoA Tryz.prog _ _ c136_k3.eq_1 Q e n H
def c136_e4 : ACode := .kp [5] (.seq (.reg [⟨some 13, .bin .eql (.t 5) (.c (.int .i64 9)), none⟩,
    ⟨some 10, .mv (.t 13), none⟩]) (.kp [5, 10] (.cond (.t 10) (.skip) (.reg [⟨some 14, .bin .eql (.t 5) (.c (.int .i64 11)), none⟩,
    ⟨some 10, .mv (.t 14), none⟩]))))
def c136_e4_go {Q e n H} := @awgoA Tryz.prog _ _ c136_e4.eq_1 Q e n H
def c136_e5 : ACode := .kp [5] (.seq (.reg [⟨some 12, .bin .eql (.t 5) (.c (.int .i64 6)), none⟩,
    ⟨some 10, .mv (.t 12), none⟩]) (.kp [5, 10] (.cond (.t 10) (.skip) (c136_e4))))
def c136_e5_go {Q e n H} := @awgoA Tryz.prog _ _ c136_e5.eq_1 Q e n H
def c136_t6 : ACode := .kp [0] (.seq (.seq (.reg [⟨some 8, .mv (.t 0), none⟩,
    ⟨some 9, .callp 157 [(.t 8)], none⟩]) (.kp [9] (.cond (.t 9) (.seq (.reg [⟨some 4, .mv (.c (.int .i64 29)), none⟩]) (.ret)) (.skip)))) (c136_k2))
def c136_t6_go {Q e n H} := @awgoA Tryz.prog _ _ c136_t6.eq_1 Q e n H
def c136_e7 : ACode := .kp [5] (.seq (.seq (.reg [⟨some 11, .bin .eql (.t 5) (.c (.int .i64 4)), none⟩,
    ⟨some 10, .mv (.t 11), none⟩]) (.kp [5, 10] (.cond (.t 10) (.skip) (c136_e5)))) (c136_k3))
def c136_e7_go {Q e n H} := @awgoA Tryz.prog _ _ c136_e7.eq_1 Q e n H
def c136 : AFun := { nargs := 2, nt := 15, res := [.tmp 4], code := .seq (.reg [⟨some 4, .mv (.c (.int .i64 0)), none⟩]) (.kp [0, 1] (.seq (.seq (.reg [⟨some 5, .mv (.t 1), none⟩]) (.kp [0, 5] (.block 0 (.seq (.reg [⟨some 7, .bin .eql (.t 5) (.c (.int .i64 2)), none⟩,
    ⟨some 6, .mv (.t 7), none⟩]) (.kp [0, 5, 6] (.cond (.t 6) (c136_t6) (c136_e7))))))) (c136_k1))) }
theorem cmp136 : (cFun Tryz.prog efs Tryz.f136).map (fun x => (x.nargs, x.nt, x.res, x.code)) = some (c136.nargs, c136.nt, c136.res, bare c136.code) := by kernel_rfl
def c137 : AFun := { nargs := 1, nt := 14, res := [.tmp 2], code := .seq (.reg [⟨some 1, .box 99 (some 6) (.t 0), none⟩,
    ⟨some 2, .mv (.c (.int .i64 0)), none⟩]) (.kp [1] (.seq (.reg [⟨some 3, .faddr (.t 1) 0 none, none⟩,
    ⟨some 4, .load none (.t 3), none⟩,
    ⟨some 5, .callp 158 [(.t 4)], none⟩,
    ⟨some 6, .faddr (.t 1) 0 none, none⟩,
    ⟨some 7, .load none (.t 6), none⟩,
    ⟨some 8, .faddr (.t 1) 1 none, none⟩,
    ⟨some 9, .load none (.t 8), none⟩,
    ⟨some 10, .faddr (.t 1) 2 none, none⟩,
    ⟨some 11, .load none (.t 10), none⟩,
    ⟨some 12, .callp 159 [(.t 7), (.t 9), (.t 11)], none⟩,
    ⟨some 13, .bin .add (.t 5) (.t 12), none⟩,
    ⟨some 2, .mv (.t 13), none⟩]) (.ret))) }
theorem cmp137 : (cFun Tryz.prog efs Tryz.f137).map (fun x => (x.nargs, x.nt, x.res, x.code)) = some (c137.nargs, c137.nt, c137.res, bare c137.code) := by kernel_rfl
def c158 : AFun := { nargs := 1, nt := 17, res := [.tmp 2], code := .seq (.reg [⟨some 2, .mv (.c (.int .i64 0)), none⟩]) (.kp [0] (.seq (.reg [⟨some 4, .mv (.t 0), none⟩,
    ⟨some 5, .bin .sub (.t 4) (.c (.int .i64 1)), none⟩,
    ⟨some 3, .mv (.t 5), none⟩]) (.kp [3] (.seq (.reg [⟨some 6, .mv (.t 3), none⟩,
    ⟨some 7, .bin .mul (.c (.int .i64 365)) (.t 6), none⟩,
    ⟨some 8, .mv (.t 3), none⟩,
    ⟨some 9, .bin .quo (.t 8) (.c (.int .i64 4)), none⟩,
    ⟨some 10, .bin .add (.t 7) (.t 9), none⟩,
    ⟨some 11, .mv (.t 3), none⟩,
    ⟨some 12, .bin .quo (.t 11) (.c (.int .i64 100)), none⟩,
    ⟨some 13, .bin .sub (.t 10) (.t 12), none⟩,
    ⟨some 14, .mv (.t 3), none⟩,
    ⟨some 15, .bin .quo (.t 14) (.c (.int .i64 400)), none⟩,
    ⟨some 16, .bin .add (.t 13) (.t 15), none⟩,
    ⟨some 2, .mv (.t 16), none⟩]) (.ret))))) }
theorem cmp158 : (cFun Tryz.prog efs Tryz.f158).map (fun x => (x.nargs, x.nt, x.res, x.code)) = some (c158.nargs, c158.nt, c158.res, bare c158.code) := by kernel_rfl
def c157 : AFun := { nargs := 1, nt := 16, res := [.tmp 2], code := .seq (.reg [⟨some 2, .mv (.c (.bool false)), none⟩]) (.kp [0] (.seq (.segs [⟨none, [⟨some 3, .mv (.t 0), none⟩,
      ⟨some 4, .bin .rem (.t 3) (.c (.int .i64 4)), none⟩,
      ⟨some 5, .bin .eql (.t 4) (.c (.int .i64 0)), none⟩,
      ⟨some 6, .mv (.t 5), none⟩], none⟩,
    ⟨some (6, true), [⟨some 7, .mv (.t 0), none⟩,
      ⟨some 8, .bin .rem (.t 7) (.c (.int .i64 100)), none⟩,
      ⟨some 9, .bin .neq (.t 8) (.c (.int .i64 0)), none⟩,
      ⟨some 10, .mv (.t 9), none⟩], none⟩,
    ⟨some (10, false), [⟨some 11, .mv (.t 0), none⟩,
      ⟨some 12, .bin .rem (.t 11) (.c (.int .i64 400)), none⟩,
      ⟨some 13, .bin .eql (.t 12) (.c (.int .i64 0)), none⟩], none⟩,
    ⟨some (6, true), [⟨some 14, .pick (.t 10) (.c (.bool true)) (.t 13), none⟩], some (15, 14)⟩,
    ⟨none, [⟨some 2, .mv (.t 15), none⟩], none⟩]) (.ret))) }
theorem cmp157 : (cFun Tryz.prog efs Tryz.f157).map (fun x => (x.nargs, x.nt, x.res, x.code)) = some (c157.nargs, c157.nt, c157.res, bare c157.code) := by kernel_rfl
def c159_k1 : ACode := .kp [2] (.seq (.reg [⟨some 18, .mv (.t 2), none⟩,
    ⟨some 6, .mv (.t 18), none⟩]) (.ret))
def c159_k1_go {Q e n H} := @awgoA Tryz.prog _ _ c159_k1.eq_1 Q e n H
def c159_k2 : ACode := .kp [0, 1, 2, 7] (.reg [⟨some 11, .mv (.t 7), none⟩,
    ⟨some 12, .bin .add (.t 11) (.c (.int .i64 1)), none⟩,
    ⟨some 7, .mv (.t 12), none⟩])
def c159_k2_go {Q e n H} := @awgoA Tryz.prog _ _ c159_k2.eq_1 Q e n H
def c159_k3 : ACode := .kp [0, 1, 2, 7] (.seq (.block 1 (.reg [⟨some 13, .mv (.t 2), none⟩,
    ⟨some 14, .mv (.t 0), none⟩,
    ⟨some 15, .mv (.t 7), none⟩,
    ⟨some 16, .callp 136 [(.t 14), (.t 15)], none⟩,
    ⟨some 17, .bin .add (.t 13) (.t 16), none⟩,
    ⟨some 2, .mv (.t 17), none⟩])) (c159_k2))
def c159_k3_go {Q e n H} := @awgoA Tryz.prog _ _ c159_k3.eq_1 Q e n H
def c159_L4 : ACode := .ke [0, 1, 2, 7] (.seq (.seq (.reg [⟨some 8, .mv (.t 7), none⟩,
    ⟨some 9, .mv (.t 1), none⟩,
    ⟨some 10, .bin .lss (.t 8) (.t 9), none⟩]) (.kp [0, 1, 2, 7, 10] (.cond (.t 10) (.skip) (.exit 0)))) (c159_k3))
def c159_L4_go {Q e n H} := @awgoA Tryz.prog _ _ c159_L4.eq_1 Q e n H
def c159 : AFun := { nargs := 3, nt := 19, res := [.tmp 6], code := .seq (.reg [⟨some 6, .mv (.c (.int .i64 0)), none⟩]) (.kp [0, 1, 2] (.seq (.seq (.reg [⟨some 7, .mv (.c (.int .i64 1)), none⟩]) (.kp [0, 1, 2, 7] (.block 0 (.kp [0, 1, 2, 7] (.loop c159_L4))))) (c159_k1))) }
theorem cmp159 : (cFun Tryz.prog efs Tryz.f159).map (fun x => (x.nargs, x.nt, x.res, x.code)) = some (c159.nargs, c159.nt, c159.res, bare c159.code) := by kernel_rfl
def c75_k1 : ACode := .kp [2, 9] (.seq (.reg [⟨some 66, .load (some 6) (.t 9), none⟩,
    ⟨none, .store (some 6) (.t 2) (.t 66), none⟩]) (.ret))
def c75_t2 : ACode := .kp [2, 9] (.seq (.reg [⟨some 58, .faddr (.t 9) 1 none, none⟩,
    ⟨some 59, .load none (.t 58), none⟩,
    ⟨some 60, .bin .sub (.t 59) (.c (.int .i64 12)), none⟩,
    ⟨some 61, .faddr (.t 9) 1 none, none⟩,
    ⟨none, .store none (.t 61) (.t 60), none⟩]) (.kp [2, 9] (.reg [⟨some 62, .faddr (.t 9) 0 none, none⟩,
    ⟨some 63, .load none (.t 62), none⟩,
    ⟨some 64, .bin .add (.t 63) (.c (.int .i64 1)), none⟩,
    ⟨some 65, .faddr (.t 9) 0 none, none⟩,
    ⟨none, .store none (.t 65) (.t 64), none⟩])))
def c75 : AFun := { nargs := 1, nt := 67, res := [.cell 2 (some 6)], code := .seq (.reg [⟨some 2, .alloc 99 [(.int .i64 0), (.int .i64 0), (.int .i64 0), (.int .i64 0), (.int .i64 0), (.int .i64 0)], none⟩]) (.kp [0, 2] (.seq (.reg [⟨some 10, .mv (.t 0), none⟩,
    ⟨some 11, .bin .add (.t 10) (.c (.int .i64 305)), none⟩,
    ⟨some 3, .mv (.t 11), none⟩]) (.kp [2, 3] (.seq (.reg [⟨some 12, .mv (.t 3), none⟩,
    ⟨some 13, .bin .quo (.t 12) (.c (.int .i64 146097)), none⟩,
    ⟨some 4, .mv (.t 13), none⟩]) (.kp [2, 3, 4] (.seq (.reg [⟨some 14, .mv (.t 3), none⟩,
    ⟨some 15, .bin .rem (.t 14) (.c (.int .i64 146097)), none⟩,
    ⟨some 5, .mv (.t 15), none⟩]) (.kp [2, 4, 5] (.seq (.reg [⟨some 16, .mv (.t 5), none⟩,
    ⟨some 17, .mv (.t 5), none⟩,
    ⟨some 18, .bin .quo (.t 17) (.c (.int .i64 1460)), none⟩,
    ⟨some 19, .bin .sub (.t 16) (.t 18), none⟩,
    ⟨some 20, .mv (.t 5), none⟩,
    ⟨some 21, .bin .quo (.t 20) (.c (.int .i64 36524)), none⟩,
    ⟨some 22, .bin .add (.t 19) (.t 21), none⟩,
    ⟨some 23, .mv (.t 5), none⟩,
    ⟨some 24, .bin .quo (.t 23) (.c (.int .i64 146096)), none⟩,
    ⟨some 25, .bin .sub (.t 22) (.t 24), none⟩,
    ⟨some 26, .bin .quo (.t 25) (.c (.int .i64 365)), none⟩,
    ⟨some 6, .mv (.t 26), none⟩]) (.kp [2, 4, 5, 6] (.seq (.reg [⟨some 27, .mv (.t 5), none⟩,
    ⟨some 28, .mv (.t 6), none⟩,
    ⟨some 29, .bin .mul (.c (.int .i64 365)) (.t 28), none⟩,
    ⟨some 30, .bin .sub (.t 27) (.t 29), none⟩,
    ⟨some 31, .mv (.t 6), none⟩,
    ⟨some 32, .bin .quo (.t 31) (.c (.int .i64 4)), none⟩,
    ⟨some 33, .bin .sub (.t 30) (.t 32), none⟩,
    ⟨some 34, .mv (.t 6), none⟩,
    ⟨some 35, .bin .quo (.t 34) (.c (.int .i64 100)), none⟩,
    ⟨some 36, .bin .add (.t 33) (.t 35), none⟩,
    ⟨some 7, .mv (.t 36), none⟩]) (.kp [2, 4, 6, 7] (.seq (.reg [⟨some 37, .mv (.t 7), none⟩,
    ⟨some 38, .bin .mul (.c (.int .i64 5)) (.t 37), none⟩,
    ⟨some 39, .bin .add (.t 38) (.c (.int .i64 2)), none⟩,
    ⟨some 40, .bin .quo (.t 39) (.c (.int .i64 153)), none⟩,
    ⟨some 8, .mv (.t 40), none⟩]) (.kp [2, 4, 6, 7, 8] (.seq (.reg [⟨some 41, .mv (.t 6), none⟩,
    ⟨some 42, .mv (.t 4), none⟩,
    ⟨some 43, .bin .mul (.c (.int .i64 400)) (.t 42), none⟩,
    ⟨some 44, .bin .add (.t 41) (.t 43), none⟩,
    ⟨some 45, .mv (.t 8), none⟩,
    ⟨some 46, .bin .add (.t 45) (.c (.int .i64 3)), none⟩,
    ⟨some 47, .mv (.t 7), none⟩,
    ⟨some 48, .mv (.t 8), none⟩,
    ⟨some 49, .bin .mul (.c (.int .i64 153)) (.t 48), none⟩,
    ⟨some 50, .bin .add (.t 49) (.c (.int .i64 2)), none⟩,
    ⟨some 51, .bin .quo (.t 50) (.c (.int .i64 5)), none⟩,
    ⟨some 52, .bin .sub (.t 47) (.t 51), none⟩,
    ⟨some 53, .bin .add (.t 52) (.c (.int .i64 1)), none⟩,
    ⟨some 54, .build [(.int .i64 0), (.int .i64 0), (.int .i64 0), (.int .i64 0), (.int .i64 0), (.int .i64 0)] [(0, none, (.t 44)), (1, none, (.t 46)), (2, none, (.t 53))], none⟩,
    ⟨some 9, .alloc 99 [(.int .i64 0), (.int .i64 0), (.int .i64 0), (.int .i64 0), (.int .i64 0), (.int .i64 0)], none⟩,
    ⟨none, .store (some 6) (.t 9) (.t 54), none⟩]) (.kp [2, 9] (.seq (.seq (.reg [⟨some 55, .faddr (.t 9) 1 none, none⟩,
    ⟨some 56, .load none (.t 55), none⟩,
    ⟨some 57, .bin .gtr (.t 56) (.c (.int .i64 12)), none⟩]) (.kp [2, 9, 57] (.cond (.t 57) (c75_t2) (.skip)))) (c75_k1))))))))))))))))) }
def c76 : AFun := { nargs := 1, nt := 6, res := [.tmp 2], code := .seq (.reg [⟨some 2, .mv (.c (.int .i64 0)), none⟩]) (.kp [0] (.seq (.reg [⟨some 3, .mv (.t 0), none⟩,
    ⟨some 4, .bin .add (.t 3) (.c (.int .i64 6)), none⟩,
    ⟨some 5, .bin .rem (.t 4) (.c (.int .i64 7)), none⟩,
    ⟨some 2, .mv (.t 5), none⟩]) (.ret))) }
end Go.Proofs.YtecpfmhminkalaaGreatDoor
