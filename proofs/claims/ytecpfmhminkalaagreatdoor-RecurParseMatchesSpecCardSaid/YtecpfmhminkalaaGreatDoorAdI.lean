/- The code of some functions on plain data, by program, and that it is what the program's text gives; no condition. -/
import Derived.Test.YtecpfmhminkalaaGreatDoorAdA
import Derived.Test.YtecpfmhminkalaaGreatDoorProg
import Derived.KernelRfl
set_option linter.all false
set_option linter.unusedSimpArgs false
set_option linter.unusedVariables false
namespace Go.Proofs.YtecpfmhminkalaaGreatDoor
theorem awgoI {P : Program} {c d : ACode} (h : c = d) {Q : AExit → AS → Prop} {e : AEnv} {n : Nat} {H : AHeap} : aw P c Q ⟨e, n, H⟩ = aw P d Q ⟨e, n, H⟩ := by rw [h]
def c85 : AFun := { nargs := 1, nt := 26, res := [.tmp 2, .tmp 3], code := .seq (.reg [⟨some 2, .mv (.c (.int .i64 0)), none⟩,
    ⟨some 3, .mv (.c (.bool false)), none⟩]) (.kp [0] (.seq (.reg [⟨some 7, .mv (.t 0), none⟩,
    ⟨some 8, .callp 110 [(.t 7)], none⟩,
    ⟨some 6, .mv (.t 8), none⟩,
    ⟨some 9, .extr (.t 6) 0, none⟩,
    ⟨some 10, .extr (.t 6) 1, none⟩,
    ⟨some 4, .mv (.t 9), none⟩,
    ⟨some 5, .mv (.t 10), none⟩]) (.kp [0, 4, 5] (.seq (.segs [⟨none, [⟨some 11, .mv (.t 4), none⟩,
      ⟨some 12, .mv (.t 5), none⟩,
      ⟨some 13, .eqi false (.t 12), none⟩,
      ⟨some 14, .mv (.t 13), none⟩], none⟩,
    ⟨some (14, true), [⟨some 15, .mv (.t 4), none⟩,
      ⟨some 16, .callp 46 [(.t 15)], none⟩,
      ⟨some 17, .mv (.t 0), none⟩,
      ⟨some 18, .bin .eql (.t 16) (.t 17), none⟩], none⟩,
    ⟨none, [⟨some 19, .pick (.t 14) (.t 18) (.c (.bool false)), none⟩,
      ⟨some 20, .mv (.t 19), none⟩], none⟩,
    ⟨some (20, true), [⟨some 21, .mv (.t 0), none⟩,
      ⟨some 22, .callp 111 [(.t 21), (.c (.str [45]))], none⟩,
      ⟨some 23, .lenS (.t 22), none⟩,
      ⟨some 24, .bin .leq (.t 23) (.c (.int .i64 9)), none⟩], none⟩,
    ⟨none, [⟨some 25, .pick (.t 20) (.t 24) (.c (.bool false)), none⟩,
      ⟨some 2, .mv (.t 11), none⟩,
      ⟨some 3, .mv (.t 25), none⟩], none⟩]) (.ret))))) }
theorem cmp85 : (cFun Tryz.prog efs Tryz.f85).map (fun x => (x.nargs, x.nt, x.res, x.code)) = some (c85.nargs, c85.nt, c85.res, bare c85.code) := by kernel_rfl
def c84_k1 : ACode := .kp [] (.seq (.reg [⟨some 4, .mv (.c (.int .i64 (-1))), none⟩]) (.ret))
def c84_k1_go {Q e n H} := @awgoI Tryz.prog _ _ c84_k1.eq_1 Q e n H
def c84_k2 : ACode := .kp [0, 1, 7, 8] (.reg [⟨some 18, .bin .add (.t 8) (.c (.int .i64 1)), none⟩,
    ⟨some 8, .mv (.t 18), none⟩])
def c84_k2_go {Q e n H} := @awgoI Tryz.prog _ _ c84_k2.eq_1 Q e n H
def c84_k3 : ACode := .kp [0, 1, 7, 8] (.seq (.block 1 (.seq (.reg [⟨some 10, .mv (.t 8), none⟩,
    ⟨some 5, .mv (.t 10), none⟩]) (.kp [0, 1, 5, 7, 8] (.seq (.reg [⟨some 11, .mv (.t 1), none⟩,
    ⟨some 12, .mv (.t 0), none⟩,
    ⟨some 13, .mv (.t 5), none⟩,
    ⟨some 14, .iaddr 1 none (.t 12) (.t 13), none⟩,
    ⟨some 15, .load none (.t 14), none⟩,
    ⟨some 16, .bin .eql (.t 11) (.t 15), none⟩]) (.kp [0, 1, 5, 7, 8, 16] (.cond (.t 16) (.seq (.reg [⟨some 17, .mv (.t 5), none⟩,
    ⟨some 4, .mv (.t 17), none⟩]) (.ret)) (.skip))))))) (c84_k2))
def c84_k3_go {Q e n H} := @awgoI Tryz.prog _ _ c84_k3.eq_1 Q e n H
def c84_L4 : ACode := .ke [0, 1, 7, 8] (.seq (.reg [⟨some 9, .bin .lss (.t 8) (.t 7), none⟩]) (.kp [0, 1, 7, 8, 9] (.seq (.cond (.t 9) (.skip) (.exit 0)) (c84_k3))))
def c84_L4_go {Q e n H} := @awgoI Tryz.prog _ _ c84_L4.eq_1 Q e n H
def c84 : AFun := { nargs := 2, nt := 19, res := [.tmp 4], code := .seq (.reg [⟨some 4, .mv (.c (.int .i64 0)), none⟩]) (.kp [0, 1] (.seq (.seq (.reg [⟨some 6, .mv (.t 0), none⟩,
    ⟨some 7, .len (.t 6), none⟩,
    ⟨some 8, .mv (.c (.int .i64 0)), none⟩]) (.kp [0, 1, 7, 8] (.block 0 (.kp [0, 1, 7, 8] (.loop c84_L4))))) (c84_k1))) }
theorem cmp84 : (cFun Tryz.prog efs Tryz.f84).map (fun x => (x.nargs, x.nt, x.res, x.code)) = some (c84.nargs, c84.nt, c84.res, bare c84.code) := by kernel_rfl
def c91_k1 : ACode := .kp [2, 5, 7] (.seq (.reg [⟨some 27, .mv (.t 5), none⟩,
    ⟨some 28, .callp 85 [(.t 27)], none⟩,
    ⟨some 26, .mv (.t 28), none⟩,
    ⟨some 29, .extr (.t 26) 0, none⟩,
    ⟨some 30, .extr (.t 26) 1, none⟩,
    ⟨some 8, .mv (.t 29), none⟩,
    ⟨some 9, .mv (.t 30), none⟩]) (.kp [2, 7, 8, 9] (.seq (.reg [⟨some 31, .mv (.t 8), none⟩,
    ⟨some 32, .faddr (.t 7) 1 none, none⟩,
    ⟨none, .store none (.t 32) (.t 31), none⟩]) (.kp [2, 7, 8, 9] (.seq (.regD [2] [⟨some 33, .load (some 2) (.t 7), none⟩,
    ⟨some 34, .mv (.t 9), none⟩,
    ⟨some 35, .mv (.t 34), none⟩,
    ⟨some 36, .mv (.t 8), some (35, true)⟩,
    ⟨some 37, .bin .neq (.t 36) (.c (.int .i64 0)), some (35, true)⟩,
    ⟨some 38, .pick (.t 35) (.t 37) (.c (.bool false)), none⟩,
    ⟨some 39, .mv (.t 38), none⟩,
    ⟨some 40, .faddr (.t 7) 0 none, some (39, true)⟩,
    ⟨some 41, .load none (.t 40), some (39, true)⟩,
    ⟨some 42, .bin .geq (.t 41) (.c (.int .i64 0)), some (39, true)⟩,
    ⟨some 43, .pick (.t 39) (.t 42) (.c (.bool false)), none⟩,
    ⟨none, .store (some 2) (.t 2) (.t 33), none⟩,
    ⟨some 3, .mv (.t 43), none⟩]) (.ret))))))
def c91_k1_go {Q e n H} := @awgoI Tryz.prog _ _ c91_k1.eq_1 Q e n H
def c91 : AFun := { nargs := 1, nt := 44, res := [.cell 2 (some 2), .tmp 3], code := .seq (.reg [⟨some 2, .alloc 56 [(.int .i64 0), (.int .i64 0)], none⟩,
    ⟨some 3, .mv (.c (.bool false)), none⟩]) (.kp [0, 2] (.seq (.reg [⟨some 11, .mv (.t 0), none⟩,
    ⟨some 12, .callp 112 [(.t 11), (.c (.str [35]))], none⟩,
    ⟨some 10, .mv (.t 12), none⟩,
    ⟨some 13, .extr (.t 10) 0, none⟩,
    ⟨some 14, .extr (.t 10) 1, none⟩,
    ⟨some 15, .extr (.t 10) 2, none⟩,
    ⟨some 4, .mv (.t 13), none⟩,
    ⟨some 5, .mv (.t 14), none⟩,
    ⟨some 6, .mv (.t 15), none⟩]) (.kp [2, 4, 5, 6] (.seq (.reg [⟨some 16, .callp 52 [], none⟩,
    ⟨some 17, .mv (.t 4), none⟩,
    ⟨some 18, .callp 84 [(.t 16), (.t 17)], none⟩,
    ⟨some 19, .build [(.int .i64 0), (.int .i64 0)] [(0, none, (.t 18))], none⟩,
    ⟨some 7, .alloc 56 [(.int .i64 0), (.int .i64 0)], none⟩,
    ⟨none, .store (some 2) (.t 7) (.t 19), none⟩]) (.kp [2, 5, 6, 7] (.seq (.seq (.reg [⟨some 20, .mv (.t 6), none⟩,
    ⟨some 21, .not (.t 20), none⟩]) (.kp [2, 5, 7, 21] (.cond (.t 21) (.seq (.regD [2] [⟨some 22, .load (some 2) (.t 7), none⟩,
    ⟨some 23, .faddr (.t 7) 0 none, none⟩,
    ⟨some 24, .load none (.t 23), none⟩,
    ⟨some 25, .bin .geq (.t 24) (.c (.int .i64 0)), none⟩,
    ⟨none, .store (some 2) (.t 2) (.t 22), none⟩,
    ⟨some 3, .mv (.t 25), none⟩]) (.ret)) (.skip)))) (c91_k1))))))) }
theorem cmp91 : (cFun Tryz.prog efs Tryz.f91).map (fun x => (x.nargs, x.nt, x.res, x.code)) = some (c91.nargs, c91.nt, c91.res, bare c91.code) := by kernel_rfl
def c87_k1 : ACode := .kp [6] (.seq (.reg [⟨some 31, .mv (.t 6), none⟩,
    ⟨some 4, .mv (.t 31), none⟩,
    ⟨some 5, .mv (.c (.bool true)), none⟩]) (.ret))
def c87_k1_go {Q e n H} := @awgoI Tryz.prog _ _ c87_k1.eq_1 Q e n H
def c87_k2 : ACode := .kp [1, 6, 12, 13, 14] (.reg [⟨some 30, .bin .add (.t 14) (.c (.int .i64 1)), none⟩,
    ⟨some 14, .mv (.t 30), none⟩])
def c87_k2_go {Q e n H} := @awgoI Tryz.prog _ _ c87_k2.eq_1 Q e n H
def c87_k3 : ACode := .kp [1, 6, 9, 12, 13, 14] (.reg [⟨some 26, .mv (.t 6), none⟩,
    ⟨some 27, .mv (.t 9), none⟩,
    ⟨some 28, .bsl 3 none [(.t 27)], none⟩,
    ⟨some 29, .app 3 1 8 (.t 26) (.t 28), none⟩,
    ⟨some 6, .mv (.t 29), none⟩])
def c87_k3_go {Q e n H} := @awgoI Tryz.prog _ _ c87_k3.eq_1 Q e n H
def c87_k4 : ACode := .kp [1, 6, 12, 13, 14] (.seq (.block 1 (.seq (.reg [⟨some 16, .iaddr 1 none (.t 12) (.t 14), none⟩,
    ⟨some 17, .load none (.t 16), none⟩,
    ⟨some 8, .mv (.t 17), none⟩]) (.kp [1, 6, 8, 12, 13, 14] (.seq (.reg [⟨some 19, .mv (.t 1), none⟩,
    ⟨some 20, .mv (.t 8), none⟩,
    ⟨some 21, .callv (.t 19) [(.t 20)], none⟩,
    ⟨some 18, .mv (.t 21), none⟩,
    ⟨some 22, .extr (.t 18) 0, none⟩,
    ⟨some 23, .extr (.t 18) 1, none⟩,
    ⟨some 9, .mv (.t 22), none⟩,
    ⟨some 10, .mv (.t 23), none⟩]) (.kp [1, 6, 9, 10, 12, 13, 14] (.seq (.seq (.reg [⟨some 24, .mv (.t 10), none⟩,
    ⟨some 25, .not (.t 24), none⟩]) (.kp [1, 6, 9, 12, 13, 14, 25] (.cond (.t 25) (.seq (.reg [⟨some 4, .mv (.c (.sl 0 [] .nil)), none⟩,
    ⟨some 5, .mv (.c (.bool false)), none⟩]) (.ret)) (.skip)))) (c87_k3))))))) (c87_k2))
def c87_k4_go {Q e n H} := @awgoI Tryz.prog _ _ c87_k4.eq_1 Q e n H
def c87_L5 : ACode := .ke [1, 6, 12, 13, 14] (.seq (.reg [⟨some 15, .bin .lss (.t 14) (.t 13), none⟩]) (.kp [1, 6, 12, 13, 14, 15] (.seq (.cond (.t 15) (.skip) (.exit 0)) (c87_k4))))
def c87_L5_go {Q e n H} := @awgoI Tryz.prog _ _ c87_L5.eq_1 Q e n H
def c87 : AFun := { nargs := 2, nt := 32, res := [.tmp 4, .tmp 5], code := .seq (.reg [⟨some 4, .mv (.c (.sl 0 [] .nil)), none⟩,
    ⟨some 5, .mv (.c (.bool false)), none⟩]) (.kp [0, 1] (.seq (.reg [⟨some 6, .mv (.c (.sl 0 [] .nil)), none⟩]) (.kp [0, 1, 6] (.seq (.seq (.reg [⟨some 11, .mv (.t 0), none⟩,
    ⟨some 12, .callp 56 [(.t 11), (.c (.str [44]))], none⟩,
    ⟨some 13, .len (.t 12), none⟩,
    ⟨some 14, .mv (.c (.int .i64 0)), none⟩]) (.kp [1, 6, 12, 13, 14] (.block 0 (.kp [1, 6, 12, 13, 14] (.loop c87_L5))))) (c87_k1))))) }
theorem cmp87 : (cFun Tryz.prog efs Tryz.f87).map (fun x => (x.nargs, x.nt, x.res, x.code)) = some (c87.nargs, c87.nt, c87.res, bare c87.code) := by kernel_rfl
def c90_k1 : ACode := .kp [6] (.seq (.reg [⟨some 31, .mv (.t 6), none⟩,
    ⟨some 4, .mv (.t 31), none⟩,
    ⟨some 5, .mv (.c (.bool true)), none⟩]) (.ret))
def c90_k1_go {Q e n H} := @awgoI Tryz.prog _ _ c90_k1.eq_1 Q e n H
def c90_k2 : ACode := .kp [1, 6, 12, 13, 14] (.reg [⟨some 30, .bin .add (.t 14) (.c (.int .i64 1)), none⟩,
    ⟨some 14, .mv (.t 30), none⟩])
def c90_k2_go {Q e n H} := @awgoI Tryz.prog _ _ c90_k2.eq_1 Q e n H
def c90_k3 : ACode := .kp [1, 6, 9, 12, 13, 14] (.reg [⟨some 26, .mv (.t 6), none⟩,
    ⟨some 27, .load (some 2) (.t 9), none⟩,
    ⟨some 28, .bsl 56 (some 2) [(.t 27)], none⟩,
    ⟨some 29, .app 56 2 16 (.t 26) (.t 28), none⟩,
    ⟨some 6, .mv (.t 29), none⟩])
def c90_k3_go {Q e n H} := @awgoI Tryz.prog _ _ c90_k3.eq_1 Q e n H
def c90_k4 : ACode := .kp [1, 6, 12, 13, 14] (.seq (.block 1 (.seq (.reg [⟨some 16, .iaddr 1 none (.t 12) (.t 14), none⟩,
    ⟨some 17, .load none (.t 16), none⟩,
    ⟨some 8, .mv (.t 17), none⟩]) (.kp [1, 6, 8, 12, 13, 14] (.seq (.reg [⟨some 19, .mv (.t 1), none⟩,
    ⟨some 20, .mv (.t 8), none⟩,
    ⟨some 21, .callv (.t 19) [(.t 20)], none⟩,
    ⟨some 18, .mv (.t 21), none⟩,
    ⟨some 22, .extr (.t 18) 0, none⟩,
    ⟨some 23, .extr (.t 18) 1, none⟩,
    ⟨some 9, .alloc 56 [(.int .i64 0), (.int .i64 0)], none⟩,
    ⟨none, .store (some 2) (.t 9) (.t 22), none⟩,
    ⟨some 10, .mv (.t 23), none⟩]) (.kp [1, 6, 9, 10, 12, 13, 14] (.seq (.seq (.reg [⟨some 24, .mv (.t 10), none⟩,
    ⟨some 25, .not (.t 24), none⟩]) (.kp [1, 6, 9, 12, 13, 14, 25] (.cond (.t 25) (.seq (.reg [⟨some 4, .mv (.c (.sl 0 [] .nil)), none⟩,
    ⟨some 5, .mv (.c (.bool false)), none⟩]) (.ret)) (.skip)))) (c90_k3))))))) (c90_k2))
def c90_k4_go {Q e n H} := @awgoI Tryz.prog _ _ c90_k4.eq_1 Q e n H
def c90_L5 : ACode := .ke [1, 6, 12, 13, 14] (.seq (.reg [⟨some 15, .bin .lss (.t 14) (.t 13), none⟩]) (.kp [1, 6, 12, 13, 14, 15] (.seq (.cond (.t 15) (.skip) (.exit 0)) (c90_k4))))
def c90_L5_go {Q e n H} := @awgoI Tryz.prog _ _ c90_L5.eq_1 Q e n H
def c90 : AFun := { nargs := 2, nt := 32, res := [.tmp 4, .tmp 5], code := .seq (.reg [⟨some 4, .mv (.c (.sl 0 [] .nil)), none⟩,
    ⟨some 5, .mv (.c (.bool false)), none⟩]) (.kp [0, 1] (.seq (.reg [⟨some 6, .mv (.c (.sl 0 [] .nil)), none⟩]) (.kp [0, 1, 6] (.seq (.seq (.reg [⟨some 11, .mv (.t 0), none⟩,
    ⟨some 12, .callp 56 [(.t 11), (.c (.str [44]))], none⟩,
    ⟨some 13, .len (.t 12), none⟩,
    ⟨some 14, .mv (.c (.int .i64 0)), none⟩]) (.kp [1, 6, 12, 13, 14] (.block 0 (.kp [1, 6, 12, 13, 14] (.loop c90_L5))))) (c90_k1))))) }
theorem cmp90 : (cFun Tryz.prog efs Tryz.f90).map (fun x => (x.nargs, x.nt, x.res, x.code)) = some (c90.nargs, c90.nt, c90.res, bare c90.code) := by kernel_rfl
def c86 : AFun := { nargs := 2, nt := 11, res := [.tmp 3], code := .seq (.reg [⟨some 3, .mv (.c (.bool false)), none⟩]) (.kp [0, 1] (.seq (.reg [⟨some 5, .mv (.t 0), none⟩,
    ⟨some 6, .callp 87 [(.t 5), (.c (.fn 85 [] []))], none⟩,
    ⟨some 4, .mv (.t 6), none⟩,
    ⟨some 7, .extr (.t 4) 0, none⟩,
    ⟨some 8, .extr (.t 4) 1, none⟩,
    ⟨some 9, .faddr (.t 1) 2 none, none⟩,
    ⟨none, .store none (.t 9) (.t 7), none⟩,
    ⟨some 3, .mv (.t 8), none⟩]) (.kp [3] (.seq (.reg [⟨some 10, .mv (.t 3), none⟩,
    ⟨some 3, .mv (.t 10), none⟩]) (.ret))))) }
theorem cmp86 : (cFun Tryz.prog efs Tryz.f86).map (fun x => (x.nargs, x.nt, x.res, x.code)) = some (c86.nargs, c86.nt, c86.res, bare c86.code) := by kernel_rfl
def c88 : AFun := { nargs := 2, nt := 11, res := [.tmp 3], code := .seq (.reg [⟨some 3, .mv (.c (.bool false)), none⟩]) (.kp [0, 1] (.seq (.reg [⟨some 5, .mv (.t 0), none⟩,
    ⟨some 6, .callp 87 [(.t 5), (.c (.fn 85 [] []))], none⟩,
    ⟨some 4, .mv (.t 6), none⟩,
    ⟨some 7, .extr (.t 4) 0, none⟩,
    ⟨some 8, .extr (.t 4) 1, none⟩,
    ⟨some 9, .faddr (.t 1) 3 none, none⟩,
    ⟨none, .store none (.t 9) (.t 7), none⟩,
    ⟨some 3, .mv (.t 8), none⟩]) (.kp [3] (.seq (.reg [⟨some 10, .mv (.t 3), none⟩,
    ⟨some 3, .mv (.t 10), none⟩]) (.ret))))) }
theorem cmp88 : (cFun Tryz.prog efs Tryz.f88).map (fun x => (x.nargs, x.nt, x.res, x.code)) = some (c88.nargs, c88.nt, c88.res, bare c88.code) := by kernel_rfl
def c89 : AFun := { nargs := 2, nt := 11, res := [.tmp 3], code := .seq (.reg [⟨some 3, .mv (.c (.bool false)), none⟩]) (.kp [0, 1] (.seq (.reg [⟨some 5, .mv (.t 0), none⟩,
    ⟨some 6, .callp 90 [(.t 5), (.c (.fn 91 [] []))], none⟩,
    ⟨some 4, .mv (.t 6), none⟩,
    ⟨some 7, .extr (.t 4) 0, none⟩,
    ⟨some 8, .extr (.t 4) 1, none⟩,
    ⟨some 9, .faddr (.t 1) 4 none, none⟩,
    ⟨none, .store none (.t 9) (.t 7), none⟩,
    ⟨some 3, .mv (.t 8), none⟩]) (.kp [3] (.seq (.reg [⟨some 10, .mv (.t 3), none⟩,
    ⟨some 3, .mv (.t 10), none⟩]) (.ret))))) }
theorem cmp89 : (cFun Tryz.prog efs Tryz.f89).map (fun x => (x.nargs, x.nt, x.res, x.code)) = some (c89.nargs, c89.nt, c89.res, bare c89.code) := by kernel_rfl
def c92 : AFun := { nargs := 2, nt := 11, res := [.tmp 3], code := .seq (.reg [⟨some 3, .mv (.c (.bool false)), none⟩]) (.kp [0, 1] (.seq (.reg [⟨some 5, .mv (.t 0), none⟩,
    ⟨some 6, .callp 87 [(.t 5), (.c (.fn 85 [] []))], none⟩,
    ⟨some 4, .mv (.t 6), none⟩,
    ⟨some 7, .extr (.t 4) 0, none⟩,
    ⟨some 8, .extr (.t 4) 1, none⟩,
    ⟨some 9, .faddr (.t 1) 5 none, none⟩,
    ⟨none, .store none (.t 9) (.t 7), none⟩,
    ⟨some 3, .mv (.t 8), none⟩]) (.kp [3] (.seq (.reg [⟨some 10, .mv (.t 3), none⟩,
    ⟨some 3, .mv (.t 10), none⟩]) (.ret))))) }
theorem cmp92 : (cFun Tryz.prog efs Tryz.f92).map (fun x => (x.nargs, x.nt, x.res, x.code)) = some (c92.nargs, c92.nt, c92.res, bare c92.code) := by kernel_rfl
def c93 : AFun := { nargs := 2, nt := 16, res := [.tmp 3], code := .seq (.reg [⟨some 3, .mv (.c (.bool false)), none⟩]) (.kp [0, 1] (.seq (.reg [⟨some 5, .mv (.t 0), none⟩,
    ⟨some 6, .callp 85 [(.t 5)], none⟩,
    ⟨some 4, .mv (.t 6), none⟩,
    ⟨some 7, .extr (.t 4) 0, none⟩,
    ⟨some 8, .extr (.t 4) 1, none⟩,
    ⟨some 9, .faddr (.t 1) 6 none, none⟩,
    ⟨none, .store none (.t 9) (.t 7), none⟩,
    ⟨some 3, .mv (.t 8), none⟩]) (.kp [1, 3] (.seq (.segs [⟨none, [⟨some 10, .mv (.t 3), none⟩,
      ⟨some 11, .mv (.t 10), none⟩], none⟩,
    ⟨some (11, true), [⟨some 12, .faddr (.t 1) 6 none, none⟩,
      ⟨some 13, .load none (.t 12), none⟩,
      ⟨some 14, .bin .neq (.t 13) (.c (.int .i64 0)), none⟩], some (15, 14)⟩,
    ⟨none, [⟨some 3, .mv (.t 15), none⟩], none⟩]) (.ret))))) }
theorem cmp93 : (cFun Tryz.prog efs Tryz.f93).map (fun x => (x.nargs, x.nt, x.res, x.code)) = some (c93.nargs, c93.nt, c93.res, bare c93.code) := by kernel_rfl
def c94 : AFun := { nargs := 2, nt := 16, res := [.tmp 3], code := .seq (.reg [⟨some 3, .mv (.c (.bool false)), none⟩]) (.kp [0, 1] (.seq (.reg [⟨some 5, .mv (.t 0), none⟩,
    ⟨some 6, .callp 85 [(.t 5)], none⟩,
    ⟨some 4, .mv (.t 6), none⟩,
    ⟨some 7, .extr (.t 4) 0, none⟩,
    ⟨some 8, .extr (.t 4) 1, none⟩,
    ⟨some 9, .faddr (.t 1) 7 none, none⟩,
    ⟨none, .store none (.t 9) (.t 7), none⟩,
    ⟨some 3, .mv (.t 8), none⟩]) (.kp [1, 3] (.seq (.segs [⟨none, [⟨some 10, .mv (.t 3), none⟩,
      ⟨some 11, .mv (.t 10), none⟩], none⟩,
    ⟨some (11, true), [⟨some 12, .faddr (.t 1) 7 none, none⟩,
      ⟨some 13, .load none (.t 12), none⟩,
      ⟨some 14, .bin .neq (.t 13) (.c (.int .i64 0)), none⟩], some (15, 14)⟩,
    ⟨none, [⟨some 3, .mv (.t 15), none⟩], none⟩]) (.ret))))) }
theorem cmp94 : (cFun Tryz.prog efs Tryz.f94).map (fun x => (x.nargs, x.nt, x.res, x.code)) = some (c94.nargs, c94.nt, c94.res, bare c94.code) := by kernel_rfl
end Go.Proofs.YtecpfmhminkalaaGreatDoor
namespace Go.Proofs.YtecpfmhminkalaaGreatDoor
theorem awgoJ {P : Program} {c d : ACode} (h : c = d) {Q : AExit → AS → Prop} {e : AEnv} {n : Nat} {H : AHeap} : aw P c Q ⟨e, n, H⟩ = aw P d Q ⟨e, n, H⟩ := by rw [h]
def c55_k1 : ACode := .kp [0, 2] (.seq (.reg [⟨some 89, .load (some 8) (.t 2), none⟩,
    ⟨some 90, .mv (.t 0), none⟩,
    ⟨some 91, .len (.t 90), none⟩,
    ⟨some 92, .bin .eql (.t 91) (.c (.int .i64 0)), none⟩,
    ⟨none, .store (some 8) (.t 2) (.t 89), none⟩,
    ⟨some 3, .mv (.t 92), none⟩]) (.ret))
def c55_k1_go {Q e n H} := @awgoJ Tryz.prog _ _ c55_k1.eq_1 Q e n H
def c55_k2 : ACode := .kp [0, 2, 61, 62, 63] (.reg [⟨some 88, .bin .add (.t 63) (.c (.int .i64 1)), none⟩,
    ⟨some 63, .mv (.t 88), none⟩])
def c55_k2_go {Q e n H} := @awgoJ Tryz.prog _ _ c55_k2.eq_1 Q e n H
def c55_k3 : ACode := .kp [0, 2, 61, 62, 63] (.reg [⟨some 86, .mv (.t 0), none⟩,
    ⟨some 87, .cut 1 (.t 86) (some (.c (.int .i64 2))) none, none⟩,
    ⟨some 0, .mv (.t 87), none⟩])
def c55_k3_go {Q e n H} := @awgoJ Tryz.prog _ _ c55_k3.eq_1 Q e n H
def c55_k4 : ACode := .kp [0, 2, 6, 61, 62, 63] (.seq (.seq (.reg [⟨some 78, .faddr (.t 6) 1 none, none⟩,
    ⟨some 79, .load none (.t 78), none⟩,
    ⟨some 80, .mv (.t 0), none⟩,
    ⟨some 81, .iaddr 1 none (.t 80) (.c (.int .i64 1)), none⟩,
    ⟨some 82, .load none (.t 81), none⟩,
    ⟨some 83, .callv (.t 79) [(.t 82)], none⟩,
    ⟨some 84, .not (.t 83), none⟩]) (.kp [0, 2, 61, 62, 63, 84] (.cond (.t 84) (.seq (.reg [⟨some 85, .load (some 8) (.t 2), none⟩,
    ⟨none, .store (some 8) (.t 2) (.t 85), none⟩,
    ⟨some 3, .mv (.c (.bool false)), none⟩]) (.ret)) (.skip)))) (c55_k3))
def c55_k4_go {Q e n H} := @awgoJ Tryz.prog _ _ c55_k4.eq_1 Q e n H
def c55_k5 : ACode := .kp [0, 2, 61, 62, 63] (.seq (.block 1 (.seq (.reg [⟨some 65, .iaddr 2 (some 2) (.t 61) (.t 63), none⟩,
    ⟨some 66, .load (some 2) (.t 65), none⟩,
    ⟨some 6, .alloc 115 [(.str []), .nfn], none⟩,
    ⟨none, .store (some 2) (.t 6) (.t 66), none⟩]) (.kp [0, 2, 6, 61, 62, 63] (.seq (.seq (.segs [⟨none, [⟨some 67, .mv (.t 0), none⟩,
      ⟨some 68, .len (.t 67), none⟩,
      ⟨some 69, .bin .eql (.t 68) (.c (.int .i64 0)), none⟩,
      ⟨some 70, .mv (.t 69), none⟩], none⟩,
    ⟨some (70, false), [⟨some 71, .mv (.t 0), none⟩,
      ⟨some 72, .iaddr 1 none (.t 71) (.c (.int .i64 0)), none⟩,
      ⟨some 73, .load none (.t 72), none⟩,
      ⟨some 74, .faddr (.t 6) 0 none, none⟩,
      ⟨some 75, .load none (.t 74), none⟩,
      ⟨some 76, .bin .neq (.t 73) (.t 75), none⟩], some (77, 76)⟩]) (.kp [0, 2, 6, 61, 62, 63, 77] (.cond (.t 77) (.exit 1) (.skip)))) (c55_k4))))) (c55_k2))
def c55_k5_go {Q e n H} := @awgoJ Tryz.prog _ _ c55_k5.eq_1 Q e n H
def c55_L6 : ACode := .ke [0, 2, 61, 62, 63] (.seq (.reg [⟨some 64, .bin .lss (.t 63) (.t 62), none⟩]) (.kp [0, 2, 61, 62, 63, 64] (.seq (.cond (.t 64) (.skip) (.exit 0)) (c55_k5))))
def c55_L6_go {Q e n H} := @awgoJ Tryz.prog _ _ c55_L6.eq_1 Q e n H
def c55_k7 : ACode := .kp [0, 2] (.seq (.reg [⟨some 46, .mkfn 86 [] [(.t 2)], none⟩,
    ⟨some 47, .build [(.str []), .nfn] [(0, none, (.c (.str [109, 111, 110, 116, 104, 115]))), (1, none, (.t 46))], none⟩,
    ⟨some 48, .mkfn 88 [] [(.t 2)], none⟩,
    ⟨some 49, .build [(.str []), .nfn] [(0, none, (.c (.str [100, 97, 121, 115]))), (1, none, (.t 48))], none⟩,
    ⟨some 50, .mkfn 89 [] [(.t 2)], none⟩,
    ⟨some 51, .build [(.str []), .nfn] [(0, none, (.c (.str [111, 110]))), (1, none, (.t 50))], none⟩,
    ⟨some 52, .mkfn 92 [] [(.t 2)], none⟩,
    ⟨some 53, .build [(.str []), .nfn] [(0, none, (.c (.str [112, 105, 99, 107, 115]))), (1, none, (.t 52))], none⟩,
    ⟨some 54, .mkfn 93 [] [(.t 2)], none⟩,
    ⟨some 55, .build [(.str []), .nfn] [(0, none, (.c (.str [99, 111, 117, 110, 116]))), (1, none, (.t 54))], none⟩,
    ⟨some 56, .mkfn 94 [] [(.t 2)], none⟩,
    ⟨some 57, .build [(.str []), .nfn] [(0, none, (.c (.str [117, 110, 116, 105, 108]))), (1, none, (.t 56))], none⟩,
    ⟨some 58, .bsl 115 (some 2) [(.t 47), (.t 49), (.t 51), (.t 53), (.t 55), (.t 57)], none⟩,
    ⟨some 4, .mv (.t 58), none⟩]) (.kp [0, 2, 4] (.seq (.reg [⟨some 59, .mv (.t 0), none⟩,
    ⟨some 60, .cut 1 (.t 59) (some (.c (.int .i64 3))) none, none⟩,
    ⟨some 0, .mv (.t 60), none⟩]) (.kp [0, 2, 4] (.seq (.seq (.reg [⟨some 61, .mv (.t 4), none⟩,
    ⟨some 62, .len (.t 61), none⟩,
    ⟨some 63, .mv (.c (.int .i64 0)), none⟩]) (.kp [0, 2, 61, 62, 63] (.block 0 (.kp [0, 2, 61, 62, 63] (.loop c55_L6))))) (c55_k1))))))
def c55_k7_go {Q e n H} := @awgoJ Tryz.prog _ _ c55_k7.eq_1 Q e n H
def c55_k8 : ACode := .kp [0, 2] (.seq (.reg [⟨some 23, .callp 47 [], none⟩,
    ⟨some 24, .mv (.t 0), none⟩,
    ⟨some 25, .iaddr 1 none (.t 24) (.c (.int .i64 2)), none⟩,
    ⟨some 26, .load none (.t 25), none⟩,
    ⟨some 27, .callp 84 [(.t 23), (.t 26)], none⟩,
    ⟨some 28, .bin .add (.t 27) (.c (.int .i64 1)), none⟩,
    ⟨some 29, .faddr (.t 2) 0 none, none⟩,
    ⟨none, .store none (.t 29) (.t 28), none⟩]) (.kp [0, 2] (.seq (.seq (.reg [⟨some 31, .mv (.t 0), none⟩,
    ⟨some 32, .iaddr 1 none (.t 31) (.c (.int .i64 1)), none⟩,
    ⟨some 33, .load none (.t 32), none⟩,
    ⟨some 34, .callp 85 [(.t 33)], none⟩,
    ⟨some 30, .mv (.t 34), none⟩,
    ⟨some 35, .extr (.t 30) 0, none⟩,
    ⟨some 36, .extr (.t 30) 1, none⟩,
    ⟨some 37, .faddr (.t 2) 1 none, none⟩,
    ⟨none, .store none (.t 37) (.t 35), none⟩,
    ⟨some 3, .mv (.t 36), none⟩]) (.kp [0, 2, 3] (.seq (.segs [⟨none, [⟨some 38, .mv (.t 3), none⟩,
      ⟨some 39, .not (.t 38), none⟩,
      ⟨some 40, .mv (.t 39), none⟩], none⟩,
    ⟨some (40, false), [⟨some 41, .faddr (.t 2) 0 none, none⟩,
      ⟨some 42, .load none (.t 41), none⟩,
      ⟨some 43, .bin .eql (.t 42) (.c (.int .i64 0)), none⟩], some (44, 43)⟩]) (.kp [0, 2, 44] (.cond (.t 44) (.seq (.reg [⟨some 45, .load (some 8) (.t 2), none⟩,
    ⟨none, .store (some 8) (.t 2) (.t 45), none⟩,
    ⟨some 3, .mv (.c (.bool false)), none⟩]) (.ret)) (.skip)))))) (c55_k7))))
def c55_k8_go {Q e n H} := @awgoJ Tryz.prog _ _ c55_k8.eq_1 Q e n H
def c55 : AFun := { nargs := 1, nt := 93, res := [.cell 2 (some 8), .tmp 3], code := .seq (.reg [⟨some 2, .alloc 25 [(.int .i64 0), (.int .i64 0), (.sl 0 [] .nil), (.sl 0 [] .nil), (.sl 0 [] .nil), (.sl 0 [] .nil), (.int .i64 0), (.int .i64 0)], none⟩,
    ⟨some 3, .mv (.c (.bool false)), none⟩]) (.kp [0, 2] (.seq (.seq (.segs [⟨none, [⟨some 7, .mv (.t 0), none⟩,
      ⟨some 8, .len (.t 7), none⟩,
      ⟨some 9, .bin .lss (.t 8) (.c (.int .i64 3)), none⟩,
      ⟨some 10, .mv (.t 9), none⟩], none⟩,
    ⟨some (10, false), [⟨some 11, .mv (.t 0), none⟩,
      ⟨some 12, .len (.t 11), none⟩,
      ⟨some 13, .bin .rem (.t 12) (.c (.int .i64 2)), none⟩,
      ⟨some 14, .bin .eql (.t 13) (.c (.int .i64 0)), none⟩], some (15, 14)⟩,
    ⟨none, [⟨some 16, .mv (.t 15), none⟩], none⟩,
    ⟨some (16, false), [⟨some 17, .mv (.t 0), none⟩,
      ⟨some 18, .iaddr 1 none (.t 17) (.c (.int .i64 0)), none⟩,
      ⟨some 19, .load none (.t 18), none⟩,
      ⟨some 20, .bin .neq (.t 19) (.c (.str [101, 118, 101, 114, 121])), none⟩], some (21, 20)⟩]) (.kp [0, 2, 21] (.cond (.t 21) (.seq (.reg [⟨some 22, .load (some 8) (.t 2), none⟩,
    ⟨none, .store (some 8) (.t 2) (.t 22), none⟩,
    ⟨some 3, .mv (.c (.bool false)), none⟩]) (.ret)) (.skip)))) (c55_k8))) }
theorem cmp55 : (cFun Tryz.prog efs Tryz.f55).map (fun x => (x.nargs, x.nt, x.res, x.code)) = some (c55.nargs, c55.nt, c55.res, bare c55.code) := by kernel_rfl
def c18_k1 : ACode := .kp [2, 3, 4] (.seq (.reg [⟨some 29, .load (some 8) (.t 4), none⟩,
    ⟨some 30, .build [(.int .i64 0), (.int .i64 0)] [], none⟩,
    ⟨none, .store (some 8) (.t 2) (.t 29), none⟩,
    ⟨none, .store (some 2) (.t 3) (.t 30), none⟩]) (.ret))
def c18_k1_go {Q e n H} := @awgoJ Tryz.prog _ _ c18_k1.eq_1 Q e n H
def c18_k2 : ACode := .kp [2, 3, 4] (.seq (.seq (.reg [⟨some 22, .load (some 8) (.t 4), none⟩,
    ⟨some 23, .callp 8 [(.t 22)], none⟩,
    ⟨some 6, .alloc 27 [(.int .i64 0), (.int .i64 0)], none⟩,
    ⟨none, .store (some 2) (.t 6) (.t 23), none⟩]) (.kp [2, 3, 4, 6] (.seq (.reg [⟨some 24, .faddr (.t 6) 0 none, none⟩,
    ⟨some 25, .load none (.t 24), none⟩,
    ⟨some 26, .bin .neq (.t 25) (.c (.int .i64 0)), none⟩]) (.kp [2, 3, 4, 6, 26] (.cond (.t 26) (.seq (.regD [2, 3] [⟨some 27, .build [(.int .i64 0), (.int .i64 0), (.sl 0 [] .nil), (.sl 0 [] .nil), (.sl 0 [] .nil), (.sl 0 [] .nil), (.int .i64 0), (.int .i64 0)] [], none⟩,
    ⟨some 28, .load (some 2) (.t 6), none⟩,
    ⟨none, .store (some 8) (.t 2) (.t 27), none⟩,
    ⟨none, .store (some 2) (.t 3) (.t 28), none⟩]) (.ret)) (.skip)))))) (c18_k1))
def c18_k2_go {Q e n H} := @awgoJ Tryz.prog _ _ c18_k2.eq_1 Q e n H
def c18_k3 : ACode := .kp [0, 2, 3] (.seq (.reg [⟨some 13, .mv (.t 0), none⟩,
    ⟨some 14, .callp 56 [(.t 13), (.c (.str [32]))], none⟩,
    ⟨some 15, .callp 55 [(.t 14)], none⟩,
    ⟨some 12, .mv (.t 15), none⟩,
    ⟨some 16, .extr (.t 12) 0, none⟩,
    ⟨some 17, .extr (.t 12) 1, none⟩,
    ⟨some 4, .alloc 25 [(.int .i64 0), (.int .i64 0), (.sl 0 [] .nil), (.sl 0 [] .nil), (.sl 0 [] .nil), (.sl 0 [] .nil), (.int .i64 0), (.int .i64 0)], none⟩,
    ⟨none, .store (some 8) (.t 4) (.t 16), none⟩,
    ⟨some 5, .mv (.t 17), none⟩]) (.kp [2, 3, 4, 5] (.seq (.seq (.reg [⟨some 18, .mv (.t 5), none⟩,
    ⟨some 19, .not (.t 18), none⟩]) (.kp [2, 3, 4, 19] (.cond (.t 19) (.seq (.reg [⟨some 20, .build [(.int .i64 0), (.int .i64 0), (.sl 0 [] .nil), (.sl 0 [] .nil), (.sl 0 [] .nil), (.sl 0 [] .nil), (.int .i64 0), (.int .i64 0)] [], none⟩,
    ⟨some 21, .build [(.int .i64 0), (.int .i64 0)] [(0, none, (.c (.int .i64 1))), (1, none, (.c (.int .i64 (-1))))], none⟩,
    ⟨none, .store (some 8) (.t 2) (.t 20), none⟩,
    ⟨none, .store (some 2) (.t 3) (.t 21), none⟩]) (.ret)) (.skip)))) (c18_k2))))
def c18_k3_go {Q e n H} := @awgoJ Tryz.prog _ _ c18_k3.eq_1 Q e n H
def c18 : AFun := { nargs := 1, nt := 31, res := [.cell 2 (some 8), .cell 3 (some 2)], code := .seq (.reg [⟨some 2, .alloc 25 [(.int .i64 0), (.int .i64 0), (.sl 0 [] .nil), (.sl 0 [] .nil), (.sl 0 [] .nil), (.sl 0 [] .nil), (.int .i64 0), (.int .i64 0)], none⟩,
    ⟨some 3, .alloc 27 [(.int .i64 0), (.int .i64 0)], none⟩]) (.kp [0, 2, 3] (.seq (.seq (.reg [⟨some 7, .mv (.t 0), none⟩,
    ⟨some 8, .lenS (.t 7), none⟩,
    ⟨some 9, .bin .gtr (.t 8) (.c (.int .i64 500)), none⟩]) (.kp [0, 2, 3, 9] (.cond (.t 9) (.seq (.reg [⟨some 10, .build [(.int .i64 0), (.int .i64 0), (.sl 0 [] .nil), (.sl 0 [] .nil), (.sl 0 [] .nil), (.sl 0 [] .nil), (.int .i64 0), (.int .i64 0)] [], none⟩,
    ⟨some 11, .build [(.int .i64 0), (.int .i64 0)] [(0, none, (.c (.int .i64 3))), (1, none, (.c (.int .i64 (-1))))], none⟩,
    ⟨none, .store (some 8) (.t 2) (.t 10), none⟩,
    ⟨none, .store (some 2) (.t 3) (.t 11), none⟩]) (.ret)) (.skip)))) (c18_k3))) }
theorem cmp18 : (cFun Tryz.prog efs Tryz.f18).map (fun x => (x.nargs, x.nt, x.res, x.code)) = some (c18.nargs, c18.nt, c18.res, bare c18.code) := by kernel_rfl
end Go.Proofs.YtecpfmhminkalaaGreatDoor
