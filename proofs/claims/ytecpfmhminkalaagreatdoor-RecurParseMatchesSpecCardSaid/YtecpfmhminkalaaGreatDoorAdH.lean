/- The code of some functions on plain data, by program, and that it is what the program's text gives; no condition. -/
import Derived.Test.YtecpfmhminkalaaGreatDoorAdA
import Derived.Test.YtecpfmhminkalaaGreatDoorProg
import Derived.KernelRfl
set_option linter.all false
set_option linter.unusedSimpArgs false
set_option linter.unusedVariables false
namespace Go.Proofs.YtecpfmhminkalaaGreatDoor
theorem awgoH {P : Program} {c d : ACode} (h : c = d) {Q : AExit → AS → Prop} {e : AEnv} {n : Nat} {H : AHeap} : aw P c Q ⟨e, n, H⟩ = aw P d Q ⟨e, n, H⟩ := by rw [h]
def c19_k1 : ACode := .kp [3] (.seq (.reg [⟨some 93, .mv (.t 3), none⟩,
    ⟨some 2, .mv (.t 93), none⟩]) (.ret))
def c19_k1_go {Q e n H} := @awgoH Tryz.prog _ _ c19_k1.eq_1 Q e n H
def c19_k2 : ACode := .kp [1, 3] (.seq (.seq (.reg [⟨some 84, .faddr (.t 1) 7 none, none⟩,
    ⟨some 85, .load none (.t 84), none⟩,
    ⟨some 86, .bin .neq (.t 85) (.c (.int .i64 0)), none⟩]) (.kp [1, 3, 86] (.cond (.t 86) (.reg [⟨some 87, .mv (.t 3), none⟩,
    ⟨some 88, .bin .add (.t 87) (.c (.str [32, 117, 110, 116, 105, 108, 32])), none⟩,
    ⟨some 89, .faddr (.t 1) 7 none, none⟩,
    ⟨some 90, .load none (.t 89), none⟩,
    ⟨some 91, .callp 57 [(.t 90)], none⟩,
    ⟨some 92, .bin .add (.t 88) (.t 91), none⟩,
    ⟨some 3, .mv (.t 92), none⟩]) (.skip)))) (c19_k1))
def c19_k2_go {Q e n H} := @awgoH Tryz.prog _ _ c19_k2.eq_1 Q e n H
def c19_k3 : ACode := .kp [1, 3] (.seq (.reg [⟨some 70, .mv (.t 3), none⟩,
    ⟨some 71, .faddr (.t 1) 5 none, none⟩,
    ⟨some 72, .load none (.t 71), none⟩,
    ⟨some 73, .callp 59 [(.c (.str [112, 105, 99, 107, 115])), (.t 72)], none⟩,
    ⟨some 74, .bin .add (.t 70) (.t 73), none⟩,
    ⟨some 3, .mv (.t 74), none⟩]) (.kp [1, 3] (.seq (.seq (.reg [⟨some 75, .faddr (.t 1) 6 none, none⟩,
    ⟨some 76, .load none (.t 75), none⟩,
    ⟨some 77, .bin .neq (.t 76) (.c (.int .i64 0)), none⟩]) (.kp [1, 3, 77] (.cond (.t 77) (.reg [⟨some 78, .mv (.t 3), none⟩,
    ⟨some 79, .bin .add (.t 78) (.c (.str [32, 99, 111, 117, 110, 116, 32])), none⟩,
    ⟨some 80, .faddr (.t 1) 6 none, none⟩,
    ⟨some 81, .load none (.t 80), none⟩,
    ⟨some 82, .callp 57 [(.t 81)], none⟩,
    ⟨some 83, .bin .add (.t 79) (.t 82), none⟩,
    ⟨some 3, .mv (.t 83), none⟩]) (.skip)))) (c19_k2))))
def c19_k3_go {Q e n H} := @awgoH Tryz.prog _ _ c19_k3.eq_1 Q e n H
def c19_k4 : ACode := .kp [1, 3, 4] (.reg [⟨some 27, .mv (.t 4), none⟩,
    ⟨some 28, .bin .add (.t 27) (.c (.int .i64 1)), none⟩,
    ⟨some 4, .mv (.t 28), none⟩])
def c19_k4_go {Q e n H} := @awgoH Tryz.prog _ _ c19_k4.eq_1 Q e n H
def c19_k5 : ACode := .kp [1, 3, 4] (.seq (.reg [⟨some 35, .mv (.t 3), none⟩,
    ⟨some 36, .faddr (.t 1) 4 none, none⟩,
    ⟨some 37, .load none (.t 36), none⟩,
    ⟨some 38, .mv (.t 4), none⟩,
    ⟨some 39, .iaddr 2 (some 2) (.t 37) (.t 38), none⟩,
    ⟨some 40, .faddr (.t 39) 0 none, none⟩,
    ⟨some 41, .load none (.t 40), none⟩,
    ⟨some 42, .bin .mul (.c (.int .i64 4)) (.t 41), none⟩,
    ⟨some 43, .faddr (.t 1) 4 none, none⟩,
    ⟨some 44, .load none (.t 43), none⟩,
    ⟨some 45, .mv (.t 4), none⟩,
    ⟨some 46, .iaddr 2 (some 2) (.t 44) (.t 45), none⟩,
    ⟨some 47, .faddr (.t 46) 0 none, none⟩,
    ⟨some 48, .load none (.t 47), none⟩,
    ⟨some 49, .bin .mul (.c (.int .i64 4)) (.t 48), none⟩,
    ⟨some 50, .bin .add (.t 49) (.c (.int .i64 3)), none⟩,
    ⟨some 51, .cutS (.c (.str [109, 111, 110, 32, 116, 117, 101, 32, 119, 101, 100, 32, 116, 104, 117, 32, 102, 114, 105, 32, 115, 97, 116, 32, 115, 117, 110])) (some (.t 42)) (some (.t 50)), none⟩,
    ⟨some 52, .bin .add (.t 35) (.t 51), none⟩,
    ⟨some 3, .mv (.t 52), none⟩]) (.kp [1, 3, 4] (.seq (.reg [⟨some 53, .faddr (.t 1) 4 none, none⟩,
    ⟨some 54, .load none (.t 53), none⟩,
    ⟨some 55, .mv (.t 4), none⟩,
    ⟨some 56, .iaddr 2 (some 2) (.t 54) (.t 55), none⟩,
    ⟨some 57, .faddr (.t 56) 1 none, none⟩,
    ⟨some 58, .load none (.t 57), none⟩,
    ⟨some 59, .bin .neq (.t 58) (.c (.int .i64 0)), none⟩]) (.kp [1, 3, 4, 59] (.cond (.t 59) (.reg [⟨some 60, .mv (.t 3), none⟩,
    ⟨some 61, .bin .add (.t 60) (.c (.str [35])), none⟩,
    ⟨some 62, .faddr (.t 1) 4 none, none⟩,
    ⟨some 63, .load none (.t 62), none⟩,
    ⟨some 64, .mv (.t 4), none⟩,
    ⟨some 65, .iaddr 2 (some 2) (.t 63) (.t 64), none⟩,
    ⟨some 66, .faddr (.t 65) 1 none, none⟩,
    ⟨some 67, .load none (.t 66), none⟩,
    ⟨some 68, .callp 57 [(.t 67)], none⟩,
    ⟨some 69, .bin .add (.t 61) (.t 68), none⟩,
    ⟨some 3, .mv (.t 69), none⟩]) (.skip))))))
def c19_k5_go {Q e n H} := @awgoH Tryz.prog _ _ c19_k5.eq_1 Q e n H
def c19_k6 : ACode := .kp [1, 3, 4] (.seq (.block 1 (.seq (.seq (.reg [⟨some 29, .mv (.t 4), none⟩,
    ⟨some 30, .bin .eql (.t 29) (.c (.int .i64 0)), none⟩]) (.kp [1, 3, 4, 30] (.cond (.t 30) (.reg [⟨some 31, .mv (.t 3), none⟩,
    ⟨some 32, .bin .add (.t 31) (.c (.str [32, 111, 110, 32])), none⟩,
    ⟨some 3, .mv (.t 32), none⟩]) (.reg [⟨some 33, .mv (.t 3), none⟩,
    ⟨some 34, .bin .add (.t 33) (.c (.str [44])), none⟩,
    ⟨some 3, .mv (.t 34), none⟩])))) (c19_k5))) (c19_k4))
def c19_k6_go {Q e n H} := @awgoH Tryz.prog _ _ c19_k6.eq_1 Q e n H
def c19_L7 : ACode := .ke [1, 3, 4] (.seq (.seq (.reg [⟨some 22, .mv (.t 4), none⟩,
    ⟨some 23, .faddr (.t 1) 4 none, none⟩,
    ⟨some 24, .load none (.t 23), none⟩,
    ⟨some 25, .len (.t 24), none⟩,
    ⟨some 26, .bin .lss (.t 22) (.t 25), none⟩]) (.kp [1, 3, 4, 26] (.cond (.t 26) (.skip) (.exit 0)))) (c19_k6))
def c19_L7_go {Q e n H} := @awgoH Tryz.prog _ _ c19_L7.eq_1 Q e n H
def c19 : AFun := { nargs := 1, nt := 94, res := [.tmp 2], code := .seq (.reg [⟨some 1, .box 25 (some 8) (.t 0), none⟩,
    ⟨some 2, .mv (.c (.str [])), none⟩]) (.kp [1] (.seq (.reg [⟨some 5, .faddr (.t 1) 1 none, none⟩,
    ⟨some 6, .load none (.t 5), none⟩,
    ⟨some 7, .callp 57 [(.t 6)], none⟩,
    ⟨some 8, .bin .add (.c (.str [101, 118, 101, 114, 121, 32])) (.t 7), none⟩,
    ⟨some 9, .bin .add (.t 8) (.c (.str [32])), none⟩,
    ⟨some 10, .faddr (.t 1) 0 none, none⟩,
    ⟨some 11, .load none (.t 10), none⟩,
    ⟨some 12, .callp 58 [(.t 11)], none⟩,
    ⟨some 13, .bin .add (.t 9) (.t 12), none⟩,
    ⟨some 14, .faddr (.t 1) 2 none, none⟩,
    ⟨some 15, .load none (.t 14), none⟩,
    ⟨some 16, .callp 59 [(.c (.str [109, 111, 110, 116, 104, 115])), (.t 15)], none⟩,
    ⟨some 17, .bin .add (.t 13) (.t 16), none⟩,
    ⟨some 18, .faddr (.t 1) 3 none, none⟩,
    ⟨some 19, .load none (.t 18), none⟩,
    ⟨some 20, .callp 59 [(.c (.str [100, 97, 121, 115])), (.t 19)], none⟩,
    ⟨some 21, .bin .add (.t 17) (.t 20), none⟩,
    ⟨some 3, .mv (.t 21), none⟩]) (.kp [1, 3] (.seq (.seq (.reg [⟨some 4, .mv (.c (.int .i64 0)), none⟩]) (.kp [1, 3, 4] (.block 0 (.kp [1, 3, 4] (.loop c19_L7))))) (c19_k3))))) }
theorem cmp19 : (cFun Tryz.prog efs Tryz.f19).map (fun x => (x.nargs, x.nt, x.res, x.code)) = some (c19.nargs, c19.nt, c19.res, bare c19.code) := by kernel_rfl
def c57_k1 : ACode := .kp [0] (.seq (.reg [⟨some 29, .mv (.t 0), none⟩,
    ⟨some 30, .bin .quo (.t 29) (.c (.int .i64 10)), none⟩,
    ⟨some 31, .callp 57 [(.t 30)], none⟩,
    ⟨some 32, .mv (.t 0), none⟩,
    ⟨some 33, .bin .rem (.t 32) (.c (.int .i64 10)), none⟩,
    ⟨some 34, .bin .add (.c (.int .i64 48)) (.t 33), none⟩,
    ⟨some 35, .cvi .i32 (.t 34), none⟩,
    ⟨some 36, .r2s (.t 35), none⟩,
    ⟨some 37, .bin .add (.t 31) (.t 36), none⟩,
    ⟨some 2, .mv (.t 37), none⟩]) (.ret))
def c57_k1_go {Q e n H} := @awgoH Tryz.prog _ _ c57_k1.eq_1 Q e n H
def c57_k2 : ACode := .kp [0] (.seq (.seq (.reg [⟨some 23, .mv (.t 0), none⟩,
    ⟨some 24, .bin .lss (.t 23) (.c (.int .i64 10)), none⟩]) (.kp [0, 24] (.cond (.t 24) (.seq (.reg [⟨some 25, .mv (.t 0), none⟩,
    ⟨some 26, .bin .add (.c (.int .i64 48)) (.t 25), none⟩,
    ⟨some 27, .cvi .i32 (.t 26), none⟩,
    ⟨some 28, .r2s (.t 27), none⟩,
    ⟨some 2, .mv (.t 28), none⟩]) (.ret)) (.skip)))) (c57_k1))
def c57_k2_go {Q e n H} := @awgoH Tryz.prog _ _ c57_k2.eq_1 Q e n H
def c57_k3 : ACode := .kp [0] (.seq (.reg [⟨some 18, .mv (.t 0), none⟩,
    ⟨some 19, .bin .sub (.c (.int .i64 48)) (.t 18), none⟩,
    ⟨some 20, .cvi .i32 (.t 19), none⟩,
    ⟨some 21, .r2s (.t 20), none⟩,
    ⟨some 22, .bin .add (.c (.str [45])) (.t 21), none⟩,
    ⟨some 2, .mv (.t 22), none⟩]) (.ret))
def c57_k3_go {Q e n H} := @awgoH Tryz.prog _ _ c57_k3.eq_1 Q e n H
def c57_t4 : ACode := .kp [0] (.seq (.seq (.reg [⟨some 5, .mv (.t 0), none⟩,
    ⟨some 6, .bin .lss (.t 5) (.c (.int .i64 (-9))), none⟩]) (.kp [0, 6] (.cond (.t 6) (.seq (.reg [⟨some 7, .mv (.t 0), none⟩,
    ⟨some 8, .bin .quo (.t 7) (.c (.int .i64 10)), none⟩,
    ⟨some 9, .neg (.t 8), none⟩,
    ⟨some 10, .callp 57 [(.t 9)], none⟩,
    ⟨some 11, .bin .add (.c (.str [45])) (.t 10), none⟩,
    ⟨some 12, .mv (.t 0), none⟩,
    ⟨some 13, .bin .rem (.t 12) (.c (.int .i64 10)), none⟩,
    ⟨some 14, .bin .sub (.c (.int .i64 48)) (.t 13), none⟩,
    ⟨some 15, .cvi .i32 (.t 14), none⟩,
    ⟨some 16, .r2s (.t 15), none⟩,
    ⟨some 17, .bin .add (.t 11) (.t 16), none⟩,
    ⟨some 2, .mv (.t 17), none⟩]) (.ret)) (.skip)))) (c57_k3))
def c57_t4_go {Q e n H} := @awgoH Tryz.prog _ _ c57_t4.eq_1 Q e n H
def c57 : AFun := { nargs := 1, nt := 38, res := [.tmp 2], code := .seq (.reg [⟨some 2, .mv (.c (.str [])), none⟩]) (.kp [0] (.seq (.seq (.reg [⟨some 3, .mv (.t 0), none⟩,
    ⟨some 4, .bin .lss (.t 3) (.c (.int .i64 0)), none⟩]) (.kp [0, 4] (.cond (.t 4) (c57_t4) (.skip)))) (c57_k2))) }
theorem cmp57 : (cFun Tryz.prog efs Tryz.f57).map (fun x => (x.nargs, x.nt, x.res, x.code)) = some (c57.nargs, c57.nt, c57.res, bare c57.code) := by kernel_rfl
def c58_k1 : ACode := .kp [] (.seq (.reg [⟨some 2, .mv (.c (.str [121, 101, 97, 114])), none⟩]) (.ret))
def c58_k1_go {Q e n H} := @awgoH Tryz.prog _ _ c58_k1.eq_1 Q e n H
def c58_k2 : ACode := .kp [0] (.seq (.seq (.reg [⟨some 7, .mv (.t 0), none⟩,
    ⟨some 8, .bin .eql (.t 7) (.c (.int .i64 3)), none⟩]) (.kp [8] (.cond (.t 8) (.seq (.reg [⟨some 2, .mv (.c (.str [109, 111, 110, 116, 104])), none⟩]) (.ret)) (.skip)))) (c58_k1))
def c58_k2_go {Q e n H} := @awgoH Tryz.prog _ _ c58_k2.eq_1 Q e n H
def c58_k3 : ACode := .kp [0] (.seq (.seq (.reg [⟨some 5, .mv (.t 0), none⟩,
    ⟨some 6, .bin .eql (.t 5) (.c (.int .i64 2)), none⟩]) (.kp [0, 6] (.cond (.t 6) (.seq (.reg [⟨some 2, .mv (.c (.str [119, 101, 101, 107])), none⟩]) (.ret)) (.skip)))) (c58_k2))
def c58_k3_go {Q e n H} := @awgoH Tryz.prog _ _ c58_k3.eq_1 Q e n H
def c58 : AFun := { nargs := 1, nt := 9, res := [.tmp 2], code := .seq (.reg [⟨some 2, .mv (.c (.str [])), none⟩]) (.kp [0] (.seq (.seq (.reg [⟨some 3, .mv (.t 0), none⟩,
    ⟨some 4, .bin .eql (.t 3) (.c (.int .i64 1)), none⟩]) (.kp [0, 4] (.cond (.t 4) (.seq (.reg [⟨some 2, .mv (.c (.str [100, 97, 121])), none⟩]) (.ret)) (.skip)))) (c58_k3))) }
theorem cmp58 : (cFun Tryz.prog efs Tryz.f58).map (fun x => (x.nargs, x.nt, x.res, x.code)) = some (c58.nargs, c58.nt, c58.res, bare c58.code) := by kernel_rfl
def c59_k1 : ACode := .kp [0, 5] (.seq (.reg [⟨some 24, .mv (.t 0), none⟩,
    ⟨some 25, .bin .add (.c (.str [32])) (.t 24), none⟩,
    ⟨some 26, .bin .add (.t 25) (.c (.str [32])), none⟩,
    ⟨some 27, .mv (.t 5), none⟩,
    ⟨some 28, .callp 96 [(.t 27), (.c (.str [44]))], none⟩,
    ⟨some 29, .bin .add (.t 26) (.t 28), none⟩,
    ⟨some 4, .mv (.t 29), none⟩]) (.ret))
def c59_k1_go {Q e n H} := @awgoH Tryz.prog _ _ c59_k1.eq_1 Q e n H
def c59_k2 : ACode := .kp [0, 1, 5, 6] (.reg [⟨some 14, .mv (.t 6), none⟩,
    ⟨some 15, .bin .add (.t 14) (.c (.int .i64 1)), none⟩,
    ⟨some 6, .mv (.t 15), none⟩])
def c59_k2_go {Q e n H} := @awgoH Tryz.prog _ _ c59_k2.eq_1 Q e n H
def c59_k3 : ACode := .kp [0, 1, 5, 6] (.seq (.block 1 (.reg [⟨some 16, .mv (.t 5), none⟩,
    ⟨some 17, .mv (.t 1), none⟩,
    ⟨some 18, .mv (.t 6), none⟩,
    ⟨some 19, .iaddr 1 none (.t 17) (.t 18), none⟩,
    ⟨some 20, .load none (.t 19), none⟩,
    ⟨some 21, .callp 57 [(.t 20)], none⟩,
    ⟨some 22, .bsl 9 none [(.t 21)], none⟩,
    ⟨some 23, .app 9 1 16 (.t 16) (.t 22), none⟩,
    ⟨some 5, .mv (.t 23), none⟩])) (c59_k2))
def c59_k3_go {Q e n H} := @awgoH Tryz.prog _ _ c59_k3.eq_1 Q e n H
def c59_L4 : ACode := .ke [0, 1, 5, 6] (.seq (.seq (.reg [⟨some 10, .mv (.t 6), none⟩,
    ⟨some 11, .mv (.t 1), none⟩,
    ⟨some 12, .len (.t 11), none⟩,
    ⟨some 13, .bin .lss (.t 10) (.t 12), none⟩]) (.kp [0, 1, 5, 6, 13] (.cond (.t 13) (.skip) (.exit 0)))) (c59_k3))
def c59_L4_go {Q e n H} := @awgoH Tryz.prog _ _ c59_L4.eq_1 Q e n H
def c59_k5 : ACode := .kp [0, 1] (.seq (.reg [⟨some 5, .mv (.c (.sl 0 [] .nil)), none⟩]) (.kp [0, 1, 5] (.seq (.seq (.reg [⟨some 6, .mv (.c (.int .i64 0)), none⟩]) (.kp [0, 1, 5, 6] (.block 0 (.kp [0, 1, 5, 6] (.loop c59_L4))))) (c59_k1))))
def c59_k5_go {Q e n H} := @awgoH Tryz.prog _ _ c59_k5.eq_1 Q e n H
def c59 : AFun := { nargs := 2, nt := 30, res := [.tmp 4], code := .seq (.reg [⟨some 4, .mv (.c (.str [])), none⟩]) (.kp [0, 1] (.seq (.seq (.reg [⟨some 7, .mv (.t 1), none⟩,
    ⟨some 8, .len (.t 7), none⟩,
    ⟨some 9, .bin .eql (.t 8) (.c (.int .i64 0)), none⟩]) (.kp [0, 1, 9] (.cond (.t 9) (.seq (.reg [⟨some 4, .mv (.c (.str [])), none⟩]) (.ret)) (.skip)))) (c59_k5))) }
theorem cmp59 : (cFun Tryz.prog efs Tryz.f59).map (fun x => (x.nargs, x.nt, x.res, x.code)) = some (c59.nargs, c59.nt, c59.res, bare c59.code) := by kernel_rfl
def c96_k1 : ACode := .kp [5] (.seq (.reg [⟨some 24, .mv (.t 5), none⟩,
    ⟨some 4, .mv (.t 24), none⟩]) (.ret))
def c96_k1_go {Q e n H} := @awgoH Tryz.prog _ _ c96_k1.eq_1 Q e n H
def c96_k2 : ACode := .kp [0, 1, 5, 6] (.reg [⟨some 11, .mv (.t 6), none⟩,
    ⟨some 12, .bin .add (.t 11) (.c (.int .i64 1)), none⟩,
    ⟨some 6, .mv (.t 12), none⟩])
def c96_k2_go {Q e n H} := @awgoH Tryz.prog _ _ c96_k2.eq_1 Q e n H
def c96_k3 : ACode := .kp [0, 1, 5, 6] (.reg [⟨some 18, .mv (.t 5), none⟩,
    ⟨some 19, .mv (.t 0), none⟩,
    ⟨some 20, .mv (.t 6), none⟩,
    ⟨some 21, .iaddr 1 none (.t 19) (.t 20), none⟩,
    ⟨some 22, .load none (.t 21), none⟩,
    ⟨some 23, .bin .add (.t 18) (.t 22), none⟩,
    ⟨some 5, .mv (.t 23), none⟩])
def c96_k3_go {Q e n H} := @awgoH Tryz.prog _ _ c96_k3.eq_1 Q e n H
def c96_k4 : ACode := .kp [0, 1, 5, 6] (.seq (.block 1 (.seq (.seq (.reg [⟨some 13, .mv (.t 6), none⟩,
    ⟨some 14, .bin .gtr (.t 13) (.c (.int .i64 0)), none⟩]) (.kp [0, 1, 5, 6, 14] (.cond (.t 14) (.reg [⟨some 15, .mv (.t 5), none⟩,
    ⟨some 16, .mv (.t 1), none⟩,
    ⟨some 17, .bin .add (.t 15) (.t 16), none⟩,
    ⟨some 5, .mv (.t 17), none⟩]) (.skip)))) (c96_k3))) (c96_k2))
def c96_k4_go {Q e n H} := @awgoH Tryz.prog _ _ c96_k4.eq_1 Q e n H
def c96_L5 : ACode := .ke [0, 1, 5, 6] (.seq (.seq (.reg [⟨some 7, .mv (.t 6), none⟩,
    ⟨some 8, .mv (.t 0), none⟩,
    ⟨some 9, .len (.t 8), none⟩,
    ⟨some 10, .bin .lss (.t 7) (.t 9), none⟩]) (.kp [0, 1, 5, 6, 10] (.cond (.t 10) (.skip) (.exit 0)))) (c96_k4))
def c96_L5_go {Q e n H} := @awgoH Tryz.prog _ _ c96_L5.eq_1 Q e n H
def c96 : AFun := { nargs := 2, nt := 25, res := [.tmp 4], code := .seq (.reg [⟨some 4, .mv (.c (.str [])), none⟩]) (.kp [0, 1] (.seq (.reg [⟨some 5, .mv (.c (.str [])), none⟩]) (.kp [0, 1, 5] (.seq (.seq (.reg [⟨some 6, .mv (.c (.int .i64 0)), none⟩]) (.kp [0, 1, 5, 6] (.block 0 (.kp [0, 1, 5, 6] (.loop c96_L5))))) (c96_k1))))) }
theorem cmp96 : (cFun Tryz.prog efs Tryz.f96).map (fun x => (x.nargs, x.nt, x.res, x.code)) = some (c96.nargs, c96.nt, c96.res, bare c96.code) := by kernel_rfl
def c5_k1 : ACode := .kp [1, 3, 4] (.seq (.reg [⟨some 29, .mv (.t 3), none⟩,
    ⟨some 30, .callp 18 [(.t 29)], none⟩,
    ⟨some 28, .mv (.t 30), none⟩,
    ⟨some 31, .extr (.t 28) 0, none⟩,
    ⟨some 32, .extr (.t 28) 1, none⟩,
    ⟨some 6, .alloc 25 [(.int .i64 0), (.int .i64 0), (.sl 0 [] .nil), (.sl 0 [] .nil), (.sl 0 [] .nil), (.sl 0 [] .nil), (.int .i64 0), (.int .i64 0)], none⟩,
    ⟨some 7, .alloc 27 [(.int .i64 0), (.int .i64 0)], none⟩,
    ⟨none, .store (some 8) (.t 6) (.t 31), none⟩,
    ⟨none, .store (some 2) (.t 7) (.t 32), none⟩]) (.kp [1, 3, 4, 6, 7] (.seq (.segs [⟨none, [⟨some 33, .faddr (.t 4) 0 none, none⟩,
      ⟨some 34, .load none (.t 33), none⟩,
      ⟨some 35, .bin .eql (.t 34) (.c (.int .i64 0)), none⟩,
      ⟨some 36, .mv (.t 35), none⟩], none⟩,
    ⟨some (36, true), [⟨some 37, .mv (.t 3), none⟩,
      ⟨some 38, .load (some 8) (.t 1), none⟩,
      ⟨some 39, .callp 19 [(.t 38)], none⟩,
      ⟨some 40, .bin .eql (.t 37) (.t 39), none⟩], none⟩,
    ⟨none, [⟨some 41, .pick (.t 36) (.t 40) (.c (.bool false)), none⟩,
      ⟨some 42, .mv (.t 41), none⟩], none⟩,
    ⟨some (42, true), [⟨some 43, .faddr (.t 7) 0 none, none⟩,
      ⟨some 44, .load none (.t 43), none⟩,
      ⟨some 45, .bin .eql (.t 44) (.c (.int .i64 0)), none⟩], some (46, 45)⟩,
    ⟨none, [⟨some 47, .mv (.t 46), none⟩], none⟩,
    ⟨some (47, true), [⟨some 48, .load (some 8) (.t 6), none⟩,
      ⟨some 49, .load (some 8) (.t 1), none⟩,
      ⟨some 50, .callp 20 [(.t 48), (.t 49)], none⟩], none⟩,
    ⟨none, [⟨some 51, .pick (.t 47) (.t 50) (.c (.bool false)), none⟩,
      ⟨some 52, .mv (.t 51), none⟩], none⟩,
    ⟨some (52, true), [⟨some 53, .callp 13 [], none⟩], none⟩,
    ⟨none, [⟨some 54, .pick (.t 52) (.t 53) (.c (.bool false)), none⟩,
      ⟨some 2, .mv (.t 54), none⟩], none⟩]) (.ret))))
def c5_k1_go {Q e n H} := @awgoH Tryz.prog _ _ c5_k1.eq_1 Q e n H
def c5 : AFun := { nargs := 1, nt := 55, res := [.tmp 2], code := .seq (.reg [⟨some 1, .box 25 (some 8) (.t 0), none⟩,
    ⟨some 2, .mv (.c (.bool false)), none⟩]) (.kp [1] (.seq (.reg [⟨some 9, .load (some 8) (.t 1), none⟩,
    ⟨some 10, .callp 17 [(.t 9)], none⟩,
    ⟨some 8, .mv (.t 10), none⟩,
    ⟨some 11, .extr (.t 8) 0, none⟩,
    ⟨some 12, .extr (.t 8) 1, none⟩,
    ⟨some 4, .alloc 27 [(.int .i64 0), (.int .i64 0)], none⟩,
    ⟨some 3, .mv (.t 11), none⟩,
    ⟨none, .store (some 2) (.t 4) (.t 12), none⟩]) (.kp [1, 3, 4] (.seq (.seq (.reg [⟨some 13, .load (some 8) (.t 1), none⟩,
    ⟨some 14, .callp 9 [(.t 13)], none⟩,
    ⟨some 5, .alloc 27 [(.int .i64 0), (.int .i64 0)], none⟩,
    ⟨none, .store (some 2) (.t 5) (.t 14), none⟩]) (.kp [1, 3, 4, 5] (.seq (.reg [⟨some 15, .faddr (.t 5) 0 none, none⟩,
    ⟨some 16, .load none (.t 15), none⟩,
    ⟨some 17, .bin .neq (.t 16) (.c (.int .i64 0)), none⟩]) (.kp [1, 3, 4, 5, 17] (.cond (.t 17) (.seq (.segs [⟨none, [⟨some 18, .load (some 2) (.t 4), none⟩,
      ⟨some 19, .load (some 2) (.t 5), none⟩,
      ⟨some 20, .eqs [.i, .i] false (.t 18) (.t 19), none⟩,
      ⟨some 21, .mv (.t 20), none⟩], none⟩,
    ⟨some (21, true), [⟨some 22, .mv (.t 3), none⟩,
      ⟨some 23, .bin .eql (.t 22) (.c (.str [])), none⟩], some (24, 23)⟩,
    ⟨none, [⟨some 25, .mv (.t 24), none⟩], none⟩,
    ⟨some (25, true), [⟨some 26, .callp 13 [], none⟩], none⟩,
    ⟨none, [⟨some 27, .pick (.t 25) (.t 26) (.c (.bool false)), none⟩,
      ⟨some 2, .mv (.t 27), none⟩], none⟩]) (.ret)) (.skip)))))) (c5_k1))))) }
theorem cmp5 : (cFun Tryz.prog efs Tryz.f5).map (fun x => (x.nargs, x.nt, x.res, x.code)) = some (c5.nargs, c5.nt, c5.res, bare c5.code) := by kernel_rfl
def c20_k1 : ACode := .kp [2, 3] (.seq (.segs [⟨none, [⟨some 31, .faddr (.t 2) 0 none, none⟩,
      ⟨some 32, .load none (.t 31), none⟩,
      ⟨some 33, .faddr (.t 3) 0 none, none⟩,
      ⟨some 34, .load none (.t 33), none⟩,
      ⟨some 35, .bin .eql (.t 32) (.t 34), none⟩,
      ⟨some 36, .mv (.t 35), none⟩], none⟩,
    ⟨some (36, true), [⟨some 37, .faddr (.t 2) 1 none, none⟩,
      ⟨some 38, .load none (.t 37), none⟩,
      ⟨some 39, .faddr (.t 3) 1 none, none⟩,
      ⟨some 40, .load none (.t 39), none⟩,
      ⟨some 41, .bin .eql (.t 38) (.t 40), none⟩], some (42, 41)⟩,
    ⟨none, [⟨some 43, .mv (.t 42), none⟩], none⟩,
    ⟨some (43, true), [⟨some 44, .faddr (.t 2) 6 none, none⟩,
      ⟨some 45, .load none (.t 44), none⟩,
      ⟨some 46, .faddr (.t 3) 6 none, none⟩,
      ⟨some 47, .load none (.t 46), none⟩,
      ⟨some 48, .bin .eql (.t 45) (.t 47), none⟩], some (49, 48)⟩,
    ⟨none, [⟨some 50, .mv (.t 49), none⟩], none⟩,
    ⟨some (50, true), [⟨some 51, .faddr (.t 2) 7 none, none⟩,
      ⟨some 52, .load none (.t 51), none⟩,
      ⟨some 53, .faddr (.t 3) 7 none, none⟩,
      ⟨some 54, .load none (.t 53), none⟩,
      ⟨some 55, .bin .eql (.t 52) (.t 54), none⟩], some (56, 55)⟩,
    ⟨none, [⟨some 57, .mv (.t 56), none⟩], none⟩,
    ⟨some (57, true), [⟨some 58, .faddr (.t 2) 2 none, none⟩,
      ⟨some 59, .load none (.t 58), none⟩,
      ⟨some 60, .faddr (.t 3) 2 none, none⟩,
      ⟨some 61, .load none (.t 60), none⟩,
      ⟨some 62, .callp 14 [(.t 59), (.t 61)], none⟩], none⟩,
    ⟨none, [⟨some 63, .pick (.t 57) (.t 62) (.c (.bool false)), none⟩,
      ⟨some 64, .mv (.t 63), none⟩], none⟩,
    ⟨some (64, true), [⟨some 65, .faddr (.t 2) 3 none, none⟩,
      ⟨some 66, .load none (.t 65), none⟩,
      ⟨some 67, .faddr (.t 3) 3 none, none⟩,
      ⟨some 68, .load none (.t 67), none⟩,
      ⟨some 69, .callp 14 [(.t 66), (.t 68)], none⟩], none⟩,
    ⟨none, [⟨some 70, .pick (.t 64) (.t 69) (.c (.bool false)), none⟩,
      ⟨some 71, .mv (.t 70), none⟩], none⟩,
    ⟨some (71, true), [⟨some 72, .faddr (.t 2) 5 none, none⟩,
      ⟨some 73, .load none (.t 72), none⟩,
      ⟨some 74, .faddr (.t 3) 5 none, none⟩,
      ⟨some 75, .load none (.t 74), none⟩,
      ⟨some 76, .callp 14 [(.t 73), (.t 75)], none⟩], none⟩,
    ⟨none, [⟨some 77, .pick (.t 71) (.t 76) (.c (.bool false)), none⟩,
      ⟨some 4, .mv (.t 77), none⟩], none⟩]) (.ret))
def c20_k1_go {Q e n H} := @awgoH Tryz.prog _ _ c20_k1.eq_1 Q e n H
def c20_k2 : ACode := .kp [2, 3, 5] (.reg [⟨some 18, .mv (.t 5), none⟩,
    ⟨some 19, .bin .add (.t 18) (.c (.int .i64 1)), none⟩,
    ⟨some 5, .mv (.t 19), none⟩])
def c20_k2_go {Q e n H} := @awgoH Tryz.prog _ _ c20_k2.eq_1 Q e n H
def c20_k3 : ACode := .kp [2, 3, 5] (.seq (.block 1 (.seq (.reg [⟨some 20, .faddr (.t 2) 4 none, none⟩,
    ⟨some 21, .load none (.t 20), none⟩,
    ⟨some 22, .mv (.t 5), none⟩,
    ⟨some 23, .iaddr 2 (some 2) (.t 21) (.t 22), none⟩,
    ⟨some 24, .load (some 2) (.t 23), none⟩,
    ⟨some 25, .faddr (.t 3) 4 none, none⟩,
    ⟨some 26, .load none (.t 25), none⟩,
    ⟨some 27, .mv (.t 5), none⟩,
    ⟨some 28, .iaddr 2 (some 2) (.t 26) (.t 27), none⟩,
    ⟨some 29, .load (some 2) (.t 28), none⟩,
    ⟨some 30, .eqs [.i, .i] true (.t 24) (.t 29), none⟩]) (.kp [2, 3, 5, 30] (.cond (.t 30) (.seq (.reg [⟨some 4, .mv (.c (.bool false)), none⟩]) (.ret)) (.skip))))) (c20_k2))
def c20_k3_go {Q e n H} := @awgoH Tryz.prog _ _ c20_k3.eq_1 Q e n H
def c20_L4 : ACode := .ke [2, 3, 5] (.seq (.seq (.reg [⟨some 13, .mv (.t 5), none⟩,
    ⟨some 14, .faddr (.t 2) 4 none, none⟩,
    ⟨some 15, .load none (.t 14), none⟩,
    ⟨some 16, .len (.t 15), none⟩,
    ⟨some 17, .bin .lss (.t 13) (.t 16), none⟩]) (.kp [2, 3, 5, 17] (.cond (.t 17) (.skip) (.exit 0)))) (c20_k3))
def c20_L4_go {Q e n H} := @awgoH Tryz.prog _ _ c20_L4.eq_1 Q e n H
def c20_k5 : ACode := .kp [2, 3] (.seq (.seq (.reg [⟨some 5, .mv (.c (.int .i64 0)), none⟩]) (.kp [2, 3, 5] (.block 0 (.kp [2, 3, 5] (.loop c20_L4))))) (c20_k1))
def c20_k5_go {Q e n H} := @awgoH Tryz.prog _ _ c20_k5.eq_1 Q e n H
def c20 : AFun := { nargs := 2, nt := 78, res := [.tmp 4], code := .seq (.reg [⟨some 2, .box 25 (some 8) (.t 0), none⟩,
    ⟨some 3, .box 25 (some 8) (.t 1), none⟩,
    ⟨some 4, .mv (.c (.bool false)), none⟩]) (.kp [2, 3] (.seq (.seq (.reg [⟨some 6, .faddr (.t 2) 4 none, none⟩,
    ⟨some 7, .load none (.t 6), none⟩,
    ⟨some 8, .len (.t 7), none⟩,
    ⟨some 9, .faddr (.t 3) 4 none, none⟩,
    ⟨some 10, .load none (.t 9), none⟩,
    ⟨some 11, .len (.t 10), none⟩,
    ⟨some 12, .bin .neq (.t 8) (.t 11), none⟩]) (.kp [2, 3, 12] (.cond (.t 12) (.seq (.reg [⟨some 4, .mv (.c (.bool false)), none⟩]) (.ret)) (.skip)))) (c20_k5))) }
theorem cmp20 : (cFun Tryz.prog efs Tryz.f20).map (fun x => (x.nargs, x.nt, x.res, x.code)) = some (c20.nargs, c20.nt, c20.res, bare c20.code) := by kernel_rfl
end Go.Proofs.YtecpfmhminkalaaGreatDoor
