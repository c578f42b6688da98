/- The code of some functions on plain data, by program, and that it is what the program's text gives; no condition. -/
import Derived.Test.YtecpfmhminkalaaGreatDoorAdA
import Derived.Test.YtecpfmhminkalaaGreatDoorProg
import Derived.KernelRfl
set_option linter.all false
set_option linter.unusedSimpArgs false
set_option linter.unusedVariables false
namespace Go.Proofs.YtecpfmhminkalaaGreatDoor
theorem awgoC {P : Program} {c d : ACode} (h : c = d) {Q : AExit → AS → Prop} {e : AEnv} {n : Nat} {H : AHeap} : aw P c Q ⟨e, n, H⟩ = aw P d Q ⟨e, n, H⟩ := by rw [h]
def c64_k1 : ACode := .kp [2, 4] (.seq (.reg [⟨some 39, .load (some 6) (.t 4), none⟩,
    ⟨none, .store (some 6) (.t 2) (.t 39), none⟩]) (.ret))
def c64_k1_go {Q e n H} := @awgoC Tryz.prog _ _ c64_k1.eq_1 Q e n H
def c64_k2 : ACode := .kp [0, 2, 3, 4, 5] (.block 1 (.seq (.reg [⟨some 25, .faddr (.t 4) 4 none, none⟩,
    ⟨some 26, .load none (.t 25), none⟩,
    ⟨some 27, .bin .add (.t 26) (.c (.int .i64 1)), none⟩,
    ⟨some 28, .faddr (.t 4) 4 none, none⟩,
    ⟨none, .store none (.t 28) (.t 27), none⟩]) (.kp [0, 2, 3, 4, 5] (.seq (.reg [⟨some 29, .mv (.t 0), none⟩,
    ⟨some 30, .faddr (.t 4) 4 none, none⟩,
    ⟨some 31, .load none (.t 30), none⟩,
    ⟨some 32, .bin .add (.t 29) (.t 31), none⟩,
    ⟨some 33, .callp 99 [(.t 32)], none⟩,
    ⟨none, .store (some 6) (.t 5) (.t 33), none⟩]) (.kp [0, 2, 3, 4, 5] (.seq (.reg [⟨some 34, .mv (.t 0), none⟩,
    ⟨some 35, .faddr (.t 4) 4 none, none⟩,
    ⟨some 36, .load none (.t 35), none⟩,
    ⟨some 37, .bin .add (.t 34) (.t 36), none⟩,
    ⟨some 38, .bin .gtr (.t 37) (.c (.int .i64 3652059)), none⟩]) (.kp [0, 2, 3, 4, 5, 38] (.cond (.t 38) (.exit 0) (.skip)))))))))
def c64_k2_go {Q e n H} := @awgoC Tryz.prog _ _ c64_k2.eq_1 Q e n H
def c64_L3 : ACode := .ke [0, 2, 3, 4, 5] (.seq (.seq (.reg [⟨some 20, .faddr (.t 5) 1 none, none⟩,
    ⟨some 21, .load none (.t 20), none⟩,
    ⟨some 22, .faddr (.t 3) 1 none, none⟩,
    ⟨some 23, .load none (.t 22), none⟩,
    ⟨some 24, .bin .eql (.t 21) (.t 23), none⟩]) (.kp [0, 2, 3, 4, 5, 24] (.cond (.t 24) (.skip) (.exit 0)))) (c64_k2))
def c64_L3_go {Q e n H} := @awgoC Tryz.prog _ _ c64_L3.eq_1 Q e n H
def c64 : AFun := { nargs := 1, nt := 40, res := [.cell 2 (some 6)], code := .seq (.reg [⟨some 2, .alloc 85 [(.int .i64 0), (.int .i64 0), (.int .i64 0), (.int .i64 0), (.int .i64 0), (.int .i64 0)], none⟩]) (.kp [0, 2] (.seq (.reg [⟨some 6, .mv (.t 0), none⟩,
    ⟨some 7, .callp 99 [(.t 6)], none⟩,
    ⟨some 3, .alloc 99 [(.int .i64 0), (.int .i64 0), (.int .i64 0), (.int .i64 0), (.int .i64 0), (.int .i64 0)], none⟩,
    ⟨none, .store (some 6) (.t 3) (.t 7), none⟩]) (.kp [0, 2, 3] (.seq (.reg [⟨some 8, .mv (.t 0), none⟩,
    ⟨some 9, .faddr (.t 3) 0 none, none⟩,
    ⟨some 10, .load none (.t 9), none⟩,
    ⟨some 11, .faddr (.t 3) 1 none, none⟩,
    ⟨some 12, .load none (.t 11), none⟩,
    ⟨some 13, .faddr (.t 3) 2 none, none⟩,
    ⟨some 14, .load none (.t 13), none⟩,
    ⟨some 15, .mv (.t 0), none⟩,
    ⟨some 16, .bin .sub (.t 15) (.c (.int .i64 1)), none⟩,
    ⟨some 17, .bin .rem (.t 16) (.c (.int .i64 7)), none⟩,
    ⟨some 18, .build [(.int .i64 0), (.int .i64 0), (.int .i64 0), (.int .i64 0), (.int .i64 0), (.int .i64 0)] [(0, none, (.t 8)), (1, none, (.t 10)), (2, none, (.t 12)), (3, none, (.t 14)), (5, none, (.t 17))], none⟩,
    ⟨some 4, .alloc 85 [(.int .i64 0), (.int .i64 0), (.int .i64 0), (.int .i64 0), (.int .i64 0), (.int .i64 0)], none⟩,
    ⟨none, .store (some 6) (.t 4) (.t 18), none⟩]) (.kp [0, 2, 3, 4] (.seq (.reg [⟨some 19, .load (some 6) (.t 3), none⟩,
    ⟨some 5, .alloc 99 [(.int .i64 0), (.int .i64 0), (.int .i64 0), (.int .i64 0), (.int .i64 0), (.int .i64 0)], none⟩,
    ⟨none, .store (some 6) (.t 5) (.t 19), none⟩]) (.kp [0, 2, 3, 4, 5] (.seq (.block 0 (.kp [0, 2, 3, 4, 5] (.loop c64_L3))) (c64_k1))))))))) }
theorem cmp64 : (cFun Tryz.prog efs Tryz.f64).map (fun x => (x.nargs, x.nt, x.res, x.code)) = some (c64.nargs, c64.nt, c64.res, bare c64.code) := by kernel_rfl
def c66_k1 : ACode := .kp [5] (.seq (.reg [⟨some 36, .mv (.t 5), none⟩,
    ⟨some 4, .mv (.t 36), none⟩]) (.ret))
def c66_k1_go {Q e n H} := @awgoC Tryz.prog _ _ c66_k1.eq_1 Q e n H
def c66_k2 : ACode := .kp [0, 1, 5, 12, 13, 14] (.reg [⟨some 35, .bin .add (.t 14) (.c (.int .i64 1)), none⟩,
    ⟨some 14, .mv (.t 35), none⟩])
def c66_k2_go {Q e n H} := @awgoC Tryz.prog _ _ c66_k2.eq_1 Q e n H
def c66_k3 : ACode := .kp [0, 1, 5, 12, 13, 14] (.seq (.block 1 (.seq (.reg [⟨some 16, .mv (.t 14), none⟩,
    ⟨some 17, .iaddr 1 none (.t 12) (.t 14), none⟩,
    ⟨some 18, .load none (.t 17), none⟩,
    ⟨some 6, .mv (.t 16), none⟩,
    ⟨some 7, .mv (.t 18), none⟩]) (.kp [0, 1, 5, 6, 7, 12, 13, 14] (.seq (.segs [⟨none, [⟨some 19, .mv (.t 1), none⟩,
      ⟨some 20, .mv (.t 6), none⟩,
      ⟨some 21, .bin .add (.t 20) (.c (.int .i64 1)), none⟩,
      ⟨some 22, .callp 72 [(.t 19), (.t 21)], none⟩,
      ⟨some 23, .mv (.t 22), none⟩], none⟩,
    ⟨some (23, false), [⟨some 24, .mv (.t 1), none⟩,
      ⟨some 25, .mv (.t 6), none⟩,
      ⟨some 26, .mv (.t 0), none⟩,
      ⟨some 27, .len (.t 26), none⟩,
      ⟨some 28, .bin .sub (.t 25) (.t 27), none⟩,
      ⟨some 29, .callp 72 [(.t 24), (.t 28)], none⟩], none⟩,
    ⟨none, [⟨some 30, .pick (.t 23) (.c (.bool true)) (.t 29), none⟩], none⟩]) (.kp [0, 1, 5, 7, 12, 13, 14, 30] (.cond (.t 30) (.reg [⟨some 31, .mv (.t 5), none⟩,
    ⟨some 32, .mv (.t 7), none⟩,
    ⟨some 33, .bsl 3 none [(.t 32)], none⟩,
    ⟨some 34, .app 3 1 8 (.t 31) (.t 33), none⟩,
    ⟨some 5, .mv (.t 34), none⟩]) (.skip))))))) (c66_k2))
def c66_k3_go {Q e n H} := @awgoC Tryz.prog _ _ c66_k3.eq_1 Q e n H
def c66_L4 : ACode := .ke [0, 1, 5, 12, 13, 14] (.seq (.reg [⟨some 15, .bin .lss (.t 14) (.t 13), none⟩]) (.kp [0, 1, 5, 12, 13, 14, 15] (.seq (.cond (.t 15) (.skip) (.exit 0)) (c66_k3))))
def c66_L4_go {Q e n H} := @awgoC Tryz.prog _ _ c66_L4.eq_1 Q e n H
def c66_k5 : ACode := .kp [0, 1] (.seq (.reg [⟨some 5, .mv (.c (.sl 0 [] .nil)), none⟩]) (.kp [0, 1, 5] (.seq (.seq (.reg [⟨some 12, .mv (.t 0), none⟩,
    ⟨some 13, .len (.t 12), none⟩,
    ⟨some 14, .mv (.c (.int .i64 0)), none⟩]) (.kp [0, 1, 5, 12, 13, 14] (.block 0 (.kp [0, 1, 5, 12, 13, 14] (.loop c66_L4))))) (c66_k1))))
def c66_k5_go {Q e n H} := @awgoC Tryz.prog _ _ c66_k5.eq_1 Q e n H
def c66 : AFun := { nargs := 2, nt := 37, res := [.tmp 4], code := .seq (.reg [⟨some 4, .mv (.c (.sl 0 [] .nil)), none⟩]) (.kp [0, 1] (.seq (.seq (.reg [⟨some 8, .mv (.t 1), none⟩,
    ⟨some 9, .len (.t 8), none⟩,
    ⟨some 10, .bin .eql (.t 9) (.c (.int .i64 0)), none⟩]) (.kp [0, 1, 10] (.cond (.t 10) (.seq (.reg [⟨some 11, .mv (.t 0), none⟩,
    ⟨some 4, .mv (.t 11), none⟩]) (.ret)) (.skip)))) (c66_k5))) }
theorem cmp66 : (cFun Tryz.prog efs Tryz.f66).map (fun x => (x.nargs, x.nt, x.res, x.code)) = some (c66.nargs, c66.nt, c66.res, bare c66.code) := by kernel_rfl
def c67_k1 : ACode := .kp [2] (.seq (.reg [⟨some 24, .faddr (.t 2) 0 none, none⟩,
    ⟨some 25, .load none (.t 24), none⟩,
    ⟨some 4, .mv (.t 25), none⟩]) (.ret))
def c67_k1_go {Q e n H} := @awgoC Tryz.prog _ _ c67_k1.eq_1 Q e n H
def c67_e2 : ACode := .kp [2, 5] (.seq (.reg [⟨some 21, .bin .eql (.t 5) (.c (.int .i64 4)), none⟩,
    ⟨some 20, .mv (.t 21), none⟩]) (.kp [2, 20] (.cond (.t 20) (.seq (.reg [⟨some 22, .faddr (.t 2) 1 none, none⟩,
    ⟨some 23, .load none (.t 22), none⟩,
    ⟨some 4, .mv (.t 23), none⟩]) (.ret)) (.skip))))
def c67_e2_go {Q e n H} := @awgoC Tryz.prog _ _ c67_e2.eq_1 Q e n H
def c67_e3 : ACode := .kp [2, 5] (.seq (.reg [⟨some 13, .bin .eql (.t 5) (.c (.int .i64 3)), none⟩,
    ⟨some 12, .mv (.t 13), none⟩]) (.kp [2, 5, 12] (.cond (.t 12) (.seq (.reg [⟨some 14, .faddr (.t 2) 1 none, none⟩,
    ⟨some 15, .load none (.t 14), none⟩,
    ⟨some 16, .bin .mul (.c (.int .i64 12)) (.t 15), none⟩,
    ⟨some 17, .faddr (.t 2) 2 none, none⟩,
    ⟨some 18, .load none (.t 17), none⟩,
    ⟨some 19, .bin .add (.t 16) (.t 18), none⟩,
    ⟨some 4, .mv (.t 19), none⟩]) (.ret)) (c67_e2))))
def c67_e3_go {Q e n H} := @awgoC Tryz.prog _ _ c67_e3.eq_1 Q e n H
def c67 : AFun := { nargs := 2, nt := 26, res := [.tmp 4], code := .seq (.reg [⟨some 2, .box 85 (some 6) (.t 0), none⟩,
    ⟨some 4, .mv (.c (.int .i64 0)), none⟩]) (.kp [1, 2] (.seq (.seq (.reg [⟨some 5, .mv (.t 1), none⟩]) (.kp [2, 5] (.block 0 (.seq (.reg [⟨some 7, .bin .eql (.t 5) (.c (.int .i64 2)), none⟩,
    ⟨some 6, .mv (.t 7), none⟩]) (.kp [2, 5, 6] (.cond (.t 6) (.seq (.reg [⟨some 8, .faddr (.t 2) 0 none, none⟩,
    ⟨some 9, .load none (.t 8), none⟩,
    ⟨some 10, .bin .sub (.t 9) (.c (.int .i64 1)), none⟩,
    ⟨some 11, .bin .quo (.t 10) (.c (.int .i64 7)), none⟩,
    ⟨some 4, .mv (.t 11), none⟩]) (.ret)) (c67_e3))))))) (c67_k1))) }
theorem cmp67 : (cFun Tryz.prog efs Tryz.f67).map (fun x => (x.nargs, x.nt, x.res, x.code)) = some (c67.nargs, c67.nt, c67.res, bare c67.code) := by kernel_rfl
def c68 : AFun := { nargs := 1, nt := 7, res := [.tmp 2], code := .seq (.reg [⟨some 2, .mv (.c .np), none⟩]) (.kp [0] (.seq (.reg [⟨some 3, .mv (.t 0), none⟩,
    ⟨some 4, .callp 64 [(.t 3)], none⟩,
    ⟨some 5, .build [(.int .i64 0), (.int .i64 0), (.int .i64 0), (.int .i64 0), (.int .i64 0), (.int .i64 0)] [(0, (some 6), (.t 4))], none⟩,
    ⟨some 6, .box 94 (some 6) (.t 5), none⟩,
    ⟨some 2, .mv (.t 6), none⟩]) (.ret))) }
theorem cmp68 : (cFun Tryz.prog efs Tryz.f68).map (fun x => (x.nargs, x.nt, x.res, x.code)) = some (c68.nargs, c68.nt, c68.res, bare c68.code) := by kernel_rfl
def c69_k1 : ACode := .kp [2] (.seq (.reg [⟨some 35, .faddr (.t 2) 0 none, none⟩,
    ⟨some 36, .load none (.t 35), none⟩,
    ⟨some 4, .mv (.t 36), none⟩]) (.ret))
def c69_k1_go {Q e n H} := @awgoC Tryz.prog _ _ c69_k1.eq_1 Q e n H
def c69_t2 : ACode := .kp [2] (.seq (.reg [⟨some 26, .faddr (.t 2) 1 none, none⟩,
    ⟨some 27, .load none (.t 26), none⟩,
    ⟨some 28, .build [(.int .i64 0), (.int .i64 0), (.int .i64 0), (.int .i64 0), (.int .i64 0), (.int .i64 0)] [(0, none, (.t 27)), (1, none, (.c (.int .i64 1))), (2, none, (.c (.int .i64 1)))], none⟩,
    ⟨some 29, .callp 100 [(.t 28)], none⟩,
    ⟨some 25, .mv (.t 29), none⟩,
    ⟨some 30, .extr (.t 25) 0, none⟩,
    ⟨some 31, .extr (.t 25) 1, none⟩,
    ⟨some 6, .alloc 27 [(.int .i64 0), (.int .i64 0)], none⟩,
    ⟨some 5, .mv (.t 30), none⟩,
    ⟨none, .store (some 2) (.t 6) (.t 31), none⟩]) (.kp [5] (.seq (.reg [⟨some 32, .mv (.t 5), none⟩,
    ⟨some 33, .bin .quo (.t 32) (.c (.int .i64 86400)), none⟩,
    ⟨some 34, .bin .add (.t 33) (.c (.int .i64 1)), none⟩,
    ⟨some 4, .mv (.t 34), none⟩]) (.ret))))
def c69_t2_go {Q e n H} := @awgoC Tryz.prog _ _ c69_t2.eq_1 Q e n H
def c69_e3 : ACode := .kp [2, 7] (.seq (.reg [⟨some 24, .bin .eql (.t 7) (.c (.int .i64 4)), none⟩,
    ⟨some 23, .mv (.t 24), none⟩]) (.kp [2, 23] (.cond (.t 23) (c69_t2) (.skip))))
def c69_e3_go {Q e n H} := @awgoC Tryz.prog _ _ c69_e3.eq_1 Q e n H
def c69_e4 : ACode := .kp [2, 7] (.seq (.reg [⟨some 16, .bin .eql (.t 7) (.c (.int .i64 3)), none⟩,
    ⟨some 15, .mv (.t 16), none⟩]) (.kp [2, 7, 15] (.cond (.t 15) (.seq (.reg [⟨some 17, .faddr (.t 2) 0 none, none⟩,
    ⟨some 18, .load none (.t 17), none⟩,
    ⟨some 19, .faddr (.t 2) 3 none, none⟩,
    ⟨some 20, .load none (.t 19), none⟩,
    ⟨some 21, .bin .sub (.t 18) (.t 20), none⟩,
    ⟨some 22, .bin .add (.t 21) (.c (.int .i64 1)), none⟩,
    ⟨some 4, .mv (.t 22), none⟩]) (.ret)) (c69_e3))))
def c69_e4_go {Q e n H} := @awgoC Tryz.prog _ _ c69_e4.eq_1 Q e n H
def c69 : AFun := { nargs := 2, nt := 37, res := [.tmp 4], code := .seq (.reg [⟨some 2, .box 85 (some 6) (.t 0), none⟩,
    ⟨some 4, .mv (.c (.int .i64 0)), none⟩]) (.kp [1, 2] (.seq (.seq (.reg [⟨some 7, .mv (.t 1), none⟩]) (.kp [2, 7] (.block 0 (.seq (.reg [⟨some 9, .bin .eql (.t 7) (.c (.int .i64 2)), none⟩,
    ⟨some 8, .mv (.t 9), none⟩]) (.kp [2, 7, 8] (.cond (.t 8) (.seq (.reg [⟨some 10, .faddr (.t 2) 0 none, none⟩,
    ⟨some 11, .load none (.t 10), none⟩,
    ⟨some 12, .faddr (.t 2) 5 none, none⟩,
    ⟨some 13, .load none (.t 12), none⟩,
    ⟨some 14, .bin .sub (.t 11) (.t 13), none⟩,
    ⟨some 4, .mv (.t 14), none⟩]) (.ret)) (c69_e4))))))) (c69_k1))) }
theorem cmp69 : (cFun Tryz.prog efs Tryz.f69).map (fun x => (x.nargs, x.nt, x.res, x.code)) = some (c69.nargs, c69.nt, c69.res, bare c69.code) := by kernel_rfl
def c70_k1 : ACode := .kp [2] (.reg [⟨some 60, .mv (.t 2), none⟩,
    ⟨some 61, .mv (.t 2), none⟩,
    ⟨some 62, .nilck (.t 61), none⟩,
    ⟨some 63, .faddr (.t 62) 0 none, none⟩,
    ⟨some 64, .load none (.t 63), none⟩,
    ⟨some 65, .bin .add (.t 64) (.c (.int .i64 1)), none⟩,
    ⟨some 66, .callp 64 [(.t 65)], none⟩,
    ⟨some 67, .nilck (.t 60), none⟩,
    ⟨none, .store (some 6) (.t 67) (.t 66), none⟩])
def c70_k1_go {Q e n H} := @awgoC Tryz.prog _ _ c70_k1.eq_1 Q e n H
def c70_k2 : ACode := .kp [2] (.seq (.seq (.reg [⟨some 48, .mv (.t 2), none⟩,
    ⟨some 49, .nilck (.t 48), none⟩,
    ⟨some 50, .faddr (.t 49) 0 none, none⟩,
    ⟨some 51, .load none (.t 50), none⟩,
    ⟨some 52, .bin .geq (.t 51) (.c (.int .i64 3652059)), none⟩]) (.kp [2, 52] (.cond (.t 52) (.seq (.reg [⟨some 53, .mv (.t 2), none⟩,
    ⟨some 54, .nilck (.t 53), none⟩,
    ⟨some 55, .faddr (.t 54) 0 none, none⟩,
    ⟨some 56, .load none (.t 55), none⟩,
    ⟨some 57, .bin .add (.t 56) (.c (.int .i64 1)), none⟩,
    ⟨some 58, .nilck (.t 53), none⟩,
    ⟨some 59, .faddr (.t 58) 0 none, none⟩,
    ⟨none, .store none (.t 59) (.t 57), none⟩]) (.ret)) (.skip)))) (c70_k1))
def c70_k2_go {Q e n H} := @awgoC Tryz.prog _ _ c70_k2.eq_1 Q e n H
def c70_t3 : ACode := .kp [2] (.seq (.reg [⟨some 18, .mv (.t 2), none⟩,
    ⟨some 19, .nilck (.t 18), none⟩,
    ⟨some 20, .faddr (.t 19) 0 none, none⟩,
    ⟨some 21, .load none (.t 20), none⟩,
    ⟨some 22, .bin .add (.t 21) (.c (.int .i64 1)), none⟩,
    ⟨some 23, .nilck (.t 18), none⟩,
    ⟨some 24, .faddr (.t 23) 0 none, none⟩,
    ⟨none, .store none (.t 24) (.t 22), none⟩]) (.kp [2] (.seq (.reg [⟨some 25, .mv (.t 2), none⟩,
    ⟨some 26, .nilck (.t 25), none⟩,
    ⟨some 27, .faddr (.t 26) 3 none, none⟩,
    ⟨some 28, .load none (.t 27), none⟩,
    ⟨some 29, .bin .add (.t 28) (.c (.int .i64 1)), none⟩,
    ⟨some 30, .nilck (.t 25), none⟩,
    ⟨some 31, .faddr (.t 30) 3 none, none⟩,
    ⟨none, .store none (.t 31) (.t 29), none⟩]) (.kp [2] (.seq (.reg [⟨some 32, .mv (.t 2), none⟩,
    ⟨some 33, .nilck (.t 32), none⟩,
    ⟨some 34, .faddr (.t 33) 4 none, none⟩,
    ⟨some 35, .load none (.t 34), none⟩,
    ⟨some 36, .bin .sub (.t 35) (.c (.int .i64 1)), none⟩,
    ⟨some 37, .nilck (.t 32), none⟩,
    ⟨some 38, .faddr (.t 37) 4 none, none⟩,
    ⟨none, .store none (.t 38) (.t 36), none⟩]) (.kp [2] (.seq (.reg [⟨some 39, .mv (.t 2), none⟩,
    ⟨some 40, .mv (.t 2), none⟩,
    ⟨some 41, .nilck (.t 40), none⟩,
    ⟨some 42, .faddr (.t 41) 5 none, none⟩,
    ⟨some 43, .load none (.t 42), none⟩,
    ⟨some 44, .bin .add (.t 43) (.c (.int .i64 1)), none⟩,
    ⟨some 45, .bin .rem (.t 44) (.c (.int .i64 7)), none⟩,
    ⟨some 46, .nilck (.t 39), none⟩,
    ⟨some 47, .faddr (.t 46) 5 none, none⟩,
    ⟨none, .store none (.t 47) (.t 45), none⟩]) (.ret))))))))
def c70_t3_go {Q e n H} := @awgoC Tryz.prog _ _ c70_t3.eq_1 Q e n H
def c70 : AFun := { nargs := 1, nt := 68, res := [], code := .seq (.reg [⟨some 3, .mv (.t 0), none⟩,
    ⟨some 4, .nilck (.t 3), none⟩,
    ⟨some 5, .faddr (.t 4) 0 (some 6), none⟩,
    ⟨some 2, .mv (.t 5), none⟩]) (.kp [2] (.seq (.seq (.segs [⟨none, [⟨some 6, .mv (.t 2), none⟩,
      ⟨some 7, .nilck (.t 6), none⟩,
      ⟨some 8, .faddr (.t 7) 4 none, none⟩,
      ⟨some 9, .load none (.t 8), none⟩,
      ⟨some 10, .bin .gtr (.t 9) (.c (.int .i64 1)), none⟩,
      ⟨some 11, .mv (.t 10), none⟩], none⟩,
    ⟨some (11, true), [⟨some 12, .mv (.t 2), none⟩,
      ⟨some 13, .nilck (.t 12), none⟩,
      ⟨some 14, .faddr (.t 13) 0 none, none⟩,
      ⟨some 15, .load none (.t 14), none⟩,
      ⟨some 16, .bin .lss (.t 15) (.c (.int .i64 3652059)), none⟩], some (17, 16)⟩]) (.kp [2, 17] (.cond (.t 17) (c70_t3) (.skip)))) (c70_k2))) }
theorem cmp70 : (cFun Tryz.prog efs Tryz.f70).map (fun x => (x.nargs, x.nt, x.res, x.code)) = some (c70.nargs, c70.nt, c70.res, bare c70.code) := by kernel_rfl
def c71_k1 : ACode := .kp [] (.seq (.reg [⟨some 6, .mv (.c (.bool true)), none⟩]) (.ret))
def c71_k1_go {Q e n H} := @awgoC Tryz.prog _ _ c71_k1.eq_1 Q e n H
def c71_e2 : ACode := .kp [3, 4, 5, 54] (.seq (.reg [⟨some 70, .bin .eql (.t 54) (.c (.int .i64 4)), none⟩,
    ⟨some 69, .mv (.t 70), none⟩]) (.kp [3, 4, 5, 69] (.cond (.t 69) (.seq (.segs [⟨none, [⟨some 71, .faddr (.t 3) 3 none, none⟩,
      ⟨some 72, .load none (.t 71), none⟩,
      ⟨some 73, .faddr (.t 5) 3 none, none⟩,
      ⟨some 74, .load none (.t 73), none⟩,
      ⟨some 75, .bin .eql (.t 72) (.t 74), none⟩,
      ⟨some 76, .mv (.t 75), none⟩], none⟩,
    ⟨some (76, true), [⟨some 77, .faddr (.t 4) 2 none, none⟩,
      ⟨some 78, .load none (.t 77), none⟩,
      ⟨some 79, .len (.t 78), none⟩,
      ⟨some 80, .bin .gtr (.t 79) (.c (.int .i64 0)), none⟩,
      ⟨some 81, .mv (.t 80), none⟩], none⟩,
    ⟨some (81, false), [⟨some 82, .faddr (.t 3) 2 none, none⟩,
      ⟨some 83, .load none (.t 82), none⟩,
      ⟨some 84, .faddr (.t 5) 2 none, none⟩,
      ⟨some 85, .load none (.t 84), none⟩,
      ⟨some 86, .bin .eql (.t 83) (.t 85), none⟩], none⟩,
    ⟨some (76, true), [⟨some 87, .pick (.t 81) (.c (.bool true)) (.t 86), none⟩], some (88, 87)⟩,
    ⟨none, [⟨some 6, .mv (.t 88), none⟩], none⟩]) (.ret)) (.skip))))
def c71_e2_go {Q e n H} := @awgoC Tryz.prog _ _ c71_e2.eq_1 Q e n H
def c71_e3 : ACode := .kp [3, 4, 5, 54] (.seq (.reg [⟨some 63, .bin .eql (.t 54) (.c (.int .i64 3)), none⟩,
    ⟨some 62, .mv (.t 63), none⟩]) (.kp [3, 4, 5, 54, 62] (.cond (.t 62) (.seq (.reg [⟨some 64, .faddr (.t 3) 3 none, none⟩,
    ⟨some 65, .load none (.t 64), none⟩,
    ⟨some 66, .faddr (.t 5) 3 none, none⟩,
    ⟨some 67, .load none (.t 66), none⟩,
    ⟨some 68, .bin .eql (.t 65) (.t 67), none⟩,
    ⟨some 6, .mv (.t 68), none⟩]) (.ret)) (c71_e2))))
def c71_e3_go {Q e n H} := @awgoC Tryz.prog _ _ c71_e3.eq_1 Q e n H
def c71_k4 : ACode := .kp [3, 4, 5] (.seq (.seq (.reg [⟨some 53, .faddr (.t 4) 0 none, none⟩,
    ⟨some 54, .load none (.t 53), none⟩]) (.kp [3, 4, 5, 54] (.block 0 (.seq (.reg [⟨some 56, .bin .eql (.t 54) (.c (.int .i64 2)), none⟩,
    ⟨some 55, .mv (.t 56), none⟩]) (.kp [3, 4, 5, 54, 55] (.cond (.t 55) (.seq (.reg [⟨some 57, .faddr (.t 3) 5 none, none⟩,
    ⟨some 58, .load none (.t 57), none⟩,
    ⟨some 59, .faddr (.t 5) 5 none, none⟩,
    ⟨some 60, .load none (.t 59), none⟩,
    ⟨some 61, .bin .eql (.t 58) (.t 60), none⟩,
    ⟨some 6, .mv (.t 61), none⟩]) (.ret)) (c71_e3))))))) (c71_k1))
def c71_k4_go {Q e n H} := @awgoC Tryz.prog _ _ c71_k4.eq_1 Q e n H
def c71_k5 : ACode := .kp [3, 4, 5] (.seq (.seq (.reg [⟨some 49, .faddr (.t 4) 3 none, none⟩,
    ⟨some 50, .load none (.t 49), none⟩,
    ⟨some 51, .len (.t 50), none⟩,
    ⟨some 52, .bin .gtr (.t 51) (.c (.int .i64 0)), none⟩]) (.kp [3, 4, 5, 52] (.cond (.t 52) (.seq (.reg [⟨some 6, .mv (.c (.bool true)), none⟩]) (.ret)) (.skip)))) (c71_k4))
def c71_k5_go {Q e n H} := @awgoC Tryz.prog _ _ c71_k5.eq_1 Q e n H
def c71_k6 : ACode := .kp [3, 4, 5] (.seq (.seq (.reg [⟨some 40, .faddr (.t 4) 4 none, none⟩,
    ⟨some 41, .load none (.t 40), none⟩,
    ⟨some 42, .len (.t 41), none⟩,
    ⟨some 43, .bin .gtr (.t 42) (.c (.int .i64 0)), none⟩]) (.kp [3, 4, 5, 43] (.cond (.t 43) (.seq (.reg [⟨some 44, .faddr (.t 4) 4 none, none⟩,
    ⟨some 45, .load none (.t 44), none⟩,
    ⟨some 46, .load (some 6) (.t 3), none⟩,
    ⟨some 47, .mkfn 102 [(.t 46)] [], none⟩,
    ⟨some 48, .callp 101 [(.t 45), (.t 47)], none⟩,
    ⟨some 6, .mv (.t 48), none⟩]) (.ret)) (.skip)))) (c71_k5))
def c71_k6_go {Q e n H} := @awgoC Tryz.prog _ _ c71_k6.eq_1 Q e n H
def c71_k7 : ACode := .kp [3, 4, 5] (.seq (.seq (.segs [⟨none, [⟨some 19, .faddr (.t 4) 3 none, none⟩,
      ⟨some 20, .load none (.t 19), none⟩,
      ⟨some 21, .len (.t 20), none⟩,
      ⟨some 22, .bin .gtr (.t 21) (.c (.int .i64 0)), none⟩,
      ⟨some 23, .mv (.t 22), none⟩], none⟩,
    ⟨some (23, true), [⟨some 24, .faddr (.t 4) 3 none, none⟩,
      ⟨some 25, .load none (.t 24), none⟩,
      ⟨some 26, .faddr (.t 3) 3 none, none⟩,
      ⟨some 27, .load none (.t 26), none⟩,
      ⟨some 28, .callp 72 [(.t 25), (.t 27)], none⟩,
      ⟨some 29, .not (.t 28), none⟩], none⟩,
    ⟨none, [⟨some 30, .pick (.t 23) (.t 29) (.c (.bool false)), none⟩,
      ⟨some 31, .mv (.t 30), none⟩], none⟩,
    ⟨some (31, true), [⟨some 32, .faddr (.t 4) 3 none, none⟩,
      ⟨some 33, .load none (.t 32), none⟩,
      ⟨some 34, .faddr (.t 3) 4 none, none⟩,
      ⟨some 35, .load none (.t 34), none⟩,
      ⟨some 36, .neg (.t 35), none⟩,
      ⟨some 37, .callp 72 [(.t 33), (.t 36)], none⟩,
      ⟨some 38, .not (.t 37), none⟩], none⟩,
    ⟨none, [⟨some 39, .pick (.t 31) (.t 38) (.c (.bool false)), none⟩], none⟩]) (.kp [3, 4, 5, 39] (.cond (.t 39) (.seq (.reg [⟨some 6, .mv (.c (.bool false)), none⟩]) (.ret)) (.skip)))) (c71_k6))
def c71_k7_go {Q e n H} := @awgoC Tryz.prog _ _ c71_k7.eq_1 Q e n H
def c71 : AFun := { nargs := 3, nt := 89, res := [.tmp 6], code := .seq (.reg [⟨some 3, .box 85 (some 6) (.t 0), none⟩,
    ⟨some 4, .box 25 (some 8) (.t 1), none⟩,
    ⟨some 5, .box 85 (some 6) (.t 2), none⟩,
    ⟨some 6, .mv (.c (.bool false)), none⟩]) (.kp [3, 4, 5] (.seq (.seq (.segs [⟨none, [⟨some 7, .faddr (.t 4) 2 none, none⟩,
      ⟨some 8, .load none (.t 7), none⟩,
      ⟨some 9, .len (.t 8), none⟩,
      ⟨some 10, .bin .gtr (.t 9) (.c (.int .i64 0)), none⟩,
      ⟨some 11, .mv (.t 10), none⟩], none⟩,
    ⟨some (11, true), [⟨some 12, .faddr (.t 4) 2 none, none⟩,
      ⟨some 13, .load none (.t 12), none⟩,
      ⟨some 14, .faddr (.t 3) 2 none, none⟩,
      ⟨some 15, .load none (.t 14), none⟩,
      ⟨some 16, .callp 72 [(.t 13), (.t 15)], none⟩,
      ⟨some 17, .not (.t 16), none⟩], none⟩,
    ⟨none, [⟨some 18, .pick (.t 11) (.t 17) (.c (.bool false)), none⟩], none⟩]) (.kp [3, 4, 5, 18] (.cond (.t 18) (.seq (.reg [⟨some 6, .mv (.c (.bool false)), none⟩]) (.ret)) (.skip)))) (c71_k7))) }
theorem cmp71 : (cFun Tryz.prog efs Tryz.f71).map (fun x => (x.nargs, x.nt, x.res, x.code)) = some (c71.nargs, c71.nt, c71.res, bare c71.code) := by kernel_rfl
def c99 : AFun := { nargs := 1, nt := 15, res := [.cell 2 (some 6)], code := .seq (.reg [⟨some 2, .alloc 99 [(.int .i64 0), (.int .i64 0), (.int .i64 0), (.int .i64 0), (.int .i64 0), (.int .i64 0)], none⟩]) (.kp [0, 2] (.seq (.reg [⟨some 6, .mv (.t 0), none⟩,
    ⟨some 7, .bin .sub (.t 6) (.c (.int .i64 1)), none⟩,
    ⟨some 8, .bin .mul (.t 7) (.c (.int .i64 24)), none⟩,
    ⟨some 9, .bin .mul (.t 8) (.c (.int .i64 60)), none⟩,
    ⟨some 10, .bin .mul (.t 9) (.c (.int .i64 60)), none⟩,
    ⟨some 11, .callp 116 [(.t 10)], none⟩,
    ⟨some 5, .mv (.t 11), none⟩,
    ⟨some 12, .extr (.t 5) 0, none⟩,
    ⟨some 13, .extr (.t 5) 1, none⟩,
    ⟨some 3, .alloc 99 [(.int .i64 0), (.int .i64 0), (.int .i64 0), (.int .i64 0), (.int .i64 0), (.int .i64 0)], none⟩,
    ⟨some 4, .alloc 27 [(.int .i64 0), (.int .i64 0)], none⟩,
    ⟨none, .store (some 6) (.t 3) (.t 12), none⟩,
    ⟨none, .store (some 2) (.t 4) (.t 13), none⟩]) (.kp [2, 3] (.seq (.reg [⟨some 14, .load (some 6) (.t 3), none⟩,
    ⟨none, .store (some 6) (.t 2) (.t 14), none⟩]) (.ret))))) }
theorem cmp99 : (cFun Tryz.prog efs Tryz.f99).map (fun x => (x.nargs, x.nt, x.res, x.code)) = some (c99.nargs, c99.nt, c99.res, bare c99.code) := by kernel_rfl
def c101 : AFun := { nargs := 2, nt := 9, res := [.tmp 4], code := .seq (.reg [⟨some 4, .mv (.c (.bool false)), none⟩]) (.kp [0, 1] (.seq (.reg [⟨some 5, .mv (.t 0), none⟩,
    ⟨some 6, .mv (.t 1), none⟩,
    ⟨some 7, .callp 119 [(.t 5), (.t 6)], none⟩,
    ⟨some 8, .bin .geq (.t 7) (.c (.int .i64 0)), none⟩,
    ⟨some 4, .mv (.t 8), none⟩]) (.ret))) }
theorem cmp101 : (cFun Tryz.prog efs Tryz.f101).map (fun x => (x.nargs, x.nt, x.res, x.code)) = some (c101.nargs, c101.nt, c101.res, bare c101.code) := by kernel_rfl
def c102_k1 : ACode := .kp [] (.seq (.reg [⟨some 4, .mv (.c (.bool true)), none⟩]) (.ret))
def c102_k1_go {Q e n H} := @awgoC Tryz.prog _ _ c102_k1.eq_1 Q e n H
def c102_e2 : ACode := .kp [2, 3] (.seq (.reg [⟨some 24, .faddr (.t 3) 1 none, none⟩,
    ⟨some 25, .load none (.t 24), none⟩,
    ⟨some 26, .bin .lss (.t 25) (.c (.int .i64 0)), none⟩,
    ⟨some 23, .mv (.t 26), none⟩]) (.kp [2, 3, 23] (.cond (.t 23) (.seq (.reg [⟨some 27, .faddr (.t 2) 4 none, none⟩,
    ⟨some 28, .load none (.t 27), none⟩,
    ⟨some 29, .bin .sub (.t 28) (.c (.int .i64 1)), none⟩,
    ⟨some 30, .bin .quo (.t 29) (.c (.int .i64 7)), none⟩,
    ⟨some 31, .bin .add (.t 30) (.c (.int .i64 1)), none⟩,
    ⟨some 32, .faddr (.t 3) 1 none, none⟩,
    ⟨some 33, .load none (.t 32), none⟩,
    ⟨some 34, .neg (.t 33), none⟩,
    ⟨some 35, .bin .eql (.t 31) (.t 34), none⟩,
    ⟨some 4, .mv (.t 35), none⟩]) (.ret)) (.skip))))
def c102_e2_go {Q e n H} := @awgoC Tryz.prog _ _ c102_e2.eq_1 Q e n H
def c102_e3 : ACode := .kp [2, 3] (.seq (.reg [⟨some 12, .faddr (.t 3) 1 none, none⟩,
    ⟨some 13, .load none (.t 12), none⟩,
    ⟨some 14, .bin .gtr (.t 13) (.c (.int .i64 0)), none⟩,
    ⟨some 11, .mv (.t 14), none⟩]) (.kp [2, 3, 11] (.cond (.t 11) (.seq (.reg [⟨some 15, .faddr (.t 2) 3 none, none⟩,
    ⟨some 16, .load none (.t 15), none⟩,
    ⟨some 17, .bin .sub (.t 16) (.c (.int .i64 1)), none⟩,
    ⟨some 18, .bin .quo (.t 17) (.c (.int .i64 7)), none⟩,
    ⟨some 19, .bin .add (.t 18) (.c (.int .i64 1)), none⟩,
    ⟨some 20, .faddr (.t 3) 1 none, none⟩,
    ⟨some 21, .load none (.t 20), none⟩,
    ⟨some 22, .bin .eql (.t 19) (.t 21), none⟩,
    ⟨some 4, .mv (.t 22), none⟩]) (.ret)) (c102_e2))))
def c102_e3_go {Q e n H} := @awgoC Tryz.prog _ _ c102_e3.eq_1 Q e n H
def c102 : AFun := { nargs := 2, nt := 36, res := [.tmp 4], code := .seq (.reg [⟨some 2, .box 85 (some 6) (.t 0), none⟩,
    ⟨some 3, .box 56 (some 2) (.t 1), none⟩,
    ⟨some 4, .mv (.c (.bool false)), none⟩]) (.kp [2, 3] (.seq (.block 0 (.seq (.reg [⟨some 6, .faddr (.t 2) 5 none, none⟩,
    ⟨some 7, .load none (.t 6), none⟩,
    ⟨some 8, .faddr (.t 3) 0 none, none⟩,
    ⟨some 9, .load none (.t 8), none⟩,
    ⟨some 10, .bin .neq (.t 7) (.t 9), none⟩,
    ⟨some 5, .mv (.t 10), none⟩]) (.kp [2, 3, 5] (.cond (.t 5) (.seq (.reg [⟨some 4, .mv (.c (.bool false)), none⟩]) (.ret)) (c102_e3))))) (c102_k1))) }
theorem cmp102 : (cFun Tryz.prog efs Tryz.f102).map (fun x => (x.nargs, x.nt, x.res, x.code)) = some (c102.nargs, c102.nt, c102.res, bare c102.code) := by kernel_rfl
def c119_k1 : ACode := .kp [] (.seq (.reg [⟨some 4, .mv (.c (.int .i64 (-1))), none⟩]) (.ret))
def c119_k1_go {Q e n H} := @awgoC Tryz.prog _ _ c119_k1.eq_1 Q e n H
def c119_k2 : ACode := .kp [0, 1, 7, 8] (.reg [⟨some 18, .bin .add (.t 8) (.c (.int .i64 1)), none⟩,
    ⟨some 8, .mv (.t 18), none⟩])
def c119_k2_go {Q e n H} := @awgoC Tryz.prog _ _ c119_k2.eq_1 Q e n H
def c119_k3 : ACode := .kp [0, 1, 7, 8] (.seq (.block 1 (.seq (.reg [⟨some 10, .mv (.t 8), none⟩,
    ⟨some 5, .mv (.t 10), none⟩]) (.kp [0, 1, 5, 7, 8] (.seq (.reg [⟨some 11, .mv (.t 1), none⟩,
    ⟨some 12, .mv (.t 0), none⟩,
    ⟨some 13, .mv (.t 5), none⟩,
    ⟨some 14, .iaddr 2 (some 2) (.t 12) (.t 13), none⟩,
    ⟨some 15, .load (some 2) (.t 14), none⟩,
    ⟨some 16, .callv (.t 11) [(.t 15)], none⟩]) (.kp [0, 1, 5, 7, 8, 16] (.cond (.t 16) (.seq (.reg [⟨some 17, .mv (.t 5), none⟩,
    ⟨some 4, .mv (.t 17), none⟩]) (.ret)) (.skip))))))) (c119_k2))
def c119_k3_go {Q e n H} := @awgoC Tryz.prog _ _ c119_k3.eq_1 Q e n H
def c119_L4 : ACode := .ke [0, 1, 7, 8] (.seq (.reg [⟨some 9, .bin .lss (.t 8) (.t 7), none⟩]) (.kp [0, 1, 7, 8, 9] (.seq (.cond (.t 9) (.skip) (.exit 0)) (c119_k3))))
def c119_L4_go {Q e n H} := @awgoC Tryz.prog _ _ c119_L4.eq_1 Q e n H
def c119 : AFun := { nargs := 2, nt := 19, res := [.tmp 4], code := .seq (.reg [⟨some 4, .mv (.c (.int .i64 0)), none⟩]) (.kp [0, 1] (.seq (.seq (.reg [⟨some 6, .mv (.t 0), none⟩,
    ⟨some 7, .len (.t 6), none⟩,
    ⟨some 8, .mv (.c (.int .i64 0)), none⟩]) (.kp [0, 1, 7, 8] (.block 0 (.kp [0, 1, 7, 8] (.loop c119_L4))))) (c119_k1))) }
theorem cmp119 : (cFun Tryz.prog efs Tryz.f119).map (fun x => (x.nargs, x.nt, x.res, x.code)) = some (c119.nargs, c119.nt, c119.res, bare c119.code) := by kernel_rfl
end Go.Proofs.YtecpfmhminkalaaGreatDoor
