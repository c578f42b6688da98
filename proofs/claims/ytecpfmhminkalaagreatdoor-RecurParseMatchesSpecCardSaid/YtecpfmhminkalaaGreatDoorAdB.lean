/- The code of some functions on plain data, by program, and that it is what the program's text gives; no condition. -/
import Derived.Test.YtecpfmhminkalaaGreatDoorAdA
import Derived.Test.YtecpfmhminkalaaGreatDoorProg
import Derived.KernelRfl
set_option linter.all false
set_option linter.unusedSimpArgs false
set_option linter.unusedVariables false
namespace Go.Proofs.YtecpfmhminkalaaGreatDoor
theorem awgoB {P : Program} {c d : ACode} (h : c = d) {Q : AExit → AS → Prop} {e : AEnv} {n : Nat} {H : AHeap} : aw P c Q ⟨e, n, H⟩ = aw P d Q ⟨e, n, H⟩ := by rw [h]
def c17_k1 : ACode := .kp [3, 5] (.seq (.reg [⟨some 80, .mv (.t 5), none⟩,
    ⟨some 81, .nilck (.t 80), none⟩,
    ⟨some 82, .faddr (.t 81) 0 none, none⟩,
    ⟨some 83, .load none (.t 82), none⟩,
    ⟨some 84, .callp 54 [(.t 83), (.c (.str [32]))], none⟩,
    ⟨some 85, .build [(.int .i64 0), (.int .i64 0)] [], none⟩,
    ⟨some 2, .mv (.t 84), none⟩,
    ⟨none, .store (some 2) (.t 3) (.t 85), none⟩]) (.ret))
def c17_k1_go {Q e n H} := @awgoB Tryz.prog _ _ c17_k1.eq_1 Q e n H
def c17_k2 : ACode := .kp [3, 5, 56, 57, 58] (.reg [⟨some 79, .bin .add (.t 58) (.c (.int .i64 1)), none⟩,
    ⟨some 58, .mv (.t 79), none⟩])
def c17_k2_go {Q e n H} := @awgoB Tryz.prog _ _ c17_k2.eq_1 Q e n H
def c17_k3 : ACode := .kp [3, 5, 56, 57, 58] (.seq (.block 1 (.seq (.reg [⟨some 60, .iaddr 2 (some 2) (.t 56) (.t 58), none⟩,
    ⟨some 61, .load (some 2) (.t 60), none⟩,
    ⟨some 7, .alloc 70 [(.str []), (.int .i64 0)], none⟩,
    ⟨none, .store (some 2) (.t 7) (.t 61), none⟩]) (.kp [3, 5, 7, 56, 57, 58] (.seq (.reg [⟨some 62, .faddr (.t 7) 1 none, none⟩,
    ⟨some 63, .load none (.t 62), none⟩,
    ⟨some 64, .bin .neq (.t 63) (.c (.int .i64 0)), none⟩]) (.kp [3, 5, 7, 56, 57, 58, 64] (.cond (.t 64) (.regD [] [⟨some 65, .mv (.t 5), none⟩,
    ⟨some 66, .mv (.t 5), none⟩,
    ⟨some 67, .nilck (.t 66), none⟩,
    ⟨some 68, .faddr (.t 67) 0 none, none⟩,
    ⟨some 69, .load none (.t 68), none⟩,
    ⟨some 70, .faddr (.t 7) 0 none, none⟩,
    ⟨some 71, .load none (.t 70), none⟩,
    ⟨some 72, .faddr (.t 7) 1 none, none⟩,
    ⟨some 73, .load none (.t 72), none⟩,
    ⟨some 74, .callp 46 [(.t 73)], none⟩,
    ⟨some 75, .bsl 9 none [(.t 71), (.t 74)], none⟩,
    ⟨some 76, .app 9 1 16 (.t 69) (.t 75), none⟩,
    ⟨some 77, .nilck (.t 65), none⟩,
    ⟨some 78, .faddr (.t 77) 0 none, none⟩,
    ⟨none, .store none (.t 78) (.t 76), none⟩]) (.skip))))))) (c17_k2))
def c17_k3_go {Q e n H} := @awgoB Tryz.prog _ _ c17_k3.eq_1 Q e n H
def c17_L4 : ACode := .ke [3, 5, 56, 57, 58] (.seq (.reg [⟨some 59, .bin .lss (.t 58) (.t 57), none⟩]) (.kp [3, 5, 56, 57, 58, 59] (.seq (.cond (.t 59) (.skip) (.exit 0)) (c17_k3))))
def c17_L4_go {Q e n H} := @awgoB Tryz.prog _ _ c17_L4.eq_1 Q e n H
def c17_k5 : ACode := .kp [1, 3] (.seq (.reg [⟨some 14, .faddr (.t 1) 1 none, none⟩,
    ⟨some 15, .load none (.t 14), none⟩,
    ⟨some 16, .callp 46 [(.t 15)], none⟩,
    ⟨some 17, .callp 47 [], none⟩,
    ⟨some 18, .faddr (.t 1) 0 none, none⟩,
    ⟨some 19, .load none (.t 18), none⟩,
    ⟨some 20, .bin .sub (.t 19) (.c (.int .i64 1)), none⟩,
    ⟨some 21, .iaddr 1 none (.t 17) (.t 20), none⟩,
    ⟨some 22, .load none (.t 21), none⟩,
    ⟨some 23, .bsl 9 none [(.c (.str [101, 118, 101, 114, 121])), (.t 16), (.t 22)], none⟩,
    ⟨some 24, .build [(.sl 0 [] .nil)] [(0, none, (.t 23))], none⟩,
    ⟨some 25, .box 68 (some 1) (.t 24), none⟩,
    ⟨some 5, .mv (.t 25), none⟩]) (.kp [1, 3, 5] (.seq (.reg [⟨some 26, .mv (.t 5), none⟩,
    ⟨some 27, .faddr (.t 1) 2 none, none⟩,
    ⟨some 28, .load none (.t 27), none⟩,
    ⟨some 29, .len (.t 28), none⟩,
    ⟨some 30, .mkfn 49 [] [(.t 1)], none⟩,
    ⟨some 31, .call 48 [(.t 26), (.c (.str [109, 111, 110, 116, 104, 115])), (.t 29), (.t 30)], none⟩]) (.kp [1, 3, 5] (.seq (.reg [⟨some 32, .mv (.t 5), none⟩,
    ⟨some 33, .faddr (.t 1) 3 none, none⟩,
    ⟨some 34, .load none (.t 33), none⟩,
    ⟨some 35, .len (.t 34), none⟩,
    ⟨some 36, .mkfn 50 [] [(.t 1)], none⟩,
    ⟨some 37, .call 48 [(.t 32), (.c (.str [100, 97, 121, 115])), (.t 35), (.t 36)], none⟩]) (.kp [1, 3, 5] (.seq (.reg [⟨some 38, .mv (.t 5), none⟩,
    ⟨some 39, .faddr (.t 1) 4 none, none⟩,
    ⟨some 40, .load none (.t 39), none⟩,
    ⟨some 41, .len (.t 40), none⟩,
    ⟨some 42, .mkfn 51 [] [(.t 1)], none⟩,
    ⟨some 43, .call 48 [(.t 38), (.c (.str [111, 110])), (.t 41), (.t 42)], none⟩]) (.kp [1, 3, 5] (.seq (.reg [⟨some 44, .mv (.t 5), none⟩,
    ⟨some 45, .faddr (.t 1) 5 none, none⟩,
    ⟨some 46, .load none (.t 45), none⟩,
    ⟨some 47, .len (.t 46), none⟩,
    ⟨some 48, .mkfn 53 [] [(.t 1)], none⟩,
    ⟨some 49, .call 48 [(.t 44), (.c (.str [112, 105, 99, 107, 115])), (.t 47), (.t 48)], none⟩]) (.kp [1, 3, 5] (.seq (.seq (.reg [⟨some 50, .faddr (.t 1) 6 none, none⟩,
    ⟨some 51, .load none (.t 50), none⟩,
    ⟨some 52, .build [(.str []), (.int .i64 0)] [(0, none, (.c (.str [99, 111, 117, 110, 116]))), (1, none, (.t 51))], none⟩,
    ⟨some 53, .faddr (.t 1) 7 none, none⟩,
    ⟨some 54, .load none (.t 53), none⟩,
    ⟨some 55, .build [(.str []), (.int .i64 0)] [(0, none, (.c (.str [117, 110, 116, 105, 108]))), (1, none, (.t 54))], none⟩,
    ⟨some 56, .bsl 70 (some 2) [(.t 52), (.t 55)], none⟩,
    ⟨some 57, .len (.t 56), none⟩,
    ⟨some 58, .mv (.c (.int .i64 0)), none⟩]) (.kp [3, 5, 56, 57, 58] (.block 0 (.kp [3, 5, 56, 57, 58] (.loop c17_L4))))) (c17_k1))))))))))))
def c17_k5_go {Q e n H} := @awgoB Tryz.prog _ _ c17_k5.eq_1 Q e n H
def c17 : AFun := { nargs := 1, nt := 86, res := [.tmp 2, .cell 3 (some 2)], code := .seq (.reg [⟨some 1, .box 25 (some 8) (.t 0), none⟩,
    ⟨some 2, .mv (.c (.str [])), none⟩,
    ⟨some 3, .alloc 27 [(.int .i64 0), (.int .i64 0)], none⟩]) (.kp [1, 3] (.seq (.seq (.reg [⟨some 8, .load (some 8) (.t 1), none⟩,
    ⟨some 9, .callp 8 [(.t 8)], none⟩,
    ⟨some 4, .alloc 27 [(.int .i64 0), (.int .i64 0)], none⟩,
    ⟨none, .store (some 2) (.t 4) (.t 9), none⟩]) (.kp [1, 3, 4] (.seq (.reg [⟨some 10, .faddr (.t 4) 0 none, none⟩,
    ⟨some 11, .load none (.t 10), none⟩,
    ⟨some 12, .bin .neq (.t 11) (.c (.int .i64 0)), none⟩]) (.kp [1, 3, 4, 12] (.cond (.t 12) (.seq (.reg [⟨some 13, .load (some 2) (.t 4), none⟩,
    ⟨some 2, .mv (.c (.str [])), none⟩,
    ⟨none, .store (some 2) (.t 3) (.t 13), none⟩]) (.ret)) (.skip)))))) (c17_k5))) }
theorem cmp17 : (cFun Tryz.prog efs Tryz.f17).map (fun x => (x.nargs, x.nt, x.res, x.code)) = some (c17.nargs, c17.nt, c17.res, bare c17.code) := by kernel_rfl
def c47 : AFun := { nargs := 0, nt := 2, res := [.tmp 0], code := .seq (.reg [⟨some 0, .mv (.c (.sl 0 [] .nil)), none⟩]) (.kp [] (.seq (.reg [⟨some 1, .callp 80 [(.c (.str [100, 97, 121, 32, 119, 101, 101, 107, 32, 109, 111, 110, 116, 104, 32, 121, 101, 97, 114]))], none⟩,
    ⟨some 0, .mv (.t 1), none⟩]) (.ret))) }
theorem cmp47 : (cFun Tryz.prog efs Tryz.f47).map (fun x => (x.nargs, x.nt, x.res, x.code)) = some (c47.nargs, c47.nt, c47.res, bare c47.code) := by kernel_rfl
def c48_k1 : ACode := .kp [0, 1, 8] (.regD [] [⟨some 23, .mv (.t 0), none⟩,
    ⟨some 24, .mv (.t 0), none⟩,
    ⟨some 25, .nilck (.t 24), none⟩,
    ⟨some 26, .faddr (.t 25) 0 none, none⟩,
    ⟨some 27, .load none (.t 26), none⟩,
    ⟨some 28, .mv (.t 1), none⟩,
    ⟨some 29, .mv (.t 8), none⟩,
    ⟨some 30, .callp 54 [(.t 29), (.c (.str [44]))], none⟩,
    ⟨some 31, .bsl 9 none [(.t 28), (.t 30)], none⟩,
    ⟨some 32, .app 9 1 16 (.t 27) (.t 31), none⟩,
    ⟨some 33, .nilck (.t 23), none⟩,
    ⟨some 34, .faddr (.t 33) 0 none, none⟩,
    ⟨none, .store none (.t 34) (.t 32), none⟩])
def c48_k1_go {Q e n H} := @awgoB Tryz.prog _ _ c48_k1.eq_1 Q e n H
def c48_k2 : ACode := .kp [0, 1, 3, 8, 12, 13] (.reg [⟨some 22, .bin .add (.t 13) (.c (.int .i64 1)), none⟩,
    ⟨some 13, .mv (.t 22), none⟩])
def c48_k2_go {Q e n H} := @awgoB Tryz.prog _ _ c48_k2.eq_1 Q e n H
def c48_k3 : ACode := .kp [0, 1, 3, 8, 12, 13] (.seq (.block 1 (.seq (.reg [⟨some 15, .mv (.t 13), none⟩,
    ⟨some 9, .mv (.t 15), none⟩]) (.kp [0, 1, 3, 8, 9, 12, 13] (.reg [⟨some 16, .mv (.t 8), none⟩,
    ⟨some 17, .mv (.t 3), none⟩,
    ⟨some 18, .mv (.t 9), none⟩,
    ⟨some 19, .callv (.t 17) [(.t 18)], none⟩,
    ⟨some 20, .bsl 9 none [(.t 19)], none⟩,
    ⟨some 21, .app 9 1 16 (.t 16) (.t 20), none⟩,
    ⟨some 8, .mv (.t 21), none⟩])))) (c48_k2))
def c48_k3_go {Q e n H} := @awgoB Tryz.prog _ _ c48_k3.eq_1 Q e n H
def c48_L4 : ACode := .ke [0, 1, 3, 8, 12, 13] (.seq (.reg [⟨some 14, .bin .lss (.t 13) (.t 12), none⟩]) (.kp [0, 1, 3, 8, 12, 13, 14] (.seq (.cond (.t 14) (.skip) (.exit 0)) (c48_k3))))
def c48_L4_go {Q e n H} := @awgoB Tryz.prog _ _ c48_L4.eq_1 Q e n H
def c48_k5 : ACode := .kp [0, 1, 2, 3] (.seq (.reg [⟨some 8, .mv (.c (.sl 0 [] .nil)), none⟩]) (.kp [0, 1, 2, 3, 8] (.seq (.seq (.reg [⟨some 12, .mv (.t 2), none⟩,
    ⟨some 13, .mv (.c (.int .i64 0)), none⟩]) (.kp [0, 1, 3, 8, 12, 13] (.block 0 (.kp [0, 1, 3, 8, 12, 13] (.loop c48_L4))))) (c48_k1))))
def c48_k5_go {Q e n H} := @awgoB Tryz.prog _ _ c48_k5.eq_1 Q e n H
def c48 : AFun := { nargs := 4, nt := 35, res := [], code := .seq (.seq (.reg [⟨some 10, .mv (.t 2), none⟩,
    ⟨some 11, .bin .eql (.t 10) (.c (.int .i64 0)), none⟩]) (.kp [0, 1, 2, 3, 11] (.cond (.t 11) (.ret) (.skip)))) (c48_k5) }
theorem cmp48 : (cFun Tryz.prog efs Tryz.f48).map (fun x => (x.nargs, x.nt, x.res, x.code)) = some (c48.nargs, c48.nt, c48.res, bare c48.code) := by kernel_rfl
def c49 : AFun := { nargs := 2, nt := 10, res := [.tmp 3], code := .seq (.reg [⟨some 3, .mv (.c (.str [])), none⟩]) (.kp [0, 1] (.seq (.reg [⟨some 4, .faddr (.t 1) 2 none, none⟩,
    ⟨some 5, .load none (.t 4), none⟩,
    ⟨some 6, .mv (.t 0), none⟩,
    ⟨some 7, .iaddr 1 none (.t 5) (.t 6), none⟩,
    ⟨some 8, .load none (.t 7), none⟩,
    ⟨some 9, .callp 46 [(.t 8)], none⟩,
    ⟨some 3, .mv (.t 9), none⟩]) (.ret))) }
theorem cmp49 : (cFun Tryz.prog efs Tryz.f49).map (fun x => (x.nargs, x.nt, x.res, x.code)) = some (c49.nargs, c49.nt, c49.res, bare c49.code) := by kernel_rfl
def c50 : AFun := { nargs := 2, nt := 10, res := [.tmp 3], code := .seq (.reg [⟨some 3, .mv (.c (.str [])), none⟩]) (.kp [0, 1] (.seq (.reg [⟨some 4, .faddr (.t 1) 3 none, none⟩,
    ⟨some 5, .load none (.t 4), none⟩,
    ⟨some 6, .mv (.t 0), none⟩,
    ⟨some 7, .iaddr 1 none (.t 5) (.t 6), none⟩,
    ⟨some 8, .load none (.t 7), none⟩,
    ⟨some 9, .callp 46 [(.t 8)], none⟩,
    ⟨some 3, .mv (.t 9), none⟩]) (.ret))) }
theorem cmp50 : (cFun Tryz.prog efs Tryz.f50).map (fun x => (x.nargs, x.nt, x.res, x.code)) = some (c50.nargs, c50.nt, c50.res, bare c50.code) := by kernel_rfl
def c51_k1 : ACode := .kp [4] (.seq (.reg [⟨some 18, .callp 52 [], none⟩,
    ⟨some 19, .faddr (.t 4) 0 none, none⟩,
    ⟨some 20, .load none (.t 19), none⟩,
    ⟨some 21, .iaddr 1 none (.t 18) (.t 20), none⟩,
    ⟨some 22, .load none (.t 21), none⟩,
    ⟨some 23, .bin .add (.t 22) (.c (.str [35])), none⟩,
    ⟨some 24, .faddr (.t 4) 1 none, none⟩,
    ⟨some 25, .load none (.t 24), none⟩,
    ⟨some 26, .callp 46 [(.t 25)], none⟩,
    ⟨some 27, .bin .add (.t 23) (.t 26), none⟩,
    ⟨some 3, .mv (.t 27), none⟩]) (.ret))
def c51_k1_go {Q e n H} := @awgoB Tryz.prog _ _ c51_k1.eq_1 Q e n H
def c51 : AFun := { nargs := 2, nt := 28, res := [.tmp 3], code := .seq (.reg [⟨some 3, .mv (.c (.str [])), none⟩]) (.kp [0, 1] (.seq (.reg [⟨some 5, .faddr (.t 1) 4 none, none⟩,
    ⟨some 6, .load none (.t 5), none⟩,
    ⟨some 7, .mv (.t 0), none⟩,
    ⟨some 8, .iaddr 2 (some 2) (.t 6) (.t 7), none⟩,
    ⟨some 9, .load (some 2) (.t 8), none⟩,
    ⟨some 4, .alloc 56 [(.int .i64 0), (.int .i64 0)], none⟩,
    ⟨none, .store (some 2) (.t 4) (.t 9), none⟩]) (.kp [4] (.seq (.seq (.reg [⟨some 10, .faddr (.t 4) 1 none, none⟩,
    ⟨some 11, .load none (.t 10), none⟩,
    ⟨some 12, .bin .eql (.t 11) (.c (.int .i64 0)), none⟩]) (.kp [4, 12] (.cond (.t 12) (.seq (.reg [⟨some 13, .callp 52 [], none⟩,
    ⟨some 14, .faddr (.t 4) 0 none, none⟩,
    ⟨some 15, .load none (.t 14), none⟩,
    ⟨some 16, .iaddr 1 none (.t 13) (.t 15), none⟩,
    ⟨some 17, .load none (.t 16), none⟩,
    ⟨some 3, .mv (.t 17), none⟩]) (.ret)) (.skip)))) (c51_k1))))) }
theorem cmp51 : (cFun Tryz.prog efs Tryz.f51).map (fun x => (x.nargs, x.nt, x.res, x.code)) = some (c51.nargs, c51.nt, c51.res, bare c51.code) := by kernel_rfl
def c52 : AFun := { nargs := 0, nt := 2, res := [.tmp 0], code := .seq (.reg [⟨some 0, .mv (.c (.sl 0 [] .nil)), none⟩]) (.kp [] (.seq (.reg [⟨some 1, .callp 80 [(.c (.str [109, 111, 110, 32, 116, 117, 101, 32, 119, 101, 100, 32, 116, 104, 117, 32, 102, 114, 105, 32, 115, 97, 116, 32, 115, 117, 110]))], none⟩,
    ⟨some 0, .mv (.t 1), none⟩]) (.ret))) }
theorem cmp52 : (cFun Tryz.prog efs Tryz.f52).map (fun x => (x.nargs, x.nt, x.res, x.code)) = some (c52.nargs, c52.nt, c52.res, bare c52.code) := by kernel_rfl
def c53 : AFun := { nargs := 2, nt := 10, res := [.tmp 3], code := .seq (.reg [⟨some 3, .mv (.c (.str [])), none⟩]) (.kp [0, 1] (.seq (.reg [⟨some 4, .faddr (.t 1) 5 none, none⟩,
    ⟨some 5, .load none (.t 4), none⟩,
    ⟨some 6, .mv (.t 0), none⟩,
    ⟨some 7, .iaddr 1 none (.t 5) (.t 6), none⟩,
    ⟨some 8, .load none (.t 7), none⟩,
    ⟨some 9, .callp 46 [(.t 8)], none⟩,
    ⟨some 3, .mv (.t 9), none⟩]) (.ret))) }
theorem cmp53 : (cFun Tryz.prog efs Tryz.f53).map (fun x => (x.nargs, x.nt, x.res, x.code)) = some (c53.nargs, c53.nt, c53.res, bare c53.code) := by kernel_rfl
end Go.Proofs.YtecpfmhminkalaaGreatDoor
