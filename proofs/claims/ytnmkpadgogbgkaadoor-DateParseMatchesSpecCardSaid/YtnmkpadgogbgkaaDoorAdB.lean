/- The code of some functions on plain data, by program, and that it is what the program's text gives; no condition. -/
import Derived.Test.YtnmkpadgogbgkaaDoorAdA
import Derived.Test.YtnmkpadgogbgkaaDoorProg
import Derived.KernelRfl
set_option linter.all false
set_option linter.unusedSimpArgs false
set_option linter.unusedVariables false
namespace Go.Proofs.YtnmkpadgogbgkaaDoor
theorem awgoB {P : Program} {c d : ACode} (h : c = d) {Q : AExit → AS → Prop} {e : AEnv} {n : Nat} {H : AHeap} : aw P c Q ⟨e, n, H⟩ = aw P d Q ⟨e, n, H⟩ := by rw [h]
def c15_k1 : ACode := .kp [5, 9] (.seq (.reg [⟨some 79, .call 48 [(.t 9)], none⟩,
    ⟨some 80, .build [(.int .i64 0), (.int .i64 0)] [], none⟩,
    ⟨some 4, .mv (.t 79), none⟩,
    ⟨none, .store (some 2) (.t 5) (.t 80), none⟩]) (.ret))
def c15_k1_go {Q e n H} := @awgoB Tryd.prog _ _ c15_k1.eq_1 Q e n H
def c15_k2 : ACode := .kp [1, 2, 5, 8, 9, 10] (.reg [⟨some 31, .mv (.t 10), none⟩,
    ⟨some 32, .bin .add (.t 31) (.c (.int .i64 1)), none⟩,
    ⟨some 10, .mv (.t 32), none⟩])
def c15_k2_go {Q e n H} := @awgoB Tryd.prog _ _ c15_k2.eq_1 Q e n H
def c15_k3 : ACode := .kp [1, 2, 5, 8, 9, 10, 11, 12] (.seq (.reg [⟨some 67, .mv (.t 12), none⟩,
    ⟨some 68, .callp 46 [(.t 67)], none⟩,
    ⟨some 13, .mv (.t 68), none⟩]) (.kp [1, 2, 5, 8, 9, 10, 11, 13] (.reg [⟨some 69, .faddr (.t 11) 0 none, none⟩,
    ⟨some 70, .load none (.t 69), none⟩,
    ⟨some 71, .mv (.t 13), none⟩,
    ⟨some 72, .lenS (.t 71), none⟩,
    ⟨some 73, .bin .sub (.t 70) (.t 72), none⟩,
    ⟨some 74, .mm true (.c (.int .i64 0)) (.t 73), none⟩,
    ⟨some 75, .callp 47 [(.c (.str [48])), (.t 74)], none⟩,
    ⟨some 76, .mv (.t 13), none⟩,
    ⟨some 77, .bin .add (.t 75) (.t 76), none⟩,
    ⟨some 78, .call 45 [(.t 9), (.t 77)], none⟩])))
def c15_k3_go {Q e n H} := @awgoB Tryd.prog _ _ c15_k3.eq_1 Q e n H
def c15_k4 : ACode := .kp [1, 2, 5, 8, 9, 10] (.seq (.reg [⟨some 48, .mv (.t 8), none⟩,
    ⟨some 49, .mv (.t 1), none⟩,
    ⟨some 50, .mv (.t 10), none⟩,
    ⟨some 51, .sidx (.t 49) (.t 50), none⟩,
    ⟨some 52, .mget (some .u8) (.agg [(.int .i64 0), (.sl 0 [] .nil), .nfn]) false (.t 48) (.t 51), none⟩,
    ⟨some 11, .alloc 74 [(.int .i64 0), (.sl 0 [] .nil), .nfn], none⟩,
    ⟨none, .store (some 3) (.t 11) (.t 52), none⟩]) (.kp [1, 2, 5, 8, 9, 10, 11] (.seq (.reg [⟨some 53, .faddr (.t 11) 2 none, none⟩,
    ⟨some 54, .load none (.t 53), none⟩,
    ⟨some 55, .load (some 6) (.t 2), none⟩,
    ⟨some 56, .callv (.t 54) [(.t 55)], none⟩,
    ⟨some 12, .mv (.t 56), none⟩]) (.kp [1, 2, 5, 8, 9, 10, 11, 12] (.seq (.seq (.reg [⟨some 57, .faddr (.t 11) 1 none, none⟩,
    ⟨some 58, .load none (.t 57), none⟩,
    ⟨some 59, .eqn true (.t 58), none⟩]) (.kp [1, 2, 5, 8, 9, 10, 11, 12, 59] (.cond (.t 59) (.seq (.reg [⟨some 60, .faddr (.t 11) 1 none, none⟩,
    ⟨some 61, .load none (.t 60), none⟩,
    ⟨some 62, .mv (.t 12), none⟩,
    ⟨some 63, .bin .sub (.t 62) (.c (.int .i64 1)), none⟩,
    ⟨some 64, .iaddr 1 none (.t 61) (.t 63), none⟩,
    ⟨some 65, .load none (.t 64), none⟩,
    ⟨some 66, .call 45 [(.t 9), (.t 65)], none⟩]) (.exit 1)) (.skip)))) (c15_k3))))))
def c15_k4_go {Q e n H} := @awgoB Tryd.prog _ _ c15_k4.eq_1 Q e n H
def c15_k5 : ACode := .kp [1, 2, 5, 8, 9, 10] (.seq (.reg [⟨some 41, .mv (.t 10), none⟩,
    ⟨some 42, .bin .add (.t 41) (.c (.int .i64 1)), none⟩,
    ⟨some 10, .mv (.t 42), none⟩]) (.kp [1, 2, 5, 8, 9, 10] (.seq (.seq (.reg [⟨some 43, .mv (.t 1), none⟩,
    ⟨some 44, .mv (.t 10), none⟩,
    ⟨some 45, .sidx (.t 43) (.t 44), none⟩,
    ⟨some 46, .bin .eql (.t 45) (.c (.int .u8 37)), none⟩]) (.kp [1, 2, 5, 8, 9, 10, 46] (.cond (.t 46) (.seq (.reg [⟨some 47, .call 44 [(.t 9), (.c (.int .u8 37))], none⟩]) (.exit 1)) (.skip)))) (c15_k4))))
def c15_k5_go {Q e n H} := @awgoB Tryd.prog _ _ c15_k5.eq_1 Q e n H
def c15_k6 : ACode := .kp [1, 2, 5, 8, 9, 10] (.seq (.block 1 (.seq (.seq (.reg [⟨some 33, .mv (.t 1), none⟩,
    ⟨some 34, .mv (.t 10), none⟩,
    ⟨some 35, .sidx (.t 33) (.t 34), none⟩,
    ⟨some 36, .bin .neq (.t 35) (.c (.int .u8 37)), none⟩]) (.kp [1, 2, 5, 8, 9, 10, 36] (.cond (.t 36) (.seq (.reg [⟨some 37, .mv (.t 1), none⟩,
    ⟨some 38, .mv (.t 10), none⟩,
    ⟨some 39, .sidx (.t 37) (.t 38), none⟩,
    ⟨some 40, .call 44 [(.t 9), (.t 39)], none⟩]) (.exit 1)) (.skip)))) (c15_k5))) (c15_k2))
def c15_k6_go {Q e n H} := @awgoB Tryd.prog _ _ c15_k6.eq_1 Q e n H
def c15_L7 : ACode := .ke [1, 2, 5, 8, 9, 10] (.seq (.seq (.reg [⟨some 27, .mv (.t 10), none⟩,
    ⟨some 28, .mv (.t 1), none⟩,
    ⟨some 29, .lenS (.t 28), none⟩,
    ⟨some 30, .bin .lss (.t 27) (.t 29), none⟩]) (.kp [1, 2, 5, 8, 9, 10, 30] (.cond (.t 30) (.skip) (.exit 0)))) (c15_k6))
def c15_L7_go {Q e n H} := @awgoB Tryd.prog _ _ c15_L7.eq_1 Q e n H
def c15_k8 : ACode := .kp [1, 2, 5] (.seq (.reg [⟨some 26, .call 43 [], none⟩,
    ⟨some 8, .mv (.t 26), none⟩]) (.kp [1, 2, 5, 8] (.seq (.reg [⟨some 9, .alloc 68 [.np, (.sl 0 [] .nil)], none⟩]) (.kp [1, 2, 5, 8, 9] (.seq (.seq (.reg [⟨some 10, .mv (.c (.int .i64 0)), none⟩]) (.kp [1, 2, 5, 8, 9, 10] (.block 0 (.kp [1, 2, 5, 8, 9, 10] (.loop c15_L7))))) (c15_k1))))))
def c15_k8_go {Q e n H} := @awgoB Tryd.prog _ _ c15_k8.eq_1 Q e n H
def c15_k9 : ACode := .kp [1, 2, 5] (.seq (.seq (.reg [⟨some 20, .mv (.t 1), none⟩,
    ⟨some 21, .callp 42 [(.t 20), (.c (.int .i64 100))], none⟩,
    ⟨some 7, .alloc 25 [(.int .i64 0), (.int .i64 0)], none⟩,
    ⟨none, .store (some 2) (.t 7) (.t 21), none⟩]) (.kp [1, 2, 5, 7] (.seq (.reg [⟨some 22, .faddr (.t 7) 0 none, none⟩,
    ⟨some 23, .load none (.t 22), none⟩,
    ⟨some 24, .bin .neq (.t 23) (.c (.int .i64 0)), none⟩]) (.kp [1, 2, 5, 7, 24] (.cond (.t 24) (.seq (.reg [⟨some 25, .load (some 2) (.t 7), none⟩,
    ⟨some 4, .mv (.c (.str [])), none⟩,
    ⟨none, .store (some 2) (.t 5) (.t 25), none⟩]) (.ret)) (.skip)))))) (c15_k8))
def c15_k9_go {Q e n H} := @awgoB Tryd.prog _ _ c15_k9.eq_1 Q e n H
def c15 : AFun := { nargs := 2, nt := 81, res := [.tmp 4, .cell 5 (some 2)], code := .seq (.reg [⟨some 2, .box 23 (some 6) (.t 0), none⟩,
    ⟨some 4, .mv (.c (.str [])), none⟩,
    ⟨some 5, .alloc 25 [(.int .i64 0), (.int .i64 0)], none⟩]) (.kp [1, 2, 5] (.seq (.seq (.reg [⟨some 14, .load (some 6) (.t 2), none⟩,
    ⟨some 15, .callp 41 [(.t 14)], none⟩,
    ⟨some 6, .alloc 25 [(.int .i64 0), (.int .i64 0)], none⟩,
    ⟨none, .store (some 2) (.t 6) (.t 15), none⟩]) (.kp [1, 2, 5, 6] (.seq (.reg [⟨some 16, .faddr (.t 6) 0 none, none⟩,
    ⟨some 17, .load none (.t 16), none⟩,
    ⟨some 18, .bin .neq (.t 17) (.c (.int .i64 0)), none⟩]) (.kp [1, 2, 5, 6, 18] (.cond (.t 18) (.seq (.reg [⟨some 19, .load (some 2) (.t 6), none⟩,
    ⟨some 4, .mv (.c (.str [])), none⟩,
    ⟨none, .store (some 2) (.t 5) (.t 19), none⟩]) (.ret)) (.skip)))))) (c15_k9))) }
theorem cmp15 : (cFun Tryd.prog efs Tryd.f15).map (fun x => (x.nargs, x.nt, x.res, x.code)) = some (c15.nargs, c15.nt, c15.res, bare c15.code) := by kernel_rfl
def c42_k1 : ACode := .kp [4] (.seq (.reg [⟨some 40, .build [(.int .i64 0), (.int .i64 0)] [], none⟩,
    ⟨none, .store (some 2) (.t 4) (.t 40), none⟩]) (.ret))
def c42_k1_go {Q e n H} := @awgoB Tryd.prog _ _ c42_k1.eq_1 Q e n H
def c42_k2 : ACode := .kp [0, 1, 4, 5] (.reg [⟨some 14, .mv (.t 5), none⟩,
    ⟨some 15, .bin .add (.t 14) (.c (.int .i64 1)), none⟩,
    ⟨some 5, .mv (.t 15), none⟩])
def c42_k2_go {Q e n H} := @awgoB Tryd.prog _ _ c42_k2.eq_1 Q e n H
def c42_k3 : ACode := .kp [0, 1, 4, 5] (.seq (.reg [⟨some 20, .mv (.t 5), none⟩,
    ⟨some 21, .bin .add (.t 20) (.c (.int .i64 1)), none⟩,
    ⟨some 5, .mv (.t 21), none⟩]) (.kp [0, 1, 4, 5] (.seq (.segs [⟨none, [⟨some 22, .mv (.t 5), none⟩,
      ⟨some 23, .mv (.t 0), none⟩,
      ⟨some 24, .lenS (.t 23), none⟩,
      ⟨some 25, .bin .eql (.t 22) (.t 24), none⟩,
      ⟨some 26, .mv (.t 25), none⟩], none⟩,
    ⟨some (26, false), [⟨some 27, .mv (.t 0), none⟩,
      ⟨some 28, .mv (.t 5), none⟩,
      ⟨some 29, .mv (.t 5), none⟩,
      ⟨some 30, .bin .add (.t 29) (.c (.int .i64 1)), none⟩,
      ⟨some 31, .cutS (.t 27) (some (.t 28)) (some (.t 30)), none⟩,
      ⟨some 32, .callp 68 [(.c (.str [89, 109, 100, 72, 77, 83, 106, 71, 86, 117, 97, 98, 37])), (.t 31)], none⟩,
      ⟨some 33, .not (.t 32), none⟩], none⟩,
    ⟨none, [⟨some 34, .pick (.t 26) (.c (.bool true)) (.t 33), none⟩], none⟩]) (.kp [0, 1, 4, 5, 34] (.cond (.t 34) (.seq (.reg [⟨some 35, .mv (.t 1), none⟩,
    ⟨some 36, .mv (.t 5), none⟩,
    ⟨some 37, .bin .add (.t 35) (.t 36), none⟩,
    ⟨some 38, .bin .sub (.t 37) (.c (.int .i64 1)), none⟩,
    ⟨some 39, .build [(.int .i64 0), (.int .i64 0)] [(0, none, (.c (.int .i64 1))), (1, none, (.t 38))], none⟩,
    ⟨none, .store (some 2) (.t 4) (.t 39), none⟩]) (.ret)) (.skip))))))
def c42_k3_go {Q e n H} := @awgoB Tryd.prog _ _ c42_k3.eq_1 Q e n H
def c42_k4 : ACode := .kp [0, 1, 4, 5] (.seq (.block 1 (.seq (.seq (.reg [⟨some 16, .mv (.t 0), none⟩,
    ⟨some 17, .mv (.t 5), none⟩,
    ⟨some 18, .sidx (.t 16) (.t 17), none⟩,
    ⟨some 19, .bin .neq (.t 18) (.c (.int .u8 37)), none⟩]) (.kp [0, 1, 4, 5, 19] (.cond (.t 19) (.exit 1) (.skip)))) (c42_k3))) (c42_k2))
def c42_k4_go {Q e n H} := @awgoB Tryd.prog _ _ c42_k4.eq_1 Q e n H
def c42_L5 : ACode := .ke [0, 1, 4, 5] (.seq (.seq (.reg [⟨some 10, .mv (.t 5), none⟩,
    ⟨some 11, .mv (.t 0), none⟩,
    ⟨some 12, .lenS (.t 11), none⟩,
    ⟨some 13, .bin .lss (.t 10) (.t 12), none⟩]) (.kp [0, 1, 4, 5, 13] (.cond (.t 13) (.skip) (.exit 0)))) (c42_k4))
def c42_L5_go {Q e n H} := @awgoB Tryd.prog _ _ c42_L5.eq_1 Q e n H
def c42_k6 : ACode := .kp [0, 1, 4] (.seq (.seq (.reg [⟨some 5, .mv (.c (.int .i64 0)), none⟩]) (.kp [0, 1, 4, 5] (.block 0 (.kp [0, 1, 4, 5] (.loop c42_L5))))) (c42_k1))
def c42_k6_go {Q e n H} := @awgoB Tryd.prog _ _ c42_k6.eq_1 Q e n H
def c42 : AFun := { nargs := 2, nt := 41, res := [.cell 4 (some 2)], code := .seq (.reg [⟨some 4, .alloc 25 [(.int .i64 0), (.int .i64 0)], none⟩]) (.kp [0, 1, 4] (.seq (.seq (.reg [⟨some 6, .mv (.t 0), none⟩,
    ⟨some 7, .lenS (.t 6), none⟩,
    ⟨some 8, .bin .gtr (.t 7) (.c (.int .i64 200)), none⟩]) (.kp [0, 1, 4, 8] (.cond (.t 8) (.seq (.reg [⟨some 9, .build [(.int .i64 0), (.int .i64 0)] [(0, none, (.c (.int .i64 3))), (1, none, (.c (.int .i64 (-2))))], none⟩,
    ⟨none, .store (some 2) (.t 4) (.t 9), none⟩]) (.ret)) (.skip)))) (c42_k6))) }
theorem cmp42 : (cFun Tryd.prog efs Tryd.f42).map (fun x => (x.nargs, x.nt, x.res, x.code)) = some (c42.nargs, c42.nt, c42.res, bare c42.code) := by kernel_rfl
def c43 : AFun := { nargs := 0, nt := 24, res := [.tmp 0], code := .seq (.reg [⟨some 0, .mv (.c .nmp), none⟩]) (.kp [] (.seq (.reg [⟨some 4, .callp 69 [(.c (.str [77, 111, 110, 32, 84, 117, 101, 32, 87, 101, 100, 32, 84, 104, 117, 32, 70, 114, 105, 32, 83, 97, 116, 32, 83, 117, 110]))], none⟩,
    ⟨some 1, .mv (.t 4), none⟩]) (.kp [1] (.seq (.reg [⟨some 5, .callp 69 [(.c (.str [74, 97, 110, 32, 70, 101, 98, 32, 77, 97, 114, 32, 65, 112, 114, 32, 77, 97, 121, 32, 74, 117, 110, 32, 74, 117, 108, 32, 65, 117, 103, 32, 83, 101, 112, 32, 79, 99, 116, 32, 78, 111, 118, 32, 68, 101, 99]))], none⟩,
    ⟨some 2, .mv (.t 5), none⟩]) (.kp [1, 2] (.seq (.reg [⟨some 3, .mv (.c (.fn 70 [] [])), none⟩]) (.kp [1, 2, 3] (.seq (.reg [⟨some 6, .mkmap (some .u8), none⟩,
    ⟨some 7, .build [(.int .i64 0), (.sl 0 [] .nil), .nfn] [(0, none, (.c (.int .i64 4))), (2, none, (.c (.fn 71 [] [])))], none⟩,
    ⟨none, .mset (some .u8) (.t 6) (.c (.int .u8 89)) (.t 7), none⟩,
    ⟨some 8, .build [(.int .i64 0), (.sl 0 [] .nil), .nfn] [(0, none, (.c (.int .i64 2))), (2, none, (.c (.fn 72 [] [])))], none⟩,
    ⟨none, .mset (some .u8) (.t 6) (.c (.int .u8 109)) (.t 8), none⟩,
    ⟨some 9, .build [(.int .i64 0), (.sl 0 [] .nil), .nfn] [(0, none, (.c (.int .i64 2))), (2, none, (.c (.fn 73 [] [])))], none⟩,
    ⟨none, .mset (some .u8) (.t 6) (.c (.int .u8 100)) (.t 9), none⟩,
    ⟨some 10, .build [(.int .i64 0), (.sl 0 [] .nil), .nfn] [(0, none, (.c (.int .i64 2))), (2, none, (.c (.fn 74 [] [])))], none⟩,
    ⟨none, .mset (some .u8) (.t 6) (.c (.int .u8 72)) (.t 10), none⟩,
    ⟨some 11, .build [(.int .i64 0), (.sl 0 [] .nil), .nfn] [(0, none, (.c (.int .i64 2))), (2, none, (.c (.fn 75 [] [])))], none⟩,
    ⟨none, .mset (some .u8) (.t 6) (.c (.int .u8 77)) (.t 11), none⟩,
    ⟨some 12, .build [(.int .i64 0), (.sl 0 [] .nil), .nfn] [(0, none, (.c (.int .i64 2))), (2, none, (.c (.fn 76 [] [])))], none⟩,
    ⟨none, .mset (some .u8) (.t 6) (.c (.int .u8 83)) (.t 12), none⟩,
    ⟨some 13, .build [(.int .i64 0), (.sl 0 [] .nil), .nfn] [(0, none, (.c (.int .i64 3))), (2, none, (.c (.fn 77 [] [])))], none⟩,
    ⟨none, .mset (some .u8) (.t 6) (.c (.int .u8 106)) (.t 13), none⟩,
    ⟨some 14, .build [(.int .i64 0), (.sl 0 [] .nil), .nfn] [(0, none, (.c (.int .i64 4))), (2, none, (.c (.fn 79 [] [])))], none⟩,
    ⟨none, .mset (some .u8) (.t 6) (.c (.int .u8 71)) (.t 14), none⟩,
    ⟨some 15, .build [(.int .i64 0), (.sl 0 [] .nil), .nfn] [(0, none, (.c (.int .i64 2))), (2, none, (.c (.fn 80 [] [])))], none⟩,
    ⟨none, .mset (some .u8) (.t 6) (.c (.int .u8 86)) (.t 15), none⟩,
    ⟨some 16, .mv (.t 3), none⟩,
    ⟨some 17, .build [(.int .i64 0), (.sl 0 [] .nil), .nfn] [(0, none, (.c (.int .i64 1))), (2, none, (.t 16))], none⟩,
    ⟨none, .mset (some .u8) (.t 6) (.c (.int .u8 117)) (.t 17), none⟩,
    ⟨some 18, .mv (.t 1), none⟩,
    ⟨some 19, .mv (.t 3), none⟩,
    ⟨some 20, .build [(.int .i64 0), (.sl 0 [] .nil), .nfn] [(1, none, (.t 18)), (2, none, (.t 19))], none⟩,
    ⟨none, .mset (some .u8) (.t 6) (.c (.int .u8 97)) (.t 20), none⟩,
    ⟨some 21, .mv (.t 2), none⟩,
    ⟨some 22, .build [(.int .i64 0), (.sl 0 [] .nil), .nfn] [(1, none, (.t 21)), (2, none, (.c (.fn 81 [] [])))], none⟩,
    ⟨none, .mset (some .u8) (.t 6) (.c (.int .u8 98)) (.t 22), none⟩,
    ⟨some 23, .mv (.t 6), none⟩,
    ⟨some 0, .mv (.t 23), none⟩]) (.ret))))))))) }
theorem cmp43 : (cFun Tryd.prog efs Tryd.f43).map (fun x => (x.nargs, x.nt, x.res, x.code)) = some (c43.nargs, c43.nt, c43.res, bare c43.code) := by kernel_rfl
def c17_k1 : ACode := .kp [4] (.seq (.reg [⟨some 46, .callp 29 [(.c (.int .i64 0)), (.c (.int .i64 0))], none⟩,
    ⟨none, .store (some 2) (.t 4) (.t 46), none⟩]) (.ret))
def c17_k1_go {Q e n H} := @awgoB Tryd.prog _ _ c17_k1.eq_1 Q e n H
def c17_k2 : ACode := .kp [0, 1, 4, 5] (.reg [⟨some 14, .mv (.t 5), none⟩,
    ⟨some 15, .bin .add (.t 14) (.c (.int .i64 1)), none⟩,
    ⟨some 5, .mv (.t 15), none⟩])
def c17_k2_go {Q e n H} := @awgoB Tryd.prog _ _ c17_k2.eq_1 Q e n H
def c17_k3 : ACode := .kp [0, 1, 4, 5] (.reg [⟨some 44, .mv (.t 5), none⟩,
    ⟨some 45, .bin .add (.t 44) (.c (.int .i64 1)), none⟩,
    ⟨some 5, .mv (.t 45), none⟩])
def c17_k3_go {Q e n H} := @awgoB Tryd.prog _ _ c17_k3.eq_1 Q e n H
def c17_t4 : ACode := .kp [0, 1, 4, 5] (.seq (.seq (.segs [⟨none, [⟨some 20, .mv (.t 5), none⟩,
      ⟨some 21, .bin .add (.t 20) (.c (.int .i64 1)), none⟩,
      ⟨some 22, .mv (.t 0), none⟩,
      ⟨some 23, .lenS (.t 22), none⟩,
      ⟨some 24, .bin .eql (.t 21) (.t 23), none⟩,
      ⟨some 25, .mv (.t 24), none⟩], none⟩,
    ⟨some (25, false), [⟨some 26, .mv (.t 0), none⟩,
      ⟨some 27, .mv (.t 5), none⟩,
      ⟨some 28, .bin .add (.t 27) (.c (.int .i64 1)), none⟩,
      ⟨some 29, .sidx (.t 26) (.t 28), none⟩,
      ⟨some 30, .callp 50 [(.t 29)], none⟩,
      ⟨some 31, .bin .lss (.t 30) (.c (.int .i64 0)), none⟩,
      ⟨some 32, .mv (.t 31), none⟩], none⟩,
    ⟨some (32, true), [⟨some 33, .mv (.t 0), none⟩,
      ⟨some 34, .mv (.t 5), none⟩,
      ⟨some 35, .bin .add (.t 34) (.c (.int .i64 1)), none⟩,
      ⟨some 36, .sidx (.t 33) (.t 35), none⟩,
      ⟨some 37, .bin .neq (.t 36) (.c (.int .u8 37)), none⟩], none⟩,
    ⟨some (25, false), [⟨some 38, .pick (.t 32) (.t 37) (.c (.bool false)), none⟩], some (39, 38)⟩]) (.kp [0, 1, 4, 5, 39] (.cond (.t 39) (.seq (.reg [⟨some 40, .mv (.t 1), none⟩,
    ⟨some 41, .mv (.t 5), none⟩,
    ⟨some 42, .bin .add (.t 40) (.t 41), none⟩,
    ⟨some 43, .callp 29 [(.c (.int .i64 1)), (.t 42)], none⟩,
    ⟨none, .store (some 2) (.t 4) (.t 43), none⟩]) (.ret)) (.skip)))) (c17_k3))
def c17_t4_go {Q e n H} := @awgoB Tryd.prog _ _ c17_t4.eq_1 Q e n H
def c17_k5 : ACode := .kp [0, 1, 4, 5] (.seq (.block 1 (.seq (.reg [⟨some 16, .mv (.t 0), none⟩,
    ⟨some 17, .mv (.t 5), none⟩,
    ⟨some 18, .sidx (.t 16) (.t 17), none⟩,
    ⟨some 19, .bin .eql (.t 18) (.c (.int .u8 37)), none⟩]) (.kp [0, 1, 4, 5, 19] (.cond (.t 19) (c17_t4) (.skip))))) (c17_k2))
def c17_k5_go {Q e n H} := @awgoB Tryd.prog _ _ c17_k5.eq_1 Q e n H
def c17_L6 : ACode := .ke [0, 1, 4, 5] (.seq (.seq (.reg [⟨some 10, .mv (.t 5), none⟩,
    ⟨some 11, .mv (.t 0), none⟩,
    ⟨some 12, .lenS (.t 11), none⟩,
    ⟨some 13, .bin .lss (.t 10) (.t 12), none⟩]) (.kp [0, 1, 4, 5, 13] (.cond (.t 13) (.skip) (.exit 0)))) (c17_k5))
def c17_L6_go {Q e n H} := @awgoB Tryd.prog _ _ c17_L6.eq_1 Q e n H
def c17_k7 : ACode := .kp [0, 1, 4] (.seq (.seq (.reg [⟨some 5, .mv (.c (.int .i64 0)), none⟩]) (.kp [0, 1, 4, 5] (.block 0 (.kp [0, 1, 4, 5] (.loop c17_L6))))) (c17_k1))
def c17_k7_go {Q e n H} := @awgoB Tryd.prog _ _ c17_k7.eq_1 Q e n H
def c17 : AFun := { nargs := 2, nt := 47, res := [.cell 4 (some 2)], code := .seq (.reg [⟨some 4, .alloc 25 [(.int .i64 0), (.int .i64 0)], none⟩]) (.kp [0, 1, 4] (.seq (.seq (.reg [⟨some 6, .mv (.t 0), none⟩,
    ⟨some 7, .lenS (.t 6), none⟩,
    ⟨some 8, .bin .gtr (.t 7) (.c (.int .i64 200)), none⟩]) (.kp [0, 1, 4, 8] (.cond (.t 8) (.seq (.reg [⟨some 9, .callp 29 [(.c (.int .i64 3)), (.c (.int .i64 (-2)))], none⟩,
    ⟨none, .store (some 2) (.t 4) (.t 9), none⟩]) (.ret)) (.skip)))) (c17_k7))) }
theorem cmp17 : (cFun Tryd.prog efs Tryd.f17).map (fun x => (x.nargs, x.nt, x.res, x.code)) = some (c17.nargs, c17.nt, c17.res, bare c17.code) := by kernel_rfl
def c50_k1 : ACode := .kp [] (.seq (.reg [⟨some 2, .mv (.c (.int .i64 (-1))), none⟩]) (.ret))
def c50_k1_go {Q e n H} := @awgoB Tryd.prog _ _ c50_k1.eq_1 Q e n H
def c50_k2 : ACode := .kp [0, 3] (.reg [⟨some 6, .mv (.t 3), none⟩,
    ⟨some 7, .bin .add (.t 6) (.c (.int .i64 1)), none⟩,
    ⟨some 3, .mv (.t 7), none⟩])
def c50_k2_go {Q e n H} := @awgoB Tryd.prog _ _ c50_k2.eq_1 Q e n H
def c50_k3 : ACode := .kp [0, 3] (.seq (.block 1 (.seq (.reg [⟨some 8, .mv (.t 3), none⟩,
    ⟨some 9, .sidx (.c (.str [89, 109, 100, 72, 77, 83, 106, 71, 86, 117, 97, 98])) (.t 8), none⟩,
    ⟨some 10, .mv (.t 0), none⟩,
    ⟨some 11, .bin .eql (.t 9) (.t 10), none⟩]) (.kp [0, 3, 11] (.cond (.t 11) (.seq (.reg [⟨some 12, .mv (.t 3), none⟩,
    ⟨some 2, .mv (.t 12), none⟩]) (.ret)) (.skip))))) (c50_k2))
def c50_k3_go {Q e n H} := @awgoB Tryd.prog _ _ c50_k3.eq_1 Q e n H
def c50_L4 : ACode := .ke [0, 3] (.seq (.seq (.reg [⟨some 4, .mv (.t 3), none⟩,
    ⟨some 5, .bin .lss (.t 4) (.c (.int .i64 12)), none⟩]) (.kp [0, 3, 5] (.cond (.t 5) (.skip) (.exit 0)))) (c50_k3))
def c50_L4_go {Q e n H} := @awgoB Tryd.prog _ _ c50_L4.eq_1 Q e n H
def c50 : AFun := { nargs := 1, nt := 13, res := [.tmp 2], code := .seq (.reg [⟨some 2, .mv (.c (.int .i64 0)), none⟩]) (.kp [0] (.seq (.seq (.reg [⟨some 3, .mv (.c (.int .i64 0)), none⟩]) (.kp [0, 3] (.block 0 (.kp [0, 3] (.loop c50_L4))))) (c50_k1))) }
theorem cmp50 : (cFun Tryd.prog efs Tryd.f50).map (fun x => (x.nargs, x.nt, x.res, x.code)) = some (c50.nargs, c50.nt, c50.res, bare c50.code) := by kernel_rfl
def c52 : AFun := { nargs := 2, nt := 54, res := [.tmp 4], code := .seq (.reg [⟨some 2, .box 23 (some 6) (.t 0), none⟩,
    ⟨some 4, .mv (.c (.int .i64 0)), none⟩]) (.kp [1, 2] (.seq (.reg [⟨some 9, .faddr (.t 2) 0 none, none⟩,
    ⟨some 10, .load none (.t 9), none⟩,
    ⟨some 11, .faddr (.t 2) 1 none, none⟩,
    ⟨some 12, .load none (.t 11), none⟩,
    ⟨some 13, .faddr (.t 2) 2 none, none⟩,
    ⟨some 14, .load none (.t 13), none⟩,
    ⟨some 15, .callp 23 [(.t 10), (.t 12), (.t 14)], none⟩,
    ⟨some 5, .mv (.t 15), none⟩]) (.kp [1, 2, 5] (.seq (.reg [⟨some 17, .mv (.t 5), none⟩,
    ⟨some 18, .callp 24 [(.t 17)], none⟩,
    ⟨some 16, .mv (.t 18), none⟩,
    ⟨some 19, .extr (.t 16) 0, none⟩,
    ⟨some 20, .extr (.t 16) 1, none⟩,
    ⟨some 6, .mv (.t 19), none⟩,
    ⟨some 7, .mv (.t 20), none⟩]) (.kp [1, 2, 5, 6, 7] (.seq (.reg [⟨some 21, .faddr (.t 2) 0 none, none⟩,
    ⟨some 22, .load none (.t 21), none⟩,
    ⟨some 23, .faddr (.t 2) 1 none, none⟩,
    ⟨some 24, .load none (.t 23), none⟩,
    ⟨some 25, .faddr (.t 2) 2 none, none⟩,
    ⟨some 26, .load none (.t 25), none⟩,
    ⟨some 27, .faddr (.t 2) 3 none, none⟩,
    ⟨some 28, .load none (.t 27), none⟩,
    ⟨some 29, .faddr (.t 2) 4 none, none⟩,
    ⟨some 30, .load none (.t 29), none⟩,
    ⟨some 31, .faddr (.t 2) 5 none, none⟩,
    ⟨some 32, .load none (.t 31), none⟩,
    ⟨some 33, .mv (.t 5), none⟩,
    ⟨some 34, .faddr (.t 2) 0 none, none⟩,
    ⟨some 35, .load none (.t 34), none⟩,
    ⟨some 36, .callp 23 [(.t 35), (.c (.int .i64 1)), (.c (.int .i64 1))], none⟩,
    ⟨some 37, .bin .sub (.t 33) (.t 36), none⟩,
    ⟨some 38, .bin .add (.t 37) (.c (.int .i64 1)), none⟩,
    ⟨some 39, .mv (.t 6), none⟩,
    ⟨some 40, .mv (.t 7), none⟩,
    ⟨some 41, .mv (.t 5), none⟩,
    ⟨some 42, .callp 26 [(.t 41)], none⟩,
    ⟨some 43, .bin .add (.t 42) (.c (.int .i64 1)), none⟩,
    ⟨some 44, .mv (.t 5), none⟩,
    ⟨some 45, .callp 26 [(.t 44)], none⟩,
    ⟨some 46, .bin .add (.t 45) (.c (.int .i64 1)), none⟩,
    ⟨some 47, .faddr (.t 2) 1 none, none⟩,
    ⟨some 48, .load none (.t 47), none⟩,
    ⟨some 49, .bsl 3 none [(.t 22), (.t 24), (.t 26), (.t 28), (.t 30), (.t 32), (.t 38), (.t 39), (.t 40), (.t 43), (.t 46), (.t 48)], none⟩,
    ⟨some 8, .mv (.t 49), none⟩]) (.kp [1, 8] (.seq (.reg [⟨some 50, .mv (.t 8), none⟩,
    ⟨some 51, .mv (.t 1), none⟩,
    ⟨some 52, .iaddr 1 none (.t 50) (.t 51), none⟩,
    ⟨some 53, .load none (.t 52), none⟩,
    ⟨some 4, .mv (.t 53), none⟩]) (.ret))))))))) }
theorem cmp52 : (cFun Tryd.prog efs Tryd.f52).map (fun x => (x.nargs, x.nt, x.res, x.code)) = some (c52.nargs, c52.nt, c52.res, bare c52.code) := by kernel_rfl
def c70 : AFun := { nargs := 1, nt := 7, res := [.tmp 2], code := .seq (.reg [⟨some 1, .box 23 (some 6) (.t 0), none⟩,
    ⟨some 2, .mv (.c (.int .i64 0)), none⟩]) (.kp [1] (.seq (.reg [⟨some 3, .load (some 6) (.t 1), none⟩,
    ⟨some 4, .callp 56 [(.t 3)], none⟩,
    ⟨some 5, .callp 55 [(.t 4)], none⟩,
    ⟨some 6, .bin .add (.t 5) (.c (.int .i64 1)), none⟩,
    ⟨some 2, .mv (.t 6), none⟩]) (.ret))) }
theorem cmp70 : (cFun Tryd.prog efs Tryd.f70).map (fun x => (x.nargs, x.nt, x.res, x.code)) = some (c70.nargs, c70.nt, c70.res, bare c70.code) := by kernel_rfl
def c71 : AFun := { nargs := 1, nt := 5, res := [.tmp 2], code := .seq (.reg [⟨some 1, .box 23 (some 6) (.t 0), none⟩,
    ⟨some 2, .mv (.c (.int .i64 0)), none⟩]) (.kp [1] (.seq (.reg [⟨some 3, .faddr (.t 1) 0 none, none⟩,
    ⟨some 4, .load none (.t 3), none⟩,
    ⟨some 2, .mv (.t 4), none⟩]) (.ret))) }
theorem cmp71 : (cFun Tryd.prog efs Tryd.f71).map (fun x => (x.nargs, x.nt, x.res, x.code)) = some (c71.nargs, c71.nt, c71.res, bare c71.code) := by kernel_rfl
def c72 : AFun := { nargs := 1, nt := 5, res := [.tmp 2], code := .seq (.reg [⟨some 1, .box 23 (some 6) (.t 0), none⟩,
    ⟨some 2, .mv (.c (.int .i64 0)), none⟩]) (.kp [1] (.seq (.reg [⟨some 3, .faddr (.t 1) 1 none, none⟩,
    ⟨some 4, .load none (.t 3), none⟩,
    ⟨some 2, .mv (.t 4), none⟩]) (.ret))) }
theorem cmp72 : (cFun Tryd.prog efs Tryd.f72).map (fun x => (x.nargs, x.nt, x.res, x.code)) = some (c72.nargs, c72.nt, c72.res, bare c72.code) := by kernel_rfl
def c73 : AFun := { nargs := 1, nt := 5, res := [.tmp 2], code := .seq (.reg [⟨some 1, .box 23 (some 6) (.t 0), none⟩,
    ⟨some 2, .mv (.c (.int .i64 0)), none⟩]) (.kp [1] (.seq (.reg [⟨some 3, .faddr (.t 1) 2 none, none⟩,
    ⟨some 4, .load none (.t 3), none⟩,
    ⟨some 2, .mv (.t 4), none⟩]) (.ret))) }
theorem cmp73 : (cFun Tryd.prog efs Tryd.f73).map (fun x => (x.nargs, x.nt, x.res, x.code)) = some (c73.nargs, c73.nt, c73.res, bare c73.code) := by kernel_rfl
def c74 : AFun := { nargs := 1, nt := 5, res := [.tmp 2], code := .seq (.reg [⟨some 1, .box 23 (some 6) (.t 0), none⟩,
    ⟨some 2, .mv (.c (.int .i64 0)), none⟩]) (.kp [1] (.seq (.reg [⟨some 3, .faddr (.t 1) 3 none, none⟩,
    ⟨some 4, .load none (.t 3), none⟩,
    ⟨some 2, .mv (.t 4), none⟩]) (.ret))) }
theorem cmp74 : (cFun Tryd.prog efs Tryd.f74).map (fun x => (x.nargs, x.nt, x.res, x.code)) = some (c74.nargs, c74.nt, c74.res, bare c74.code) := by kernel_rfl
def c75 : AFun := { nargs := 1, nt := 5, res := [.tmp 2], code := .seq (.reg [⟨some 1, .box 23 (some 6) (.t 0), none⟩,
    ⟨some 2, .mv (.c (.int .i64 0)), none⟩]) (.kp [1] (.seq (.reg [⟨some 3, .faddr (.t 1) 4 none, none⟩,
    ⟨some 4, .load none (.t 3), none⟩,
    ⟨some 2, .mv (.t 4), none⟩]) (.ret))) }
theorem cmp75 : (cFun Tryd.prog efs Tryd.f75).map (fun x => (x.nargs, x.nt, x.res, x.code)) = some (c75.nargs, c75.nt, c75.res, bare c75.code) := by kernel_rfl
def c76 : AFun := { nargs := 1, nt := 5, res := [.tmp 2], code := .seq (.reg [⟨some 1, .box 23 (some 6) (.t 0), none⟩,
    ⟨some 2, .mv (.c (.int .i64 0)), none⟩]) (.kp [1] (.seq (.reg [⟨some 3, .faddr (.t 1) 5 none, none⟩,
    ⟨some 4, .load none (.t 3), none⟩,
    ⟨some 2, .mv (.t 4), none⟩]) (.ret))) }
theorem cmp76 : (cFun Tryd.prog efs Tryd.f76).map (fun x => (x.nargs, x.nt, x.res, x.code)) = some (c76.nargs, c76.nt, c76.res, bare c76.code) := by kernel_rfl
def c77 : AFun := { nargs := 1, nt := 10, res := [.tmp 2], code := .seq (.reg [⟨some 1, .box 23 (some 6) (.t 0), none⟩,
    ⟨some 2, .mv (.c (.int .i64 0)), none⟩]) (.kp [1] (.seq (.reg [⟨some 3, .faddr (.t 1) 0 none, none⟩,
    ⟨some 4, .load none (.t 3), none⟩,
    ⟨some 5, .faddr (.t 1) 1 none, none⟩,
    ⟨some 6, .load none (.t 5), none⟩,
    ⟨some 7, .faddr (.t 1) 2 none, none⟩,
    ⟨some 8, .load none (.t 7), none⟩,
    ⟨some 9, .callp 78 [(.t 4), (.t 6), (.t 8)], none⟩,
    ⟨some 2, .mv (.t 9), none⟩]) (.ret))) }
theorem cmp77 : (cFun Tryd.prog efs Tryd.f77).map (fun x => (x.nargs, x.nt, x.res, x.code)) = some (c77.nargs, c77.nt, c77.res, bare c77.code) := by kernel_rfl
def c79 : AFun := { nargs := 1, nt := 11, res := [.tmp 2], code := .seq (.reg [⟨some 1, .box 23 (some 6) (.t 0), none⟩,
    ⟨some 2, .mv (.c (.int .i64 0)), none⟩]) (.kp [1] (.seq (.reg [⟨some 6, .load (some 6) (.t 1), none⟩,
    ⟨some 7, .callp 57 [(.t 6)], none⟩,
    ⟨some 5, .mv (.t 7), none⟩,
    ⟨some 8, .extr (.t 5) 0, none⟩,
    ⟨some 9, .extr (.t 5) 1, none⟩,
    ⟨some 3, .mv (.t 8), none⟩,
    ⟨some 4, .mv (.t 9), none⟩]) (.kp [3] (.seq (.reg [⟨some 10, .mv (.t 3), none⟩,
    ⟨some 2, .mv (.t 10), none⟩]) (.ret))))) }
theorem cmp79 : (cFun Tryd.prog efs Tryd.f79).map (fun x => (x.nargs, x.nt, x.res, x.code)) = some (c79.nargs, c79.nt, c79.res, bare c79.code) := by kernel_rfl
def c80 : AFun := { nargs := 1, nt := 11, res := [.tmp 2], code := .seq (.reg [⟨some 1, .box 23 (some 6) (.t 0), none⟩,
    ⟨some 2, .mv (.c (.int .i64 0)), none⟩]) (.kp [1] (.seq (.reg [⟨some 6, .load (some 6) (.t 1), none⟩,
    ⟨some 7, .callp 57 [(.t 6)], none⟩,
    ⟨some 5, .mv (.t 7), none⟩,
    ⟨some 8, .extr (.t 5) 0, none⟩,
    ⟨some 9, .extr (.t 5) 1, none⟩,
    ⟨some 3, .mv (.t 8), none⟩,
    ⟨some 4, .mv (.t 9), none⟩]) (.kp [4] (.seq (.reg [⟨some 10, .mv (.t 4), none⟩,
    ⟨some 2, .mv (.t 10), none⟩]) (.ret))))) }
theorem cmp80 : (cFun Tryd.prog efs Tryd.f80).map (fun x => (x.nargs, x.nt, x.res, x.code)) = some (c80.nargs, c80.nt, c80.res, bare c80.code) := by kernel_rfl
def c81 : AFun := { nargs := 1, nt := 5, res := [.tmp 2], code := .seq (.reg [⟨some 1, .box 23 (some 6) (.t 0), none⟩,
    ⟨some 2, .mv (.c (.int .i64 0)), none⟩]) (.kp [1] (.seq (.reg [⟨some 3, .faddr (.t 1) 1 none, none⟩,
    ⟨some 4, .load none (.t 3), none⟩,
    ⟨some 2, .mv (.t 4), none⟩]) (.ret))) }
theorem cmp81 : (cFun Tryd.prog efs Tryd.f81).map (fun x => (x.nargs, x.nt, x.res, x.code)) = some (c81.nargs, c81.nt, c81.res, bare c81.code) := by kernel_rfl
def c44 : AFun := { nargs := 2, nt := 17, res := [.tmp 4], code := .seq (.reg [⟨some 4, .mv (.c .nif), none⟩]) (.kp [0, 1] (.seq (.reg [⟨some 5, .mv (.t 0), none⟩,
    ⟨some 6, .call 82 [(.t 5)], none⟩]) (.kp [0, 1] (.seq (.reg [⟨some 7, .mv (.t 0), none⟩,
    ⟨some 8, .mv (.t 0), none⟩,
    ⟨some 9, .nilck (.t 8), none⟩,
    ⟨some 10, .faddr (.t 9) 1 none, none⟩,
    ⟨some 11, .load none (.t 10), none⟩,
    ⟨some 12, .mv (.t 1), none⟩,
    ⟨some 13, .bsl 5 none [(.t 12)], none⟩,
    ⟨some 14, .app 5 1 1 (.t 11) (.t 13), none⟩,
    ⟨some 15, .nilck (.t 7), none⟩,
    ⟨some 16, .faddr (.t 15) 1 none, none⟩,
    ⟨none, .store none (.t 16) (.t 14), none⟩]) (.kp [] (.seq (.reg [⟨some 4, .mv (.c .nif), none⟩]) (.ret))))))) }
theorem cmp44 : (cFun Tryd.prog efs Tryd.f44).map (fun x => (x.nargs, x.nt, x.res, x.code)) = some (c44.nargs, c44.nt, c44.res, bare c44.code) := by kernel_rfl
def c45 : AFun := { nargs := 2, nt := 19, res := [.tmp 4, .tmp 5], code := .seq (.reg [⟨some 4, .mv (.c (.int .i64 0)), none⟩,
    ⟨some 5, .mv (.c .nif), none⟩]) (.kp [0, 1] (.seq (.reg [⟨some 6, .mv (.t 0), none⟩,
    ⟨some 7, .call 82 [(.t 6)], none⟩]) (.kp [0, 1] (.seq (.reg [⟨some 8, .mv (.t 0), none⟩,
    ⟨some 9, .mv (.t 0), none⟩,
    ⟨some 10, .nilck (.t 9), none⟩,
    ⟨some 11, .faddr (.t 10) 1 none, none⟩,
    ⟨some 12, .load none (.t 11), none⟩,
    ⟨some 13, .mv (.t 1), none⟩,
    ⟨some 14, .appB 5 1 (.t 12) (.t 13), none⟩,
    ⟨some 15, .nilck (.t 8), none⟩,
    ⟨some 16, .faddr (.t 15) 1 none, none⟩,
    ⟨none, .store none (.t 16) (.t 14), none⟩]) (.kp [1] (.seq (.reg [⟨some 17, .mv (.t 1), none⟩,
    ⟨some 18, .lenS (.t 17), none⟩,
    ⟨some 4, .mv (.t 18), none⟩,
    ⟨some 5, .mv (.c .nif), none⟩]) (.ret))))))) }
theorem cmp45 : (cFun Tryd.prog efs Tryd.f45).map (fun x => (x.nargs, x.nt, x.res, x.code)) = some (c45.nargs, c45.nt, c45.res, bare c45.code) := by kernel_rfl
def c48 : AFun := { nargs := 1, nt := 14, res := [.tmp 2], code := .seq (.reg [⟨some 2, .mv (.c (.str [])), none⟩]) (.kp [0] (.seq (.reg [⟨some 3, .mv (.t 0), none⟩,
    ⟨some 4, .nilck (.t 3), none⟩,
    ⟨some 5, .faddr (.t 4) 1 none, none⟩,
    ⟨some 6, .load none (.t 5), none⟩,
    ⟨some 7, .usd 5 (.t 6), none⟩,
    ⟨some 8, .mv (.t 0), none⟩,
    ⟨some 9, .nilck (.t 8), none⟩,
    ⟨some 10, .faddr (.t 9) 1 none, none⟩,
    ⟨some 11, .load none (.t 10), none⟩,
    ⟨some 12, .len (.t 11), none⟩,
    ⟨some 13, .ust 5 (.t 7) (.t 12), none⟩,
    ⟨some 2, .mv (.t 13), none⟩]) (.ret))) }
theorem cmp48 : (cFun Tryd.prog efs Tryd.f48).map (fun x => (x.nargs, x.nt, x.res, x.code)) = some (c48.nargs, c48.nt, c48.res, bare c48.code) := by kernel_rfl
def c82_e1 : ACode := .kp [0] (.seq (.reg [⟨some 14, .mv (.t 0), none⟩,
    ⟨some 15, .nilck (.t 14), none⟩,
    ⟨some 16, .faddr (.t 15) 0 none, none⟩,
    ⟨some 17, .load none (.t 16), none⟩,
    ⟨some 18, .mv (.t 0), none⟩,
    ⟨some 19, .eqpp true (.t 17) (.t 18), none⟩]) (.kp [19] (.cond (.t 19) (.bad) (.skip))))
def c82 : AFun := { nargs := 1, nt := 20, res := [], code := .seq (.reg [⟨some 2, .mv (.t 0), none⟩,
    ⟨some 3, .nilck (.t 2), none⟩,
    ⟨some 4, .faddr (.t 3) 0 none, none⟩,
    ⟨some 5, .load none (.t 4), none⟩,
    ⟨some 6, .eqp false (.t 5), none⟩]) (.kp [0, 6] (.cond (.t 6) (.reg [⟨some 7, .mv (.t 0), none⟩,
    ⟨some 8, .mv (.t 0), none⟩,
    ⟨some 9, .upc (.t 8), none⟩,
    ⟨some 10, .mv (.t 9), none⟩,
    ⟨some 11, .updn 68 (.t 10), none⟩,
    ⟨some 12, .nilck (.t 7), none⟩,
    ⟨some 13, .faddr (.t 12) 0 none, none⟩,
    ⟨none, .store none (.t 13) (.t 11), none⟩]) (c82_e1))) }
theorem cmp82 : (cFun Tryd.prog efs Tryd.f82).map (fun x => (x.nargs, x.nt, x.res, x.code)) = some (c82.nargs, c82.nt, c82.res, bare c82.code) := by kernel_rfl
def c3_k1 : ACode := .kp [1, 2, 5, 6] (.seq (.segs [⟨none, [⟨some 34, .faddr (.t 6) 0 none, none⟩,
      ⟨some 35, .load none (.t 34), none⟩,
      ⟨some 36, .bin .eql (.t 35) (.c (.int .i64 0)), none⟩,
      ⟨some 37, .mv (.t 36), none⟩], none⟩,
    ⟨some (37, true), [⟨some 38, .mv (.t 5), none⟩,
      ⟨some 39, .load (some 6) (.t 2), none⟩,
      ⟨some 40, .mv (.t 1), none⟩,
      ⟨some 41, .callp 19 [(.t 39), (.t 40)], none⟩,
      ⟨some 42, .bin .eql (.t 38) (.t 41), none⟩], none⟩,
    ⟨none, [⟨some 43, .pick (.t 37) (.t 42) (.c (.bool false)), none⟩,
      ⟨some 44, .mv (.t 43), none⟩], none⟩,
    ⟨some (44, true), [⟨some 45, .callp 18 [], none⟩], none⟩,
    ⟨none, [⟨some 46, .pick (.t 44) (.t 45) (.c (.bool false)), none⟩,
      ⟨some 4, .mv (.t 46), none⟩], none⟩]) (.ret))
def c3_k2 : ACode := .kp [1, 2, 5, 6, 7] (.seq (.seq (.reg [⟨some 21, .faddr (.t 7) 0 none, none⟩,
    ⟨some 22, .load none (.t 21), none⟩,
    ⟨some 23, .bin .neq (.t 22) (.c (.int .i64 0)), none⟩]) (.kp [1, 2, 5, 6, 7, 23] (.cond (.t 23) (.seq (.segs [⟨none, [⟨some 24, .load (some 2) (.t 6), none⟩,
      ⟨some 25, .load (some 2) (.t 7), none⟩,
      ⟨some 26, .eqs [.i, .i] false (.t 24) (.t 25), none⟩,
      ⟨some 27, .mv (.t 26), none⟩], none⟩,
    ⟨some (27, true), [⟨some 28, .mv (.t 5), none⟩,
      ⟨some 29, .bin .eql (.t 28) (.c (.str [])), none⟩], some (30, 29)⟩,
    ⟨none, [⟨some 31, .mv (.t 30), none⟩], none⟩,
    ⟨some (31, true), [⟨some 32, .callp 18 [], none⟩], none⟩,
    ⟨none, [⟨some 33, .pick (.t 31) (.t 32) (.c (.bool false)), none⟩,
      ⟨some 4, .mv (.t 33), none⟩], none⟩]) (.ret)) (.skip)))) (c3_k1))
def c3 : AFun := { nargs := 2, nt := 47, res := [.tmp 4], code := .seq (.reg [⟨some 2, .box 23 (some 6) (.t 0), none⟩,
    ⟨some 4, .mv (.c (.bool false)), none⟩]) (.kp [1, 2] (.seq (.reg [⟨some 9, .load (some 6) (.t 2), none⟩,
    ⟨some 10, .mv (.t 1), none⟩,
    ⟨some 11, .callp 15 [(.t 9), (.t 10)], none⟩,
    ⟨some 8, .mv (.t 11), none⟩,
    ⟨some 12, .extr (.t 8) 0, none⟩,
    ⟨some 13, .extr (.t 8) 1, none⟩,
    ⟨some 6, .alloc 25 [(.int .i64 0), (.int .i64 0)], none⟩,
    ⟨some 5, .mv (.t 12), none⟩,
    ⟨none, .store (some 2) (.t 6) (.t 13), none⟩]) (.kp [1, 2, 5, 6] (.seq (.reg [⟨some 14, .load (some 6) (.t 2), none⟩,
    ⟨some 15, .callp 16 [(.t 14)], none⟩,
    ⟨some 7, .alloc 25 [(.int .i64 0), (.int .i64 0)], none⟩,
    ⟨none, .store (some 2) (.t 7) (.t 15), none⟩]) (.kp [1, 2, 5, 6, 7] (.seq (.seq (.reg [⟨some 16, .faddr (.t 7) 0 none, none⟩,
    ⟨some 17, .load none (.t 16), none⟩,
    ⟨some 18, .bin .eql (.t 17) (.c (.int .i64 0)), none⟩]) (.kp [1, 2, 5, 6, 7, 18] (.cond (.t 18) (.reg [⟨some 19, .mv (.t 1), none⟩,
    ⟨some 20, .callp 17 [(.t 19), (.c (.int .i64 100))], none⟩,
    ⟨none, .store (some 2) (.t 7) (.t 20), none⟩]) (.skip)))) (c3_k2))))))) }
end Go.Proofs.YtnmkpadgogbgkaaDoor
