/- The code of some functions on plain data, by program, and that it is what the program's text gives; no condition. -/
import Derived.Test.YtecpfmhminkalaaGreatDoorAdA
import Derived.Test.YtecpfmhminkalaaGreatDoorProg
import Derived.KernelRfl
import Derived.Test.YtecpfmhminkalaaGreatDoorMrN
import Derived.Test.YtecpfmhminkalaaGreatDoorMrO
import Derived.Test.YtecpfmhminkalaaGreatDoorMrI
set_option linter.all false
set_option linter.unusedSimpArgs false
set_option linter.unusedVariables false
namespace Go.Proofs.YtecpfmhminkalaaGreatDoor
theorem awgoK {P : Program} {c d : ACode} (h : c = d) {Q : AExit → AS → Prop} {e : AEnv} {n : Nat} {H : AHeap} : aw P c Q ⟨e, n, H⟩ = aw P d Q ⟨e, n, H⟩ := by rw [h]
def c97 : AFun := { nargs := 1, nt := 9, res := [.tmp 2], code := .seq (.reg [⟨some 2, .mv (.c (.bool false)), none⟩]) (.kp [0] (.seq (.segs [⟨none, [⟨some 3, .mv (.t 0), none⟩,
      ⟨some 4, .bin .geq (.t 3) (.c (.int .u8 48)), none⟩,
      ⟨some 5, .mv (.t 4), none⟩], none⟩,
    ⟨some (5, true), [⟨some 6, .mv (.t 0), none⟩,
      ⟨some 7, .bin .leq (.t 6) (.c (.int .u8 57)), none⟩], some (8, 7)⟩,
    ⟨none, [⟨some 2, .mv (.t 8), none⟩], none⟩]) (.ret))) }
theorem cmp97 : (cFun Tryz.prog efs Tryz.f97).map (fun x => (x.nargs, x.nt, x.res, x.code)) = some (c97.nargs, c97.nt, c97.res, bare c97.code) := by kernel_rfl
def c61_k1 : ACode := .kp [0, 4, 5] (.seq (.segs [⟨none, [⟨some 45, .mv (.t 5), none⟩,
      ⟨some 46, .mv (.t 0), none⟩,
      ⟨some 47, .lenS (.t 46), none⟩,
      ⟨some 48, .mv (.t 4), none⟩,
      ⟨some 49, .bin .gtr (.t 47) (.t 48), none⟩,
      ⟨some 50, .mv (.t 49), none⟩], none⟩,
    ⟨some (50, true), [⟨some 51, .mv (.t 5), none⟩,
      ⟨some 52, .callp 57 [(.t 51)], none⟩,
      ⟨some 53, .mv (.t 0), none⟩,
      ⟨some 54, .bin .eql (.t 52) (.t 53), none⟩], none⟩,
    ⟨none, [⟨some 55, .pick (.t 50) (.t 54) (.c (.bool false)), none⟩,
      ⟨some 2, .mv (.t 45), none⟩,
      ⟨some 3, .mv (.t 55), none⟩], none⟩]) (.ret))
def c61_k1_go {Q e n H} := @awgoK Tryz.prog _ _ c61_k1.eq_1 Q e n H
def c61_k2 : ACode := .kp [0, 4, 5] (.seq (.seq (.reg [⟨some 41, .mv (.t 4), none⟩,
    ⟨some 42, .bin .eql (.t 41) (.c (.int .i64 1)), none⟩]) (.kp [0, 4, 5, 42] (.cond (.t 42) (.reg [⟨some 43, .mv (.t 5), none⟩,
    ⟨some 44, .neg (.t 43), none⟩,
    ⟨some 5, .mv (.t 44), none⟩]) (.skip)))) (c61_k1))
def c61_k2_go {Q e n H} := @awgoK Tryz.prog _ _ c61_k2.eq_1 Q e n H
def c61_k3 : ACode := .kp [0, 4, 5, 6] (.reg [⟨some 20, .mv (.t 6), none⟩,
    ⟨some 21, .bin .add (.t 20) (.c (.int .i64 1)), none⟩,
    ⟨some 6, .mv (.t 21), none⟩])
def c61_k3_go {Q e n H} := @awgoK Tryz.prog _ _ c61_k3.eq_1 Q e n H
def c61_k4 : ACode := .kp [0, 4, 5, 6] (.reg [⟨some 33, .mv (.t 5), none⟩,
    ⟨some 34, .bin .mul (.c (.int .i64 10)) (.t 33), none⟩,
    ⟨some 35, .mv (.t 0), none⟩,
    ⟨some 36, .mv (.t 6), none⟩,
    ⟨some 37, .sidx (.t 35) (.t 36), none⟩,
    ⟨some 38, .cvi .i64 (.t 37), none⟩,
    ⟨some 39, .bin .add (.t 34) (.t 38), none⟩,
    ⟨some 40, .bin .sub (.t 39) (.c (.int .i64 48)), none⟩,
    ⟨some 5, .mv (.t 40), none⟩])
def c61_k4_go {Q e n H} := @awgoK Tryz.prog _ _ c61_k4.eq_1 Q e n H
def c61_k5 : ACode := .kp [0, 4, 5, 6] (.seq (.block 1 (.seq (.seq (.segs [⟨none, [⟨some 22, .mv (.t 0), none⟩,
      ⟨some 23, .mv (.t 6), none⟩,
      ⟨some 24, .sidx (.t 22) (.t 23), none⟩,
      ⟨some 25, .callp 97 [(.t 24)], none⟩,
      ⟨some 26, .not (.t 25), none⟩,
      ⟨some 27, .mv (.t 26), none⟩], none⟩,
    ⟨some (27, false), [⟨some 28, .mv (.t 6), none⟩,
      ⟨some 29, .mv (.t 4), none⟩,
      ⟨some 30, .bin .sub (.t 28) (.t 29), none⟩,
      ⟨some 31, .bin .gtr (.t 30) (.c (.int .i64 8)), none⟩], some (32, 31)⟩]) (.kp [0, 4, 5, 6, 32] (.cond (.t 32) (.seq (.reg [⟨some 2, .mv (.c (.int .i64 0)), none⟩,
    ⟨some 3, .mv (.c (.bool false)), none⟩]) (.ret)) (.skip)))) (c61_k4))) (c61_k3))
def c61_k5_go {Q e n H} := @awgoK Tryz.prog _ _ c61_k5.eq_1 Q e n H
def c61_L6 : ACode := .ke [0, 4, 5, 6] (.seq (.seq (.reg [⟨some 16, .mv (.t 6), none⟩,
    ⟨some 17, .mv (.t 0), none⟩,
    ⟨some 18, .lenS (.t 17), none⟩,
    ⟨some 19, .bin .lss (.t 16) (.t 18), none⟩]) (.kp [0, 4, 5, 6, 19] (.cond (.t 19) (.skip) (.exit 0)))) (c61_k5))
def c61_L6_go {Q e n H} := @awgoK Tryz.prog _ _ c61_L6.eq_1 Q e n H
def c61_k7 : ACode := .kp [0, 4] (.seq (.reg [⟨some 5, .mv (.c (.int .i64 0)), none⟩]) (.kp [0, 4, 5] (.seq (.seq (.reg [⟨some 15, .mv (.t 4), none⟩,
    ⟨some 6, .mv (.t 15), none⟩]) (.kp [0, 4, 5, 6] (.block 0 (.kp [0, 4, 5, 6] (.loop c61_L6))))) (c61_k2))))
def c61_k7_go {Q e n H} := @awgoK Tryz.prog _ _ c61_k7.eq_1 Q e n H
def c61 : AFun := { nargs := 1, nt := 56, res := [.tmp 2, .tmp 3], code := .seq (.reg [⟨some 2, .mv (.c (.int .i64 0)), none⟩,
    ⟨some 3, .mv (.c (.bool false)), none⟩]) (.kp [0] (.seq (.reg [⟨some 4, .mv (.c (.int .i64 0)), none⟩]) (.kp [0, 4] (.seq (.seq (.segs [⟨none, [⟨some 7, .mv (.t 0), none⟩,
      ⟨some 8, .lenS (.t 7), none⟩,
      ⟨some 9, .bin .gtr (.t 8) (.c (.int .i64 0)), none⟩,
      ⟨some 10, .mv (.t 9), none⟩], none⟩,
    ⟨some (10, true), [⟨some 11, .mv (.t 0), none⟩,
      ⟨some 12, .sidx (.t 11) (.c (.int .i64 0)), none⟩,
      ⟨some 13, .bin .eql (.t 12) (.c (.int .u8 45)), none⟩], some (14, 13)⟩]) (.kp [0, 4, 14] (.cond (.t 14) (.reg [⟨some 4, .mv (.c (.int .i64 1)), none⟩]) (.skip)))) (c61_k7))))) }
theorem cmp61 : (cFun Tryz.prog efs Tryz.f61).map (fun x => (x.nargs, x.nt, x.res, x.code)) = some (c61.nargs, c61.nt, c61.res, bare c61.code) := by kernel_rfl
def c60_k1 : ACode := .kp [5] (.seq (.reg [⟨some 34, .mv (.t 5), none⟩,
    ⟨some 4, .mv (.t 34), none⟩]) (.ret))
def c60_k1_go {Q e n H} := @awgoK Tryz.prog _ _ c60_k1.eq_1 Q e n H
def c60_k2 : ACode := .kp [0, 1, 5, 6, 7] (.reg [⟨some 12, .mv (.t 7), none⟩,
    ⟨some 13, .bin .add (.t 12) (.c (.int .i64 1)), none⟩,
    ⟨some 7, .mv (.t 13), none⟩])
def c60_k2_go {Q e n H} := @awgoK Tryz.prog _ _ c60_k2.eq_1 Q e n H
def c60_t3 : ACode := .kp [0, 1, 5, 6, 7] (.seq (.reg [⟨some 25, .mv (.t 5), none⟩,
    ⟨some 26, .mv (.t 0), none⟩,
    ⟨some 27, .mv (.t 6), none⟩,
    ⟨some 28, .mv (.t 7), none⟩,
    ⟨some 29, .cutS (.t 26) (some (.t 27)) (some (.t 28)), none⟩,
    ⟨some 30, .bsl 9 none [(.t 29)], none⟩,
    ⟨some 31, .app 9 1 16 (.t 25) (.t 30), none⟩,
    ⟨some 5, .mv (.t 31), none⟩]) (.kp [0, 1, 5, 7] (.reg [⟨some 32, .mv (.t 7), none⟩,
    ⟨some 33, .bin .add (.t 32) (.c (.int .i64 1)), none⟩,
    ⟨some 6, .mv (.t 33), none⟩])))
def c60_t3_go {Q e n H} := @awgoK Tryz.prog _ _ c60_t3.eq_1 Q e n H
def c60_k4 : ACode := .kp [0, 1, 5, 6, 7] (.seq (.block 1 (.seq (.segs [⟨none, [⟨some 14, .mv (.t 7), none⟩,
      ⟨some 15, .mv (.t 0), none⟩,
      ⟨some 16, .lenS (.t 15), none⟩,
      ⟨some 17, .bin .eql (.t 14) (.t 16), none⟩,
      ⟨some 18, .mv (.t 17), none⟩], none⟩,
    ⟨some (18, false), [⟨some 19, .mv (.t 0), none⟩,
      ⟨some 20, .mv (.t 7), none⟩,
      ⟨some 21, .sidx (.t 19) (.t 20), none⟩,
      ⟨some 22, .mv (.t 1), none⟩,
      ⟨some 23, .bin .eql (.t 21) (.t 22), none⟩], some (24, 23)⟩]) (.kp [0, 1, 5, 6, 7, 24] (.cond (.t 24) (c60_t3) (.skip))))) (c60_k2))
def c60_k4_go {Q e n H} := @awgoK Tryz.prog _ _ c60_k4.eq_1 Q e n H
def c60_L5 : ACode := .ke [0, 1, 5, 6, 7] (.seq (.seq (.reg [⟨some 8, .mv (.t 7), none⟩,
    ⟨some 9, .mv (.t 0), none⟩,
    ⟨some 10, .lenS (.t 9), none⟩,
    ⟨some 11, .bin .leq (.t 8) (.t 10), none⟩]) (.kp [0, 1, 5, 6, 7, 11] (.cond (.t 11) (.skip) (.exit 0)))) (c60_k4))
def c60_L5_go {Q e n H} := @awgoK Tryz.prog _ _ c60_L5.eq_1 Q e n H
def c60 : AFun := { nargs := 2, nt := 35, res := [.tmp 4], code := .seq (.reg [⟨some 4, .mv (.c (.sl 0 [] .nil)), none⟩]) (.kp [0, 1] (.seq (.reg [⟨some 5, .mv (.c (.sl 0 [] .nil)), none⟩]) (.kp [0, 1, 5] (.seq (.reg [⟨some 6, .mv (.c (.int .i64 0)), none⟩]) (.kp [0, 1, 5, 6] (.seq (.seq (.reg [⟨some 7, .mv (.c (.int .i64 0)), none⟩]) (.kp [0, 1, 5, 6, 7] (.block 0 (.kp [0, 1, 5, 6, 7] (.loop c60_L5))))) (c60_k1))))))) }
theorem cmp60 : (cFun Tryz.prog efs Tryz.f60).map (fun x => (x.nargs, x.nt, x.res, x.code)) = some (c60.nargs, c60.nt, c60.res, bare c60.code) := by kernel_rfl
def c98_k1 : ACode := .kp [] (.seq (.reg [⟨some 4, .mv (.c (.int .i64 (-1))), none⟩]) (.ret))
def c98_k1_go {Q e n H} := @awgoK Tryz.prog _ _ c98_k1.eq_1 Q e n H
def c98_k2 : ACode := .kp [0, 1, 5] (.reg [⟨some 14, .mv (.t 5), none⟩,
    ⟨some 15, .bin .add (.t 14) (.c (.int .i64 4)), none⟩,
    ⟨some 5, .mv (.t 15), none⟩])
def c98_k2_go {Q e n H} := @awgoK Tryz.prog _ _ c98_k2.eq_1 Q e n H
def c98_k3 : ACode := .kp [0, 1, 5] (.seq (.block 1 (.seq (.reg [⟨some 16, .mv (.t 0), none⟩,
    ⟨some 17, .mv (.t 5), none⟩,
    ⟨some 18, .mv (.t 5), none⟩,
    ⟨some 19, .bin .add (.t 18) (.c (.int .i64 3)), none⟩,
    ⟨some 20, .cutS (.t 16) (some (.t 17)) (some (.t 19)), none⟩,
    ⟨some 21, .mv (.t 1), none⟩,
    ⟨some 22, .bin .eql (.t 20) (.t 21), none⟩]) (.kp [0, 1, 5, 22] (.cond (.t 22) (.seq (.reg [⟨some 23, .mv (.t 5), none⟩,
    ⟨some 24, .bin .quo (.t 23) (.c (.int .i64 4)), none⟩,
    ⟨some 4, .mv (.t 24), none⟩]) (.ret)) (.skip))))) (c98_k2))
def c98_k3_go {Q e n H} := @awgoK Tryz.prog _ _ c98_k3.eq_1 Q e n H
def c98_L4 : ACode := .ke [0, 1, 5] (.seq (.seq (.reg [⟨some 9, .mv (.t 5), none⟩,
    ⟨some 10, .bin .add (.t 9) (.c (.int .i64 3)), none⟩,
    ⟨some 11, .mv (.t 0), none⟩,
    ⟨some 12, .lenS (.t 11), none⟩,
    ⟨some 13, .bin .leq (.t 10) (.t 12), none⟩]) (.kp [0, 1, 5, 13] (.cond (.t 13) (.skip) (.exit 0)))) (c98_k3))
def c98_L4_go {Q e n H} := @awgoK Tryz.prog _ _ c98_L4.eq_1 Q e n H
def c98_k5 : ACode := .kp [0, 1] (.seq (.seq (.reg [⟨some 5, .mv (.c (.int .i64 0)), none⟩]) (.kp [0, 1, 5] (.block 0 (.kp [0, 1, 5] (.loop c98_L4))))) (c98_k1))
def c98_k5_go {Q e n H} := @awgoK Tryz.prog _ _ c98_k5.eq_1 Q e n H
def c98 : AFun := { nargs := 2, nt := 25, res := [.tmp 4], code := .seq (.reg [⟨some 4, .mv (.c (.int .i64 0)), none⟩]) (.kp [0, 1] (.seq (.seq (.reg [⟨some 6, .mv (.t 1), none⟩,
    ⟨some 7, .lenS (.t 6), none⟩,
    ⟨some 8, .bin .neq (.t 7) (.c (.int .i64 3)), none⟩]) (.kp [0, 1, 8] (.cond (.t 8) (.seq (.reg [⟨some 4, .mv (.c (.int .i64 (-1))), none⟩]) (.ret)) (.skip)))) (c98_k5))) }
theorem cmp98 : (cFun Tryz.prog efs Tryz.f98).map (fun x => (x.nargs, x.nt, x.res, x.code)) = some (c98.nargs, c98.nt, c98.res, bare c98.code) := by kernel_rfl
def c62_k1 : ACode := .kp [4] (.seq (.reg [⟨some 31, .mv (.t 4), none⟩,
    ⟨some 2, .mv (.t 31), none⟩,
    ⟨some 3, .mv (.c (.bool true)), none⟩]) (.ret))
def c62_k1_go {Q e n H} := @awgoK Tryz.prog _ _ c62_k1.eq_1 Q e n H
def c62_k2 : ACode := .kp [4, 5, 6] (.reg [⟨some 15, .mv (.t 6), none⟩,
    ⟨some 16, .bin .add (.t 15) (.c (.int .i64 1)), none⟩,
    ⟨some 6, .mv (.t 16), none⟩])
def c62_k2_go {Q e n H} := @awgoK Tryz.prog _ _ c62_k2.eq_1 Q e n H
def c62_k3 : ACode := .kp [4, 5, 6, 7] (.reg [⟨some 27, .mv (.t 4), none⟩,
    ⟨some 28, .mv (.t 7), none⟩,
    ⟨some 29, .bsl 3 none [(.t 28)], none⟩,
    ⟨some 30, .app 3 1 8 (.t 27) (.t 29), none⟩,
    ⟨some 4, .mv (.t 30), none⟩])
def c62_k3_go {Q e n H} := @awgoK Tryz.prog _ _ c62_k3.eq_1 Q e n H
def c62_k4 : ACode := .kp [4, 5, 6] (.seq (.block 1 (.seq (.reg [⟨some 18, .mv (.t 5), none⟩,
    ⟨some 19, .mv (.t 6), none⟩,
    ⟨some 20, .iaddr 1 none (.t 18) (.t 19), none⟩,
    ⟨some 21, .load none (.t 20), none⟩,
    ⟨some 22, .callp 61 [(.t 21)], none⟩,
    ⟨some 17, .mv (.t 22), none⟩,
    ⟨some 23, .extr (.t 17) 0, none⟩,
    ⟨some 24, .extr (.t 17) 1, none⟩,
    ⟨some 7, .mv (.t 23), none⟩,
    ⟨some 8, .mv (.t 24), none⟩]) (.kp [4, 5, 6, 7, 8] (.seq (.seq (.reg [⟨some 25, .mv (.t 8), none⟩,
    ⟨some 26, .not (.t 25), none⟩]) (.kp [4, 5, 6, 7, 26] (.cond (.t 26) (.seq (.reg [⟨some 2, .mv (.c (.sl 0 [] .nil)), none⟩,
    ⟨some 3, .mv (.c (.bool false)), none⟩]) (.ret)) (.skip)))) (c62_k3))))) (c62_k2))
def c62_k4_go {Q e n H} := @awgoK Tryz.prog _ _ c62_k4.eq_1 Q e n H
def c62_L5 : ACode := .ke [4, 5, 6] (.seq (.seq (.reg [⟨some 11, .mv (.t 6), none⟩,
    ⟨some 12, .mv (.t 5), none⟩,
    ⟨some 13, .len (.t 12), none⟩,
    ⟨some 14, .bin .lss (.t 11) (.t 13), none⟩]) (.kp [4, 5, 6, 14] (.cond (.t 14) (.skip) (.exit 0)))) (c62_k4))
def c62_L5_go {Q e n H} := @awgoK Tryz.prog _ _ c62_L5.eq_1 Q e n H
def c62 : AFun := { nargs := 1, nt := 32, res := [.tmp 2, .tmp 3], code := .seq (.reg [⟨some 2, .mv (.c (.sl 0 [] .nil)), none⟩,
    ⟨some 3, .mv (.c (.bool false)), none⟩]) (.kp [0] (.seq (.reg [⟨some 4, .mv (.c (.sl 0 [] .nil)), none⟩]) (.kp [0, 4] (.seq (.reg [⟨some 9, .mv (.t 0), none⟩,
    ⟨some 10, .callp 60 [(.t 9), (.c (.int .u8 44))], none⟩,
    ⟨some 5, .mv (.t 10), none⟩]) (.kp [4, 5] (.seq (.seq (.reg [⟨some 6, .mv (.c (.int .i64 0)), none⟩]) (.kp [4, 5, 6] (.block 0 (.kp [4, 5, 6] (.loop c62_L5))))) (c62_k1))))))) }
theorem cmp62 : (cFun Tryz.prog efs Tryz.f62).map (fun x => (x.nargs, x.nt, x.res, x.code)) = some (c62.nargs, c62.nt, c62.res, bare c62.code) := by kernel_rfl
def c63_k1 : ACode := .kp [4] (.seq (.reg [⟨some 58, .mv (.t 4), none⟩,
    ⟨some 2, .mv (.t 58), none⟩,
    ⟨some 3, .mv (.c (.bool true)), none⟩]) (.ret))
def c63_k1_go {Q e n H} := @awgoK Tryz.prog _ _ c63_k1.eq_1 Q e n H
def c63_k2 : ACode := .kp [4, 5, 6] (.reg [⟨some 17, .mv (.t 6), none⟩,
    ⟨some 18, .bin .add (.t 17) (.c (.int .i64 1)), none⟩,
    ⟨some 6, .mv (.t 18), none⟩])
def c63_k2_go {Q e n H} := @awgoK Tryz.prog _ _ c63_k2.eq_1 Q e n H
def c63_k3 : ACode := .kp [4, 5, 6, 8] (.reg [⟨some 54, .mv (.t 4), none⟩,
    ⟨some 55, .load (some 2) (.t 8), none⟩,
    ⟨some 56, .bsl 56 (some 2) [(.t 55)], none⟩,
    ⟨some 57, .app 56 2 16 (.t 54) (.t 56), none⟩,
    ⟨some 4, .mv (.t 57), none⟩])
def c63_k3_go {Q e n H} := @awgoK Tryz.prog _ _ c63_k3.eq_1 Q e n H
def c63_k4 : ACode := .kp [4, 5, 6, 7, 8] (.seq (.reg [⟨some 48, .mv (.t 7), none⟩,
    ⟨some 49, .callp 98 [(.c (.str [109, 111, 110, 32, 116, 117, 101, 32, 119, 101, 100, 32, 116, 104, 117, 32, 102, 114, 105, 32, 115, 97, 116, 32, 115, 117, 110])), (.t 48)], none⟩,
    ⟨some 50, .faddr (.t 8) 0 none, none⟩,
    ⟨none, .store none (.t 50) (.t 49), none⟩]) (.kp [4, 5, 6, 8] (.seq (.seq (.reg [⟨some 51, .faddr (.t 8) 0 none, none⟩,
    ⟨some 52, .load none (.t 51), none⟩,
    ⟨some 53, .bin .lss (.t 52) (.c (.int .i64 0)), none⟩]) (.kp [4, 5, 6, 8, 53] (.cond (.t 53) (.seq (.reg [⟨some 2, .mv (.c (.sl 0 [] .nil)), none⟩,
    ⟨some 3, .mv (.c (.bool false)), none⟩]) (.ret)) (.skip)))) (c63_k3))))
def c63_k4_go {Q e n H} := @awgoK Tryz.prog _ _ c63_k4.eq_1 Q e n H
def c63_k5 : ACode := .kp [4, 5, 6, 7, 8, 9] (.seq (.reg [⟨some 44, .mv (.t 9), none⟩,
    ⟨some 45, .faddr (.t 8) 1 none, none⟩,
    ⟨none, .store none (.t 45) (.t 44), none⟩]) (.kp [4, 5, 6, 7, 8] (.reg [⟨some 46, .mv (.t 7), none⟩,
    ⟨some 47, .cutS (.t 46) none (some (.c (.int .i64 3))), none⟩,
    ⟨some 7, .mv (.t 47), none⟩])))
def c63_k5_go {Q e n H} := @awgoK Tryz.prog _ _ c63_k5.eq_1 Q e n H
def c63_t6 : ACode := .kp [4, 5, 6, 7, 8] (.seq (.reg [⟨some 28, .mv (.t 7), none⟩,
    ⟨some 29, .cutS (.t 28) (some (.c (.int .i64 4))) none, none⟩,
    ⟨some 30, .callp 61 [(.t 29)], none⟩,
    ⟨some 27, .mv (.t 30), none⟩,
    ⟨some 31, .extr (.t 27) 0, none⟩,
    ⟨some 32, .extr (.t 27) 1, none⟩,
    ⟨some 9, .mv (.t 31), none⟩,
    ⟨some 10, .mv (.t 32), none⟩]) (.kp [4, 5, 6, 7, 8, 9, 10] (.seq (.seq (.segs [⟨none, [⟨some 33, .mv (.t 7), none⟩,
      ⟨some 34, .sidx (.t 33) (.c (.int .i64 3)), none⟩,
      ⟨some 35, .bin .neq (.t 34) (.c (.int .u8 35)), none⟩,
      ⟨some 36, .mv (.t 35), none⟩], none⟩,
    ⟨some (36, false), [⟨some 37, .mv (.t 10), none⟩,
      ⟨some 38, .not (.t 37), none⟩], some (39, 38)⟩,
    ⟨none, [⟨some 40, .mv (.t 39), none⟩], none⟩,
    ⟨some (40, false), [⟨some 41, .mv (.t 9), none⟩,
      ⟨some 42, .bin .eql (.t 41) (.c (.int .i64 0)), none⟩], some (43, 42)⟩]) (.kp [4, 5, 6, 7, 8, 9, 43] (.cond (.t 43) (.seq (.reg [⟨some 2, .mv (.c (.sl 0 [] .nil)), none⟩,
    ⟨some 3, .mv (.c (.bool false)), none⟩]) (.ret)) (.skip)))) (c63_k5))))
def c63_t6_go {Q e n H} := @awgoK Tryz.prog _ _ c63_t6.eq_1 Q e n H
def c63_k7 : ACode := .kp [4, 5, 6] (.seq (.block 1 (.seq (.reg [⟨some 19, .mv (.t 5), none⟩,
    ⟨some 20, .mv (.t 6), none⟩,
    ⟨some 21, .iaddr 1 none (.t 19) (.t 20), none⟩,
    ⟨some 22, .load none (.t 21), none⟩,
    ⟨some 7, .mv (.t 22), none⟩]) (.kp [4, 5, 6, 7] (.seq (.reg [⟨some 23, .build [(.int .i64 0), (.int .i64 0)] [], none⟩,
    ⟨some 8, .alloc 56 [(.int .i64 0), (.int .i64 0)], none⟩,
    ⟨none, .store (some 2) (.t 8) (.t 23), none⟩]) (.kp [4, 5, 6, 7, 8] (.seq (.seq (.reg [⟨some 24, .mv (.t 7), none⟩,
    ⟨some 25, .lenS (.t 24), none⟩,
    ⟨some 26, .bin .gtr (.t 25) (.c (.int .i64 3)), none⟩]) (.kp [4, 5, 6, 7, 8, 26] (.cond (.t 26) (c63_t6) (.skip)))) (c63_k4))))))) (c63_k2))
def c63_k7_go {Q e n H} := @awgoK Tryz.prog _ _ c63_k7.eq_1 Q e n H
def c63_L8 : ACode := .ke [4, 5, 6] (.seq (.seq (.reg [⟨some 13, .mv (.t 6), none⟩,
    ⟨some 14, .mv (.t 5), none⟩,
    ⟨some 15, .len (.t 14), none⟩,
    ⟨some 16, .bin .lss (.t 13) (.t 15), none⟩]) (.kp [4, 5, 6, 16] (.cond (.t 16) (.skip) (.exit 0)))) (c63_k7))
def c63_L8_go {Q e n H} := @awgoK Tryz.prog _ _ c63_L8.eq_1 Q e n H
def c63 : AFun := { nargs := 1, nt := 59, res := [.tmp 2, .tmp 3], code := .seq (.reg [⟨some 2, .mv (.c (.sl 0 [] .nil)), none⟩,
    ⟨some 3, .mv (.c (.bool false)), none⟩]) (.kp [0] (.seq (.reg [⟨some 4, .mv (.c (.sl 0 [] .nil)), none⟩]) (.kp [0, 4] (.seq (.reg [⟨some 11, .mv (.t 0), none⟩,
    ⟨some 12, .callp 60 [(.t 11), (.c (.int .u8 44))], none⟩,
    ⟨some 5, .mv (.t 12), none⟩]) (.kp [4, 5] (.seq (.seq (.reg [⟨some 6, .mv (.c (.int .i64 0)), none⟩]) (.kp [4, 5, 6] (.block 0 (.kp [4, 5, 6] (.loop c63_L8))))) (c63_k1))))))) }
theorem cmp63 : (cFun Tryz.prog efs Tryz.f63).map (fun x => (x.nargs, x.nt, x.res, x.code)) = some (c63.nargs, c63.nt, c63.res, bare c63.code) := by kernel_rfl
end Go.Proofs.YtecpfmhminkalaaGreatDoor
namespace Go.Proofs.YtecpfmhminkalaaGreatDoor
theorem awgoL {P : Program} {c d : ACode} (h : c = d) {Q : AExit → AS → Prop} {e : AEnv} {n : Nat} {H : AHeap} : aw P c Q ⟨e, n, H⟩ = aw P d Q ⟨e, n, H⟩ := by rw [h]
def c21_k1 : ACode := .kp [2, 3, 7] (.seq (.reg [⟨some 170, .load (some 8) (.t 7), none⟩,
    ⟨some 171, .callp 12 [(.c (.int .i64 0)), (.c (.int .i64 0))], none⟩,
    ⟨none, .store (some 8) (.t 2) (.t 170), none⟩,
    ⟨none, .store (some 2) (.t 3) (.t 171), none⟩]) (.ret))
def c21_k1_go {Q e n H} := @awgoL Tryz.prog _ _ c21_k1.eq_1 Q e n H
def c21_k2 : ACode := .kp [2, 3, 4, 7] (.seq (.seq (.reg [⟨some 163, .load (some 8) (.t 7), none⟩,
    ⟨some 164, .callp 9 [(.t 163)], none⟩,
    ⟨some 16, .alloc 27 [(.int .i64 0), (.int .i64 0)], none⟩,
    ⟨none, .store (some 2) (.t 16) (.t 164), none⟩]) (.kp [2, 3, 4, 7, 16] (.seq (.reg [⟨some 165, .faddr (.t 16) 0 none, none⟩,
    ⟨some 166, .load none (.t 165), none⟩,
    ⟨some 167, .bin .neq (.t 166) (.c (.int .i64 0)), none⟩]) (.kp [2, 3, 4, 7, 16, 167] (.cond (.t 167) (.seq (.regD [2, 3] [⟨some 168, .load (some 8) (.t 4), none⟩,
    ⟨some 169, .load (some 2) (.t 16), none⟩,
    ⟨none, .store (some 8) (.t 2) (.t 168), none⟩,
    ⟨none, .store (some 2) (.t 3) (.t 169), none⟩]) (.ret)) (.skip)))))) (c21_k1))
def c21_k2_go {Q e n H} := @awgoL Tryz.prog _ _ c21_k2.eq_1 Q e n H
def c21_k3 : ACode := .kp [2, 3, 4, 5, 6, 7, 11] (.seq (.seq (.reg [⟨some 157, .mv (.t 11), none⟩,
    ⟨some 158, .mv (.t 6), none⟩,
    ⟨some 159, .len (.t 158), none⟩,
    ⟨some 160, .bin .neq (.t 157) (.t 159), none⟩]) (.kp [2, 3, 4, 5, 7, 160] (.cond (.t 160) (.seq (.regD [2, 3] [⟨some 161, .load (some 8) (.t 4), none⟩,
    ⟨some 162, .load (some 2) (.t 5), none⟩,
    ⟨none, .store (some 8) (.t 2) (.t 161), none⟩,
    ⟨none, .store (some 2) (.t 3) (.t 162), none⟩]) (.ret)) (.skip)))) (c21_k2))
def c21_k3_go {Q e n H} := @awgoL Tryz.prog _ _ c21_k3.eq_1 Q e n H
def c21_k4 : ACode := .kp [2, 3, 4, 5, 6, 7, 11, 12, 13] (.reg [⟨some 73, .mv (.t 13), none⟩,
    ⟨some 74, .bin .add (.t 73) (.c (.int .i64 1)), none⟩,
    ⟨some 13, .mv (.t 74), none⟩])
def c21_k4_go {Q e n H} := @awgoL Tryz.prog _ _ c21_k4.eq_1 Q e n H
def c21_k5 : ACode := .kp [2, 3, 4, 5, 6, 7, 11, 12, 13] (.reg [⟨some 155, .mv (.t 11), none⟩,
    ⟨some 156, .bin .add (.t 155) (.c (.int .i64 2)), none⟩,
    ⟨some 11, .mv (.t 156), none⟩])
def c21_k5_go {Q e n H} := @awgoL Tryz.prog _ _ c21_k5.eq_1 Q e n H
def c21_e6 : ACode := .kp [2, 3, 4, 5, 6, 7, 11, 12, 13, 14] (.seq (.reg [⟨some 149, .mv (.t 13), none⟩,
    ⟨some 150, .bin .eql (.t 149) (.c (.int .i64 5)), none⟩]) (.kp [2, 3, 4, 5, 6, 7, 11, 12, 13, 14, 150] (.cond (.t 150) (.reg [⟨some 151, .mv (.t 14), none⟩,
    ⟨some 152, .iaddr 1 none (.t 151) (.c (.int .i64 0)), none⟩,
    ⟨some 153, .load none (.t 152), none⟩,
    ⟨some 154, .faddr (.t 7) 7 none, none⟩,
    ⟨none, .store none (.t 154) (.t 153), none⟩]) (.skip))))
def c21_e6_go {Q e n H} := @awgoL Tryz.prog _ _ c21_e6.eq_1 Q e n H
def c21_e7 : ACode := .kp [2, 3, 4, 5, 6, 7, 11, 12, 13, 14] (.seq (.reg [⟨some 143, .mv (.t 13), none⟩,
    ⟨some 144, .bin .eql (.t 143) (.c (.int .i64 4)), none⟩]) (.kp [2, 3, 4, 5, 6, 7, 11, 12, 13, 14, 144] (.cond (.t 144) (.reg [⟨some 145, .mv (.t 14), none⟩,
    ⟨some 146, .iaddr 1 none (.t 145) (.c (.int .i64 0)), none⟩,
    ⟨some 147, .load none (.t 146), none⟩,
    ⟨some 148, .faddr (.t 7) 6 none, none⟩,
    ⟨none, .store none (.t 148) (.t 147), none⟩]) (c21_e6))))
def c21_e7_go {Q e n H} := @awgoL Tryz.prog _ _ c21_e7.eq_1 Q e n H
def c21_e8 : ACode := .kp [2, 3, 4, 5, 6, 7, 11, 12, 13, 14] (.seq (.reg [⟨some 139, .mv (.t 13), none⟩,
    ⟨some 140, .bin .eql (.t 139) (.c (.int .i64 3)), none⟩]) (.kp [2, 3, 4, 5, 6, 7, 11, 12, 13, 14, 140] (.cond (.t 140) (.reg [⟨some 141, .mv (.t 14), none⟩,
    ⟨some 142, .faddr (.t 7) 5 none, none⟩,
    ⟨none, .store none (.t 142) (.t 141), none⟩]) (c21_e7))))
def c21_e8_go {Q e n H} := @awgoL Tryz.prog _ _ c21_e8.eq_1 Q e n H
def c21_e9 : ACode := .kp [2, 3, 4, 5, 6, 7, 11, 12, 13, 14] (.seq (.reg [⟨some 135, .mv (.t 13), none⟩,
    ⟨some 136, .bin .eql (.t 135) (.c (.int .i64 1)), none⟩]) (.kp [2, 3, 4, 5, 6, 7, 11, 12, 13, 14, 136] (.cond (.t 136) (.reg [⟨some 137, .mv (.t 14), none⟩,
    ⟨some 138, .faddr (.t 7) 3 none, none⟩,
    ⟨none, .store none (.t 138) (.t 137), none⟩]) (c21_e8))))
def c21_e9_go {Q e n H} := @awgoL Tryz.prog _ _ c21_e9.eq_1 Q e n H
def c21_k10 : ACode := .kp [2, 3, 4, 5, 6, 7, 11, 12, 13, 14] (.seq (.seq (.reg [⟨some 131, .mv (.t 13), none⟩,
    ⟨some 132, .bin .eql (.t 131) (.c (.int .i64 0)), none⟩]) (.kp [2, 3, 4, 5, 6, 7, 11, 12, 13, 14, 132] (.cond (.t 132) (.reg [⟨some 133, .mv (.t 14), none⟩,
    ⟨some 134, .faddr (.t 7) 2 none, none⟩,
    ⟨none, .store none (.t 134) (.t 133), none⟩]) (c21_e9)))) (c21_k5))
def c21_k10_go {Q e n H} := @awgoL Tryz.prog _ _ c21_k10.eq_1 Q e n H
def c21_k11 : ACode := .kp [2, 3, 4, 5, 6, 7, 11, 12, 13, 14, 15] (.seq (.seq (.segs [⟨none, [⟨some 112, .mv (.t 15), none⟩,
      ⟨some 113, .not (.t 112), none⟩,
      ⟨some 114, .mv (.t 113), none⟩], none⟩,
    ⟨some (114, false), [⟨some 115, .mv (.t 13), none⟩,
      ⟨some 116, .bin .gtr (.t 115) (.c (.int .i64 3)), none⟩,
      ⟨some 117, .mv (.t 116), none⟩], none⟩,
    ⟨some (117, true), [⟨some 118, .mv (.t 14), none⟩,
      ⟨some 119, .len (.t 118), none⟩,
      ⟨some 120, .bin .neq (.t 119) (.c (.int .i64 1)), none⟩,
      ⟨some 121, .mv (.t 120), none⟩], none⟩,
    ⟨some (121, false), [⟨some 122, .mv (.t 14), none⟩,
      ⟨some 123, .iaddr 1 none (.t 122) (.c (.int .i64 0)), none⟩,
      ⟨some 124, .load none (.t 123), none⟩,
      ⟨some 125, .bin .eql (.t 124) (.c (.int .i64 0)), none⟩], none⟩,
    ⟨some (117, true), [⟨some 126, .pick (.t 121) (.c (.bool true)) (.t 125), none⟩], none⟩,
    ⟨some (114, false), [⟨some 127, .pick (.t 117) (.t 126) (.c (.bool false)), none⟩], some (128, 127)⟩]) (.kp [2, 3, 4, 5, 6, 7, 11, 12, 13, 14, 128] (.cond (.t 128) (.seq (.regD [2, 3] [⟨some 129, .load (some 8) (.t 4), none⟩,
    ⟨some 130, .load (some 2) (.t 5), none⟩,
    ⟨none, .store (some 8) (.t 2) (.t 129), none⟩,
    ⟨none, .store (some 2) (.t 3) (.t 130), none⟩]) (.ret)) (.skip)))) (c21_k10))
def c21_k11_go {Q e n H} := @awgoL Tryz.prog _ _ c21_k11.eq_1 Q e n H
def c21_k12 : ACode := .kp [2, 3, 4, 5, 6, 7, 11, 12, 13] (.seq (.reg [⟨some 92, .mv (.t 6), none⟩,
    ⟨some 93, .mv (.t 11), none⟩,
    ⟨some 94, .bin .add (.t 93) (.c (.int .i64 1)), none⟩,
    ⟨some 95, .iaddr 1 none (.t 92) (.t 94), none⟩,
    ⟨some 96, .load none (.t 95), none⟩,
    ⟨some 97, .callp 62 [(.t 96)], none⟩,
    ⟨some 91, .mv (.t 97), none⟩,
    ⟨some 98, .extr (.t 91) 0, none⟩,
    ⟨some 99, .extr (.t 91) 1, none⟩,
    ⟨some 14, .mv (.t 98), none⟩,
    ⟨some 15, .mv (.t 99), none⟩]) (.kp [2, 3, 4, 5, 6, 7, 11, 12, 13, 14, 15] (.seq (.seq (.reg [⟨some 100, .mv (.t 13), none⟩,
    ⟨some 101, .bin .eql (.t 100) (.c (.int .i64 2)), none⟩]) (.kp [2, 3, 4, 5, 6, 7, 11, 12, 13, 14, 15, 101] (.cond (.t 101) (.reg [⟨some 103, .mv (.t 6), none⟩,
    ⟨some 104, .mv (.t 11), none⟩,
    ⟨some 105, .bin .add (.t 104) (.c (.int .i64 1)), none⟩,
    ⟨some 106, .iaddr 1 none (.t 103) (.t 105), none⟩,
    ⟨some 107, .load none (.t 106), none⟩,
    ⟨some 108, .callp 63 [(.t 107)], none⟩,
    ⟨some 102, .mv (.t 108), none⟩,
    ⟨some 109, .extr (.t 102) 0, none⟩,
    ⟨some 110, .extr (.t 102) 1, none⟩,
    ⟨some 111, .faddr (.t 7) 4 none, none⟩,
    ⟨none, .store none (.t 111) (.t 109), none⟩,
    ⟨some 15, .mv (.t 110), none⟩]) (.skip)))) (c21_k11))))
def c21_k12_go {Q e n H} := @awgoL Tryz.prog _ _ c21_k12.eq_1 Q e n H
def c21_k13 : ACode := .kp [2, 3, 4, 5, 6, 7, 11, 12, 13] (.seq (.block 3 (.seq (.seq (.segs [⟨none, [⟨some 75, .mv (.t 11), none⟩,
      ⟨some 76, .bin .add (.t 75) (.c (.int .i64 1)), none⟩,
      ⟨some 77, .mv (.t 6), none⟩,
      ⟨some 78, .len (.t 77), none⟩,
      ⟨some 79, .bin .geq (.t 76) (.t 78), none⟩,
      ⟨some 80, .mv (.t 79), none⟩], none⟩,
    ⟨some (80, false), [⟨some 81, .mv (.t 6), none⟩,
      ⟨some 82, .mv (.t 11), none⟩,
      ⟨some 83, .iaddr 1 none (.t 81) (.t 82), none⟩,
      ⟨some 84, .load none (.t 83), none⟩,
      ⟨some 85, .mv (.t 12), none⟩,
      ⟨some 86, .mv (.t 13), none⟩,
      ⟨some 87, .iaddr 1 none (.t 85) (.t 86), none⟩,
      ⟨some 88, .load none (.t 87), none⟩,
      ⟨some 89, .bin .neq (.t 84) (.t 88), none⟩], some (90, 89)⟩]) (.kp [2, 3, 4, 5, 6, 7, 11, 12, 13, 90] (.cond (.t 90) (.exit 3) (.skip)))) (c21_k12))) (c21_k4))
def c21_k13_go {Q e n H} := @awgoL Tryz.prog _ _ c21_k13.eq_1 Q e n H
def c21_L14 : ACode := .ke [2, 3, 4, 5, 6, 7, 11, 12, 13] (.seq (.seq (.reg [⟨some 69, .mv (.t 13), none⟩,
    ⟨some 70, .mv (.t 12), none⟩,
    ⟨some 71, .len (.t 70), none⟩,
    ⟨some 72, .bin .lss (.t 69) (.t 71), none⟩]) (.kp [2, 3, 4, 5, 6, 7, 11, 12, 13, 72] (.cond (.t 72) (.skip) (.exit 2)))) (c21_k13))
def c21_L14_go {Q e n H} := @awgoL Tryz.prog _ _ c21_L14.eq_1 Q e n H
def c21_k15 : ACode := .kp [2, 3, 4, 5, 6, 7] (.seq (.reg [⟨some 11, .mv (.c (.int .i64 3)), none⟩]) (.kp [2, 3, 4, 5, 6, 7, 11] (.seq (.reg [⟨some 68, .bsl 9 none [(.c (.str [109, 111, 110, 116, 104, 115])), (.c (.str [100, 97, 121, 115])), (.c (.str [111, 110])), (.c (.str [112, 105, 99, 107, 115])), (.c (.str [99, 111, 117, 110, 116])), (.c (.str [117, 110, 116, 105, 108]))], none⟩,
    ⟨some 12, .mv (.t 68), none⟩]) (.kp [2, 3, 4, 5, 6, 7, 11, 12] (.seq (.seq (.reg [⟨some 13, .mv (.c (.int .i64 0)), none⟩]) (.kp [2, 3, 4, 5, 6, 7, 11, 12, 13] (.block 2 (.kp [2, 3, 4, 5, 6, 7, 11, 12, 13] (.loop c21_L14))))) (c21_k3))))))
def c21_k15_go {Q e n H} := @awgoL Tryz.prog _ _ c21_k15.eq_1 Q e n H
def c21_k16 : ACode := .kp [2, 3, 4, 5, 6, 7] (.seq (.seq (.reg [⟨some 63, .faddr (.t 7) 0 none, none⟩,
    ⟨some 64, .load none (.t 63), none⟩,
    ⟨some 65, .bin .eql (.t 64) (.c (.int .i64 0)), none⟩]) (.kp [2, 3, 4, 5, 6, 7, 65] (.cond (.t 65) (.seq (.regD [2, 3] [⟨some 66, .load (some 8) (.t 4), none⟩,
    ⟨some 67, .load (some 2) (.t 5), none⟩,
    ⟨none, .store (some 8) (.t 2) (.t 66), none⟩,
    ⟨none, .store (some 2) (.t 3) (.t 67), none⟩]) (.ret)) (.skip)))) (c21_k15))
def c21_k16_go {Q e n H} := @awgoL Tryz.prog _ _ c21_k16.eq_1 Q e n H
def c21_k17 : ACode := .kp [2, 3, 4, 5, 6, 7, 10] (.reg [⟨some 53, .mv (.t 10), none⟩,
    ⟨some 54, .bin .add (.t 53) (.c (.int .i64 1)), none⟩,
    ⟨some 10, .mv (.t 54), none⟩])
def c21_k17_go {Q e n H} := @awgoL Tryz.prog _ _ c21_k17.eq_1 Q e n H
def c21_k18 : ACode := .kp [2, 3, 4, 5, 6, 7, 10] (.seq (.block 1 (.seq (.reg [⟨some 55, .mv (.t 10), none⟩,
    ⟨some 56, .callp 58 [(.t 55)], none⟩,
    ⟨some 57, .mv (.t 6), none⟩,
    ⟨some 58, .iaddr 1 none (.t 57) (.c (.int .i64 2)), none⟩,
    ⟨some 59, .load none (.t 58), none⟩,
    ⟨some 60, .bin .eql (.t 56) (.t 59), none⟩]) (.kp [2, 3, 4, 5, 6, 7, 10, 60] (.cond (.t 60) (.reg [⟨some 61, .mv (.t 10), none⟩,
    ⟨some 62, .faddr (.t 7) 0 none, none⟩,
    ⟨none, .store none (.t 62) (.t 61), none⟩]) (.skip))))) (c21_k17))
def c21_k18_go {Q e n H} := @awgoL Tryz.prog _ _ c21_k18.eq_1 Q e n H
def c21_L19 : ACode := .ke [2, 3, 4, 5, 6, 7, 10] (.seq (.seq (.reg [⟨some 51, .mv (.t 10), none⟩,
    ⟨some 52, .bin .leq (.t 51) (.c (.int .i64 4)), none⟩]) (.kp [2, 3, 4, 5, 6, 7, 10, 52] (.cond (.t 52) (.skip) (.exit 0)))) (c21_k18))
def c21_L19_go {Q e n H} := @awgoL Tryz.prog _ _ c21_L19.eq_1 Q e n H
def c21_k20 : ACode := .kp [2, 3, 4, 5, 6, 7, 8] (.seq (.reg [⟨some 49, .mv (.t 8), none⟩,
    ⟨some 50, .faddr (.t 7) 1 none, none⟩,
    ⟨none, .store none (.t 50) (.t 49), none⟩]) (.kp [2, 3, 4, 5, 6, 7] (.seq (.seq (.reg [⟨some 10, .mv (.c (.int .i64 1)), none⟩]) (.kp [2, 3, 4, 5, 6, 7, 10] (.block 0 (.kp [2, 3, 4, 5, 6, 7, 10] (.loop c21_L19))))) (c21_k16))))
def c21_k20_go {Q e n H} := @awgoL Tryz.prog _ _ c21_k20.eq_1 Q e n H
def c21_k21 : ACode := .kp [2, 3, 4, 5, 6] (.seq (.reg [⟨some 37, .build [(.int .i64 0), (.int .i64 0), (.sl 0 [] .nil), (.sl 0 [] .nil), (.sl 0 [] .nil), (.sl 0 [] .nil), (.int .i64 0), (.int .i64 0)] [], none⟩,
    ⟨some 7, .alloc 25 [(.int .i64 0), (.int .i64 0), (.sl 0 [] .nil), (.sl 0 [] .nil), (.sl 0 [] .nil), (.sl 0 [] .nil), (.int .i64 0), (.int .i64 0)], none⟩,
    ⟨none, .store (some 8) (.t 7) (.t 37), none⟩]) (.kp [2, 3, 4, 5, 6, 7] (.seq (.reg [⟨some 39, .mv (.t 6), none⟩,
    ⟨some 40, .iaddr 1 none (.t 39) (.c (.int .i64 1)), none⟩,
    ⟨some 41, .load none (.t 40), none⟩,
    ⟨some 42, .callp 61 [(.t 41)], none⟩,
    ⟨some 38, .mv (.t 42), none⟩,
    ⟨some 43, .extr (.t 38) 0, none⟩,
    ⟨some 44, .extr (.t 38) 1, none⟩,
    ⟨some 8, .mv (.t 43), none⟩,
    ⟨some 9, .mv (.t 44), none⟩]) (.kp [2, 3, 4, 5, 6, 7, 8, 9] (.seq (.seq (.reg [⟨some 45, .mv (.t 9), none⟩,
    ⟨some 46, .not (.t 45), none⟩]) (.kp [2, 3, 4, 5, 6, 7, 8, 46] (.cond (.t 46) (.seq (.regD [2, 3] [⟨some 47, .load (some 8) (.t 4), none⟩,
    ⟨some 48, .load (some 2) (.t 5), none⟩,
    ⟨none, .store (some 8) (.t 2) (.t 47), none⟩,
    ⟨none, .store (some 2) (.t 3) (.t 48), none⟩]) (.ret)) (.skip)))) (c21_k20))))))
def c21_k21_go {Q e n H} := @awgoL Tryz.prog _ _ c21_k21.eq_1 Q e n H
def c21_k22 : ACode := .kp [0, 2, 3, 4] (.seq (.reg [⟨some 23, .callp 12 [(.c (.int .i64 1)), (.c (.int .i64 (-1)))], none⟩,
    ⟨some 5, .alloc 27 [(.int .i64 0), (.int .i64 0)], none⟩,
    ⟨none, .store (some 2) (.t 5) (.t 23), none⟩]) (.kp [0, 2, 3, 4, 5] (.seq (.reg [⟨some 24, .mv (.t 0), none⟩,
    ⟨some 25, .callp 60 [(.t 24), (.c (.int .u8 32))], none⟩,
    ⟨some 6, .mv (.t 25), none⟩]) (.kp [2, 3, 4, 5, 6] (.seq (.seq (.segs [⟨none, [⟨some 26, .mv (.t 6), none⟩,
      ⟨some 27, .len (.t 26), none⟩,
      ⟨some 28, .bin .lss (.t 27) (.c (.int .i64 3)), none⟩,
      ⟨some 29, .mv (.t 28), none⟩], none⟩,
    ⟨some (29, false), [⟨some 30, .mv (.t 6), none⟩,
      ⟨some 31, .iaddr 1 none (.t 30) (.c (.int .i64 0)), none⟩,
      ⟨some 32, .load none (.t 31), none⟩,
      ⟨some 33, .bin .neq (.t 32) (.c (.str [101, 118, 101, 114, 121])), none⟩], some (34, 33)⟩]) (.kp [2, 3, 4, 5, 6, 34] (.cond (.t 34) (.seq (.regD [2, 3] [⟨some 35, .load (some 8) (.t 4), none⟩,
    ⟨some 36, .load (some 2) (.t 5), none⟩,
    ⟨none, .store (some 8) (.t 2) (.t 35), none⟩,
    ⟨none, .store (some 2) (.t 3) (.t 36), none⟩]) (.ret)) (.skip)))) (c21_k21))))))
def c21_k22_go {Q e n H} := @awgoL Tryz.prog _ _ c21_k22.eq_1 Q e n H
def c21 : AFun := { nargs := 1, nt := 172, res := [.cell 2 (some 8), .cell 3 (some 2)], code := .seq (.reg [⟨some 2, .alloc 25 [(.int .i64 0), (.int .i64 0), (.sl 0 [] .nil), (.sl 0 [] .nil), (.sl 0 [] .nil), (.sl 0 [] .nil), (.int .i64 0), (.int .i64 0)], none⟩,
    ⟨some 3, .alloc 27 [(.int .i64 0), (.int .i64 0)], none⟩]) (.kp [0, 2, 3] (.seq (.reg [⟨some 17, .build [(.int .i64 0), (.int .i64 0), (.sl 0 [] .nil), (.sl 0 [] .nil), (.sl 0 [] .nil), (.sl 0 [] .nil), (.int .i64 0), (.int .i64 0)] [], none⟩,
    ⟨some 4, .alloc 25 [(.int .i64 0), (.int .i64 0), (.sl 0 [] .nil), (.sl 0 [] .nil), (.sl 0 [] .nil), (.sl 0 [] .nil), (.int .i64 0), (.int .i64 0)], none⟩,
    ⟨none, .store (some 8) (.t 4) (.t 17), none⟩]) (.kp [0, 2, 3, 4] (.seq (.seq (.reg [⟨some 18, .mv (.t 0), none⟩,
    ⟨some 19, .lenS (.t 18), none⟩,
    ⟨some 20, .bin .gtr (.t 19) (.c (.int .i64 500)), none⟩]) (.kp [0, 2, 3, 4, 20] (.cond (.t 20) (.seq (.reg [⟨some 21, .load (some 8) (.t 4), none⟩,
    ⟨some 22, .callp 12 [(.c (.int .i64 3)), (.c (.int .i64 (-1)))], none⟩,
    ⟨none, .store (some 8) (.t 2) (.t 21), none⟩,
    ⟨none, .store (some 2) (.t 3) (.t 22), none⟩]) (.ret)) (.skip)))) (c21_k22))))) }
theorem cmp21 : (cFun Tryz.prog efs Tryz.f21).map (fun x => (x.nargs, x.nt, x.res, x.code)) = some (c21.nargs, c21.nt, c21.res, bare c21.code) := by kernel_rfl
def c6_k1 : ACode := .kp [0, 3] (.seq (.reg [⟨some 33, .load (some 8) (.t 3), none⟩,
    ⟨some 34, .callp 17 [(.t 33)], none⟩,
    ⟨some 32, .mv (.t 34), none⟩,
    ⟨some 35, .extr (.t 32) 0, none⟩,
    ⟨some 36, .extr (.t 32) 1, none⟩,
    ⟨some 8, .alloc 27 [(.int .i64 0), (.int .i64 0)], none⟩,
    ⟨some 7, .mv (.t 35), none⟩,
    ⟨none, .store (some 2) (.t 8) (.t 36), none⟩]) (.kp [0, 7, 8] (.seq (.segs [⟨none, [⟨some 37, .faddr (.t 8) 0 none, none⟩,
      ⟨some 38, .load none (.t 37), none⟩,
      ⟨some 39, .bin .eql (.t 38) (.c (.int .i64 0)), none⟩,
      ⟨some 40, .mv (.t 39), none⟩], none⟩,
    ⟨some (40, true), [⟨some 41, .mv (.t 7), none⟩,
      ⟨some 42, .mv (.t 0), none⟩,
      ⟨some 43, .bin .eql (.t 41) (.t 42), none⟩], some (44, 43)⟩,
    ⟨none, [⟨some 45, .mv (.t 44), none⟩], none⟩,
    ⟨some (45, true), [⟨some 46, .callp 13 [], none⟩], none⟩,
    ⟨none, [⟨some 47, .pick (.t 45) (.t 46) (.c (.bool false)), none⟩,
      ⟨some 2, .mv (.t 47), none⟩], none⟩]) (.ret))))
def c6_k1_go {Q e n H} := @awgoL Tryz.prog _ _ c6_k1.eq_1 Q e n H
def c6_k2 : ACode := .kp [0, 3, 6] (.seq (.seq (.reg [⟨some 28, .faddr (.t 6) 0 none, none⟩,
    ⟨some 29, .load none (.t 28), none⟩,
    ⟨some 30, .bin .neq (.t 29) (.c (.int .i64 0)), none⟩]) (.kp [0, 3, 30] (.cond (.t 30) (.seq (.reg [⟨some 31, .callp 13 [], none⟩,
    ⟨some 2, .mv (.t 31), none⟩]) (.ret)) (.skip)))) (c6_k1))
def c6_k2_go {Q e n H} := @awgoL Tryz.prog _ _ c6_k2.eq_1 Q e n H
def c6 : AFun := { nargs := 1, nt := 48, res := [.tmp 2], code := .seq (.reg [⟨some 2, .mv (.c (.bool false)), none⟩]) (.kp [0] (.seq (.reg [⟨some 10, .mv (.t 0), none⟩,
    ⟨some 11, .callp 18 [(.t 10)], none⟩,
    ⟨some 9, .mv (.t 11), none⟩,
    ⟨some 12, .extr (.t 9) 0, none⟩,
    ⟨some 13, .extr (.t 9) 1, none⟩,
    ⟨some 3, .alloc 25 [(.int .i64 0), (.int .i64 0), (.sl 0 [] .nil), (.sl 0 [] .nil), (.sl 0 [] .nil), (.sl 0 [] .nil), (.int .i64 0), (.int .i64 0)], none⟩,
    ⟨some 4, .alloc 27 [(.int .i64 0), (.int .i64 0)], none⟩,
    ⟨none, .store (some 8) (.t 3) (.t 12), none⟩,
    ⟨none, .store (some 2) (.t 4) (.t 13), none⟩]) (.kp [0, 3, 4] (.seq (.reg [⟨some 15, .mv (.t 0), none⟩,
    ⟨some 16, .callp 21 [(.t 15)], none⟩,
    ⟨some 14, .mv (.t 16), none⟩,
    ⟨some 17, .extr (.t 14) 0, none⟩,
    ⟨some 18, .extr (.t 14) 1, none⟩,
    ⟨some 5, .alloc 25 [(.int .i64 0), (.int .i64 0), (.sl 0 [] .nil), (.sl 0 [] .nil), (.sl 0 [] .nil), (.sl 0 [] .nil), (.int .i64 0), (.int .i64 0)], none⟩,
    ⟨some 6, .alloc 27 [(.int .i64 0), (.int .i64 0)], none⟩,
    ⟨none, .store (some 8) (.t 5) (.t 17), none⟩,
    ⟨none, .store (some 2) (.t 6) (.t 18), none⟩]) (.kp [0, 3, 4, 5, 6] (.seq (.seq (.segs [⟨none, [⟨some 19, .load (some 2) (.t 4), none⟩,
      ⟨some 20, .load (some 2) (.t 6), none⟩,
      ⟨some 21, .eqs [.i, .i] true (.t 19) (.t 20), none⟩,
      ⟨some 22, .mv (.t 21), none⟩], none⟩,
    ⟨some (22, false), [⟨some 23, .load (some 8) (.t 3), none⟩,
      ⟨some 24, .load (some 8) (.t 5), none⟩,
      ⟨some 25, .callp 20 [(.t 23), (.t 24)], none⟩,
      ⟨some 26, .not (.t 25), none⟩], none⟩,
    ⟨none, [⟨some 27, .pick (.t 22) (.c (.bool true)) (.t 26), none⟩], none⟩]) (.kp [0, 3, 6, 27] (.cond (.t 27) (.seq (.reg [⟨some 2, .mv (.c (.bool false)), none⟩]) (.ret)) (.skip)))) (c6_k2))))))) }
theorem cmp6 : (cFun Tryz.prog efs Tryz.f6).map (fun x => (x.nargs, x.nt, x.res, x.code)) = some (c6.nargs, c6.nt, c6.res, bare c6.code) := by kernel_rfl
end Go.Proofs.YtecpfmhminkalaaGreatDoor
namespace Go.Proofs.YtecpfmhminkalaaGreatDoor
attribute [local simp] YL Z7 Z9 YM YN YO YP Z8 Z3 Z5 Z4 YQ YR YS YT YU YV YW YX YY YZ Ya Yb Yc Yd scV pe Ye Yf Yg Yh Yi Yj Yk Yl Ym Yn Yo spg_mv Yp Yq Yr Ys Yt Yu Yv Yw Yx Yy Yz X0 X1 X2 X3 X4 X5 X6 X7 X8 X9 spg_mm XA YD XB XC XD XE XF XG XH XI XJ XK XL XM XN XO XP XQ XR XS XT XU XV XW XX XY XZ YC Xa Xb Xc Xd Xe Xf Xg Xh Xi Xj Xk Xl Xm Xn Xo Xp Xq Xr Xs Xt Xu Xv Xw Xx List.mem_cons ZO ZN Z1 YG Zu Xy Zi Zr Zn Zp Zq Zo Zv Zw Zm Xz Q0 Zl Q1 Q2 Q4 Q5 Q6 Q7 Zs Q8 Q9 QA QB QC QD Zt Zh Zx Y1 Y2 QE QF Y3 QG Zj QH Zk Zg QI Zy Zz QJ QK QM QN QO QP QR QS Zd ZK ZI Zc Zf ZH ZM YB Z0 QT ZV ZL Ze ZC ZZ ZA Y5 ZJ Y8 Y9 Zb ZY ZU ZX Za ZT ZD ev get put Y4 ZS QU QV QW QX QY QZ ZE part ZW Qb Qc Qd isNil ZR ZQ ZB ZP YE Qe Qf Qg Qh Qi Qj Qk Ql Qm Qn Qo Qp Qq Qr Qs Qt AV.fits AV.cells ones AV.one YH YI YJ YK ZF ZG Qu Qv Qw Qx Y6 Y7 resV Z2 Qy YA u8e YF Qz V0 List.getElem?_cons_zero List.getElem?_cons_succ
set_option maxHeartbeats 4000000 in
theorem parse_t (s : Str) : APure Tryz.prog 18 [.str s] (.tup [aR (parseV s).1, aF (parseV s).2]) := by
  by_cases hlong : 500 < s.length
  · have e : parseV s = (zR, (3, -1)) := by unfold parseV; rw [if_pos hlong]
    rw [e]
    have h' : (500 : Int) < s.length := by omega
    refine apure_intro Tryz.func18 cmp18 rfl fun n H hH => ?_
    repeat' (first | (simp -implicitDefEqProofs [c18_k1_go, c18_k2_go, c18_k3_go, c18, -getElem?_pos, hlong, h', splice]) | (simp (disch := omega) only [upd_ne, Qy, if_pos, if_neg, IntWalk.i64_in, Int.tdiv_eq_ediv_of_nonneg, Int.tmod_eq_emod_of_nonneg]) | (with_reducible refine fin_r ?_ ?_ ?_) | (with_reducible exact SameB.rfl_ _ _) | (with_reducible refine SameB.upd ?_ ?_ _) | (with_reducible assumption) | (with_reducible refine newPM_of ?_) | (with_reducible refine newP_go ?_) | (with_reducible intro _g _hg) | (with_reducible refine And.intro ?_ ?_) | (with_reducible intro _hc) | omega)
    all_goals exact simA_tup (simL_cons zcells.agg (simL_refl _))
  have hsp := split_a s 32 (by omega)
  have hml := fun p => spl_mem_len 32 s p
  have hln := spl_len 32 s
  have hlong' : ¬ (500 : Int) < s.length := by omega
  have hV : parseV s = if (parseL (spl 32 s)).2 = false then (zR, (1, -1)) else if (ruleF (parseL (spl 32 s)).1).1 ≠ 0 then (zR, ruleF (parseL (spl 32 s)).1) else ((parseL (spl 32 s)).1, (0, 0)) := by unfold parseV; rw [if_neg hlong]
  generalize spl 32 s = L at *
  generalize parseV s = V at *
  have hpa := parse_a L (fun x hx => by have := hml x hx; omega) (by omega)
  obtain ⟨p1, p2⟩ := parseP_eq L
  rw [p1] at hpa
  generalize parseL L = p at *
  obtain ⟨r, ok⟩ := p
  dsimp only at *
  cases ok with
  | false =>
    rw [if_pos rfl] at hV
    subst hV
    generalize (parseP L).1 = r' at *
    refine apure_intro Tryz.func18 cmp18 rfl fun n H hH => ?_
    repeat' (first | (simp -implicitDefEqProofs [c18_k1_go, c18_k2_go, c18_k3_go, c18, -getElem?_pos, hlong, hlong', splice]) | (simp (disch := omega) only [upd_ne, Qy, if_pos, if_neg, IntWalk.i64_in, Int.tdiv_eq_ediv_of_nonneg, Int.tmod_eq_emod_of_nonneg]) | ((with_reducible refine CallP.chk (f := 56) ?_); (refine' CallP.sf ?_ (hsp) ?_); (focus first | (with_reducible exact simL_refl _) | (simp [simL, simA, simA_refl, simL_refl]; done))) | ((with_reducible refine CallP.chk (f := 55) ?_); (refine' CallP.sf ?_ (hpa) ?_); (focus first | (with_reducible exact simL_refl _) | (simp [simL, simA, simA_refl, simL_refl]; done))) | (with_reducible refine fin_r ?_ ?_ ?_) | (with_reducible exact SameB.rfl_ _ _) | (with_reducible refine SameB.upd ?_ ?_ _) | (with_reducible assumption) | (with_reducible refine newPM_of ?_) | (with_reducible refine newP_go ?_) | (with_reducible intro _g _hg) | (with_reducible refine And.intro ?_ ?_) | (with_reducible intro _hc) | omega)
    all_goals exact simA_tup (simL_cons zcells.agg (simL_refl _))
  | true =>
    rw [p2 rfl] at hpa
    have hva := validate_a r
    rw [if_neg (by simp)] at hV
    by_cases h0 : (ruleF r).1 = 0
    · rw [if_neg (by simpa using h0)] at hV
      subst hV
      generalize ruleF r = f at *
      refine apure_intro Tryz.func18 cmp18 rfl fun n H hH => ?_
      repeat' (first | (simp -implicitDefEqProofs [c18_k1_go, c18_k2_go, c18_k3_go, c18, -getElem?_pos, hlong, hlong', h0, splice]) | (simp (disch := omega) only [upd_ne, Qy, if_pos, if_neg, IntWalk.i64_in, Int.tdiv_eq_ediv_of_nonneg, Int.tmod_eq_emod_of_nonneg]) | ((with_reducible refine CallP.chk (f := 56) ?_); (refine' CallP.sf ?_ (hsp) ?_); (focus first | (with_reducible exact simL_refl _) | (simp [simL, simA, simA_refl, simL_refl]; done))) | ((with_reducible refine CallP.chk (f := 55) ?_); (refine' CallP.sf ?_ (hpa) ?_); (focus first | (with_reducible exact simL_refl _) | (simp [simL, simA, simA_refl, simL_refl]; done))) | ((with_reducible refine CallP.chk (f := 8) ?_); (refine' CallP.sf ?_ (hva) ?_); (focus first | (with_reducible exact simL_refl _) | (simp [simL, simA, simA_refl, simL_refl]; done))) | (with_reducible refine fin_r ?_ ?_ ?_) | (with_reducible exact SameB.rfl_ _ _) | (with_reducible refine SameB.upd ?_ ?_ _) | (with_reducible assumption) | (with_reducible refine newPM_of ?_) | (with_reducible refine newP_go ?_) | (with_reducible intro _g _hg) | (with_reducible refine And.intro ?_ ?_) | (with_reducible intro _hc) | omega)
      all_goals exact simA_refl _
    · rw [if_pos h0] at hV
      subst hV
      generalize ruleF r = f at *
      refine apure_intro Tryz.func18 cmp18 rfl fun n H hH => ?_
      repeat' (first | (simp -implicitDefEqProofs [c18_k1_go, c18_k2_go, c18_k3_go, c18, -getElem?_pos, hlong, hlong', h0, splice]) | (simp (disch := omega) only [upd_ne, Qy, if_pos, if_neg, IntWalk.i64_in, Int.tdiv_eq_ediv_of_nonneg, Int.tmod_eq_emod_of_nonneg]) | ((with_reducible refine CallP.chk (f := 56) ?_); (refine' CallP.sf ?_ (hsp) ?_); (focus first | (with_reducible exact simL_refl _) | (simp [simL, simA, simA_refl, simL_refl]; done))) | ((with_reducible refine CallP.chk (f := 55) ?_); (refine' CallP.sf ?_ (hpa) ?_); (focus first | (with_reducible exact simL_refl _) | (simp [simL, simA, simA_refl, simL_refl]; done))) | ((with_reducible refine CallP.chk (f := 8) ?_); (refine' CallP.sf ?_ (hva) ?_); (focus first | (with_reducible exact simL_refl _) | (simp [simL, simA, simA_refl, simL_refl]; done))) | (with_reducible refine fin_r ?_ ?_ ?_) | (with_reducible exact SameB.rfl_ _ _) | (with_reducible refine SameB.upd ?_ ?_ _) | (with_reducible assumption) | (with_reducible refine newPM_of ?_) | (with_reducible refine newP_go ?_) | (with_reducible intro _g _hg) | (with_reducible refine And.intro ?_ ?_) | (with_reducible intro _hc) | omega)
      all_goals exact simA_tup (simL_cons zcells.agg (simL_refl _))
set_option maxHeartbeats 2000000 in
theorem sameRule_a (r : Rule) (h1 : r.months.length ≤ 1000) (h2 : r.mdays.length ≤ 1000) (h3 : r.picks.length ≤ 1000) (h4 : r.wdays.length ≤ 1000) : APure Tryz.prog 20 [aR r, aR r] (.bool true) := by
  have i1 := ints_a r.months r.months (by omega)
  have i2 := ints_a r.mdays r.mdays (by omega)
  have i3 := ints_a r.picks r.picks (by omega)
  rw [decide_eq_true rfl] at i1 i2 i3
  refine apure_intro Tryz.func20 cmp20 rfl fun n H hH => ?_
  repeat' (first | (simp -implicitDefEqProofs [c20, c20_k5_go, -getElem?_pos, simA_refl, splice]) | (simp (disch := omega) only [upd_ne, Qy, if_pos, if_neg, IntWalk.i64_in, Int.tdiv_eq_ediv_of_nonneg, Int.tmod_eq_emod_of_nonneg]) | (with_reducible refine fin_r ?_ ?_ ?_) | (with_reducible exact SameB.rfl_ _ _) | (with_reducible refine SameB.upd ?_ ?_ _) | (with_reducible assumption) | (with_reducible refine newPM_of ?_) | (with_reducible refine newP_go ?_) | (with_reducible intro _g _hg) | (with_reducible refine And.intro ?_ ?_) | (with_reducible intro _hc) | omega)
  rename_i g2 hg2
  refine LoopK.go (fun q st => ∃ k : Nat, k + q = r.wdays.length ∧ st = ⟨[(2, .ptr g2 0), (3, .ptr _g 0), (5, aI k)], _g + 1, upd (upd H g2 (some (.cells 25 (aRc r)))) _g (some (.cells 25 (aRc r)))⟩) r.wdays.length ⟨0, by omega, rfl⟩ ?_
  rintro q st ⟨k, hkq, rfl⟩ J hJ
  by_cases hk : k < r.wdays.length
  · obtain ⟨w, hw⟩ : ∃ w, r.wdays[k]? = some w := ⟨_, List.getElem?_eq_getElem hk⟩
    have hw2 : (r.wdays.map aWd)[k]? = some (aWd w) := by rw [List.getElem?_map, hw]; rfl
    repeat' (first | (simp -implicitDefEqProofs [c20_k1_go, c20_k2_go, c20_k3_go, c20_L4_go, c20_k5_go, c20, -getElem?_pos, simA_refl, hw, hw2, splice]) | (simp (disch := omega) only [upd_ne, Qy, if_pos, if_neg, IntWalk.i64_in, Int.tdiv_eq_ediv_of_nonneg, Int.tmod_eq_emod_of_nonneg]) | (with_reducible refine fin_r ?_ ?_ ?_) | (with_reducible exact SameB.rfl_ _ _) | (with_reducible refine SameB.upd ?_ ?_ _) | (with_reducible assumption) | (with_reducible refine newPM_of ?_) | (with_reducible refine newP_go ?_) | (with_reducible intro _g _hg) | (with_reducible refine And.intro ?_ ?_) | (with_reducible intro _hc) | omega)
    exact hJ (q - 1) _ (by omega) ⟨k + 1, by omega, rfl⟩
  · have hk0 : k = r.wdays.length := by omega
    subst hk0
    repeat' (first | (simp -implicitDefEqProofs [c20_k1_go, c20_k2_go, c20_k3_go, c20_L4_go, c20_k5_go, c20, -getElem?_pos, simA_refl, splice]) | (simp (disch := omega) only [upd_ne, Qy, if_pos, if_neg, IntWalk.i64_in, Int.tdiv_eq_ediv_of_nonneg, Int.tmod_eq_emod_of_nonneg]) | ((with_reducible refine CallP.chk (f := 14) ?_); (refine' CallP.sf ?_ (i1) ?_); (focus first | (with_reducible exact simL_refl _) | (simp [simL, simA, simA_refl, simL_refl]; done))) | ((with_reducible refine CallP.chk (f := 14) ?_); (refine' CallP.sf ?_ (i2) ?_); (focus first | (with_reducible exact simL_refl _) | (simp [simL, simA, simA_refl, simL_refl]; done))) | ((with_reducible refine CallP.chk (f := 14) ?_); (refine' CallP.sf ?_ (i3) ?_); (focus first | (with_reducible exact simL_refl _) | (simp [simL, simA, simA_refl, simL_refl]; done))) | (with_reducible refine fin_r ?_ ?_ ?_) | (with_reducible exact SameB.rfl_ _ _) | (with_reducible refine SameB.upd ?_ ?_ _) | (with_reducible assumption) | (with_reducible refine newPM_of ?_) | (with_reducible refine newP_go ?_) | (with_reducible intro _g _hg) | (with_reducible refine And.intro ?_ ?_) | (with_reducible intro _hc) | omega)
end Go.Proofs.YtecpfmhminkalaaGreatDoor
namespace Go.Proofs.YtecpfmhminkalaaGreatDoor
abbrev aB (c : UInt8) : AV := .int .u8 c.toNat
attribute [local simp] YL Z7 Z9 YM YN YO YP Z8 Z3 Z5 Z4 YQ YR YS YT YU YV YW YX YY YZ Ya Yb Yc Yd scV pe Ye Yf Yg Yh Yi Yj Yk Yl Ym Yn Yo spg_mv Yp Yq Yr Ys Yt Yu Yv Yw Yx Yy Yz X0 X1 X2 X3 X4 X5 X6 X7 X8 X9 spg_mm XA YD XB XC XD XE XF XG XH XI XJ XK XL XM XN XO XP XQ XR XS XT XU XV XW XX XY XZ YC Xa Xb Xc Xd Xe Xf Xg Xh Xi Xj Xk Xl Xm Xn Xo Xp Xq Xr Xs Xt Xu Xv Xw Xx List.mem_cons ZO ZN Z1 YG Zu Xy Zi Zr Zn Zp Zq Zo Zv Zw Zm Xz Q0 Zl Q1 Q2 Q4 Q5 Q6 Q7 Zs Q8 Q9 QA QB QC QD Zt Zh Zx Y1 Y2 QE QF Y3 QG Zj QH Zk Zg QI Zy Zz QJ QK QM QN QO QP QR QS Zd ZK ZI Zc Zf ZH ZM YB Z0 QT ZV ZL Ze ZC ZZ ZA Y5 ZJ Y8 Y9 Zb ZY ZU ZX Za ZT ZD ev get put Y4 ZS QU QV QW QX QY QZ ZE part ZW Qb Qc Qd isNil ZR ZQ ZB ZP YE Qe Qf Qg Qh Qi Qj Qk Ql Qm Qn Qo Qp Qq Qr Qs Qt AV.fits AV.cells ones AV.one YH YI YJ YK ZF ZG Qu Qv Qw Qx Y6 Y7 resV Z2 Qy YA u8e YF Qz V0 List.getElem?_cons_zero List.getElem?_cons_succ
theorem digit_a (c : UInt8) : APure Tryz.prog 97 [aB c] (.bool (isDig c)) := by
  unfold isDig
  by_cases h1 : 48 ≤ c.toNat
  · by_cases h2 : c.toNat ≤ 57
    · have h1' : (48 : Int) ≤ (c.toNat : Int) := by omega
      have h2' : (c.toNat : Int) ≤ 57 := by omega
      rw [decide_eq_true (⟨h1, h2⟩ : 48 ≤ c.toNat ∧ c.toNat ≤ 57)]
      refine apure_intro Tryz.func97 cmp97 rfl fun n H hH => ?_
      repeat' (first | (simp -implicitDefEqProofs [c97, -getElem?_pos, simA, h1', h2']) | (simp (disch := omega) only [upd_ne, Qy, if_pos, if_neg, IntWalk.i64_in, Int.tdiv_eq_ediv_of_nonneg, Int.tmod_eq_emod_of_nonneg]) | (with_reducible refine fin_r ?_ ?_ ?_) | (with_reducible exact SameB.rfl_ _ _) | (with_reducible refine SameB.upd ?_ ?_ _) | (with_reducible assumption) | (with_reducible intro _g _hg) | (with_reducible refine And.intro ?_ ?_) | (with_reducible intro _hc) | omega)
    · have h1' : (48 : Int) ≤ (c.toNat : Int) := by omega
      have h2' : ¬ (c.toNat : Int) ≤ 57 := by omega
      rw [decide_eq_false (fun h => h2 h.2 : ¬ (48 ≤ c.toNat ∧ c.toNat ≤ 57))]
      refine apure_intro Tryz.func97 cmp97 rfl fun n H hH => ?_
      repeat' (first | (simp -implicitDefEqProofs [c97, -getElem?_pos, simA, h1', h2']) | (simp (disch := omega) only [upd_ne, Qy, if_pos, if_neg, IntWalk.i64_in, Int.tdiv_eq_ediv_of_nonneg, Int.tmod_eq_emod_of_nonneg]) | (with_reducible refine fin_r ?_ ?_ ?_) | (with_reducible exact SameB.rfl_ _ _) | (with_reducible refine SameB.upd ?_ ?_ _) | (with_reducible assumption) | (with_reducible intro _g _hg) | (with_reducible refine And.intro ?_ ?_) | (with_reducible intro _hc) | omega)
  · have h1' : ¬ (48 : Int) ≤ (c.toNat : Int) := by omega
    rw [decide_eq_false (fun h => h1 h.1 : ¬ (48 ≤ c.toNat ∧ c.toNat ≤ 57))]
    refine apure_intro Tryz.func97 cmp97 rfl fun n H hH => ?_
    repeat' (first | (simp -implicitDefEqProofs [c97, -getElem?_pos, simA, h1']) | (simp (disch := omega) only [upd_ne, Qy, if_pos, if_neg, IntWalk.i64_in, Int.tdiv_eq_ediv_of_nonneg, Int.tmod_eq_emod_of_nonneg]) | (with_reducible refine fin_r ?_ ?_ ?_) | (with_reducible exact SameB.rfl_ _ _) | (with_reducible refine SameB.upd ?_ ?_ _) | (with_reducible assumption) | (with_reducible intro _g _hg) | (with_reducible refine And.intro ?_ ?_) | (with_reducible intro _hc) | omega)
theorem natV_bound {l : Str} (hl : ∀ c ∈ l, isDig c = true) (h9 : l.length ≤ 9) : natV 0 l ≤ 999999999 := by
  have h1 := natV_small l hl 0
  have h2 : 10 ^ l.length ≤ 10 ^ 9 := Nat.pow_le_pow_right (by omega) h9
  omega
theorem isDig_nat {c : UInt8} (h : isDig c = true) : 48 ≤ c.toNat ∧ c.toNat ≤ 57 := by unfold isDig at h; simpa using h
theorem numR_eq (s : Str) (f : Nat) (hf : f = if s.head? = some 45 then 1 else 0) : numR s = if (s.drop f).all isDig = true ∧ (s.drop f).length ≤ 9 then ((if f = 1 then -(natV 0 (s.drop f) : Int) else natV 0 (s.drop f)), decide (f < s.length) && decide (Lib.itoa (if f = 1 then -(natV 0 (s.drop f) : Int) else natV 0 (s.drop f)) = s)) else (0, false) := by
  unfold numR; rw [hf]
theorem byte45 (c : UInt8) : c = 45 ↔ (c.toNat : Int) = 45 := by
  constructor
  · rintro rfl; decide
  · intro h
    have : c.toNat = (45 : UInt8).toNat := by have : (45 : UInt8).toNat = 45 := by decide
                                              omega
    exact UInt8.toNat_inj.1 this
theorem take_snoc {l : Str} {i : Nat} {y : UInt8} (h : l[i]? = some y) : l.take (i + 1) = l.take i ++ [y] := by rw [List.take_add_one, h]; rfl
set_option maxHeartbeats 2000000 in
theorem number_r (s : Str) (hs : s.length ≤ 1000000) : APure Tryz.prog 61 [.str s] (.tup [aI (numR s).1, .bool (numR s).2]) := by
  have hcase : (s.length = 0 ∧ s.head? ≠ some 45) ∨ (∃ c, 0 < s.length ∧ s[0]? = some c ∧ ¬ (c.toNat : Int) = 45 ∧ s.head? ≠ some 45) ∨ (∃ c, 0 < s.length ∧ s[0]? = some c ∧ (c.toNat : Int) = 45 ∧ s.head? = some 45) := by
    cases s with
    | nil => exact .inl ⟨rfl, by simp⟩
    | cons c r =>
      by_cases h : c = 45
      · exact .inr (.inr ⟨c, by simp, rfl, (byte45 c).1 h, by simp [h]⟩)
      · exact .inr (.inl ⟨c, by simp, rfl, fun e => h ((byte45 c).2 e), by simp [h]⟩)
  obtain ⟨f, hf⟩ : ∃ f : Nat, f = (if s.head? = some 45 then 1 else 0) := ⟨_, rfl⟩
  have hR := numR_eq s f hf
  generalize numR s = R at *
  have hfl : f ≤ s.length := by
    rw [hf]; split
    · rename_i h; cases s with | nil => simp at h | cons a b => simp
    · omega
  have hf1 : f = 0 ∨ f = 1 := by rw [hf]; split <;> simp
  refine apure_intro Tryz.func61 cmp61 rfl fun n H hH => ?_
  have main : ∀ e, get e 0 = .str s → get e 4 = aI f → aw Tryz.prog c61_k7 (finP (.tup [aI R.1, .bool R.2]) n H c61.res) ⟨e, n, H⟩ := by
    clear hcase hf
    intro e he0 he4
    repeat' (first | (simp -implicitDefEqProofs [c61_k7_go, -getElem?_pos, simA_refl, he0, he4]) | (simp (disch := omega) only [upd_ne, Qy, if_pos, if_neg, IntWalk.i64_in, Int.tdiv_eq_ediv_of_nonneg, Int.tmod_eq_emod_of_nonneg]) | (with_reducible refine fin_r ?_ ?_ ?_) | (with_reducible exact SameB.rfl_ _ _) | (with_reducible refine SameB.upd ?_ ?_ _) | (with_reducible assumption) | (with_reducible intro _g _hg) | (with_reducible refine And.intro ?_ ?_) | (with_reducible intro _hc) | omega)
    refine LoopK.go (fun q st => ∃ (i j : Nat), j = f + i ∧ j + q = s.length ∧ st = ⟨[(0, .str s), (4, aI f), (5, aI (natV 0 ((s.drop f).take i) : Nat)), (6, aI j)], n, H⟩ ∧ (∀ c ∈ (s.drop f).take i, isDig c = true) ∧ i ≤ 9) (s.length - f) ⟨0, f, rfl, by omega, rfl, by simp, by omega⟩ ?_
    rintro q st ⟨i, j, hj, hkq, rfl, hdg, hi9⟩ J hJ
    have hbd := natV_bound hdg (by rw [List.length_take]; omega)
    have hif : ((j : Int) - f) = i := by omega
    by_cases hlt : j < s.length
    · obtain ⟨y, hy⟩ : ∃ y, s[j]? = some y := ⟨_, List.getElem?_eq_getElem hlt⟩
      have hy2 : (s.drop f)[i]? = some y := by rw [List.getElem?_drop, ← hj]; exact hy
      have hdy := digit_a y
      have hlt2 : (j : Int) < s.length := by omega
      cases hd : isDig y with
      | false =>
        rw [hd] at hdy
        have hno : ¬ ((s.drop f).all isDig = true ∧ (s.drop f).length ≤ 9) := by
          rintro ⟨h1, _⟩
          have := List.all_eq_true.1 h1 y (List.mem_of_getElem? hy2)
          rw [hd] at this; cases this
        rw [if_neg hno] at hR
        subst hR
        repeat' (first | (simp -implicitDefEqProofs [c61_k1_go, c61_k2_go, c61_k3_go, c61_k4_go, c61_k5_go, c61_L6_go, c61_k7_go, c61, -getElem?_pos, simA_refl, hy, hlt2]) | (simp (disch := omega) only [upd_ne, Qy, if_pos, if_neg, IntWalk.i64_in, Int.tdiv_eq_ediv_of_nonneg, Int.tmod_eq_emod_of_nonneg]) | ((with_reducible refine CallP.chk (f := 97) ?_); (refine' CallP.sf ?_ (hdy) ?_); (focus first | (with_reducible exact simL_refl _) | (simp [simL, simA, simA_refl, simL_refl]; done))) | (with_reducible refine fin_r ?_ ?_ ?_) | (with_reducible exact SameB.rfl_ _ _) | (with_reducible refine SameB.upd ?_ ?_ _) | (with_reducible assumption) | (with_reducible intro _g _hg) | (with_reducible refine And.intro ?_ ?_) | (with_reducible intro _hc) | omega)
      | true =>
        rw [hd] at hdy
        by_cases h8 : i ≤ 8
        · have h8' : ¬ (8 : Int) < (j : Int) - f := by omega
          have h8'' : ¬ (8 : Int) < i := by omega
          have hb := isDig_nat hd
          have hbd2 : natV 0 ((s.drop f).take i) ≤ 99999999 := by
            have h1 := natV_small _ hdg 0
            have h2 : 10 ^ ((s.drop f).take i).length ≤ 10 ^ 8 := Nat.pow_le_pow_right (by omega) (by rw [List.length_take]; omega)
            omega
          have hnx : natV 0 ((s.drop f).take (i + 1)) = 10 * natV 0 ((s.drop f).take i) + (y.toNat - 48) := by rw [take_snoc hy2, natV_snoc]
          have hdg2 : ∀ c ∈ (s.drop f).take (i + 1), isDig c = true := by
            rw [take_snoc hy2]; intro c hc
            rcases List.mem_append.1 hc with h | h
            · exact hdg c h
            · rw [List.mem_singleton.1 h]; exact hd
          generalize natV 0 ((s.drop f).take i) = v at *
          have hv2 : (10 : Int) * v + y.toNat - 48 = (natV 0 ((s.drop f).take (i + 1)) : Nat) := by rw [hnx]; omega
          repeat' (first | (simp -implicitDefEqProofs [c61_k1_go, c61_k2_go, c61_k3_go, c61_k4_go, c61_k5_go, c61_L6_go, c61_k7_go, c61, -getElem?_pos, simA_refl, hy, hlt2, hif, h8', h8'']) | (simp (disch := omega) only [upd_ne, Qy, if_pos, if_neg, IntWalk.i64_in, Int.tdiv_eq_ediv_of_nonneg, Int.tmod_eq_emod_of_nonneg]) | ((with_reducible refine CallP.chk (f := 97) ?_); (refine' CallP.sf ?_ (hdy) ?_); (focus first | (with_reducible exact simL_refl _) | (simp [simL, simA, simA_refl, simL_refl]; done))) | (with_reducible refine fin_r ?_ ?_ ?_) | (with_reducible exact SameB.rfl_ _ _) | (with_reducible refine SameB.upd ?_ ?_ _) | (with_reducible assumption) | (with_reducible intro _g _hg) | (with_reducible refine And.intro ?_ ?_) | (with_reducible intro _hc) | omega)
          exact hJ (q - 1) _ (by omega) ⟨i + 1, j + 1, by omega, by omega, by rw [hv2]; rfl, hdg2, by omega⟩
        · have h8' : (8 : Int) < (j : Int) - f := by omega
          have h8'' : (8 : Int) < i := by omega
          have hno : ¬ ((s.drop f).all isDig = true ∧ (s.drop f).length ≤ 9) := by
            rintro ⟨_, h2⟩
            rw [List.length_drop] at h2; omega
          rw [if_neg hno] at hR
          subst hR
          repeat' (first | (simp -implicitDefEqProofs [c61_k1_go, c61_k2_go, c61_k3_go, c61_k4_go, c61_k5_go, c61_L6_go, c61_k7_go, c61, -getElem?_pos, simA_refl, hy, hlt2, hif, h8', h8'']) | (simp (disch := omega) only [upd_ne, Qy, if_pos, if_neg, IntWalk.i64_in, Int.tdiv_eq_ediv_of_nonneg, Int.tmod_eq_emod_of_nonneg]) | ((with_reducible refine CallP.chk (f := 97) ?_); (refine' CallP.sf ?_ (hdy) ?_); (focus first | (with_reducible exact simL_refl _) | (simp [simL, simA, simA_refl, simL_refl]; done))) | (with_reducible refine fin_r ?_ ?_ ?_) | (with_reducible exact SameB.rfl_ _ _) | (with_reducible refine SameB.upd ?_ ?_ _) | (with_reducible assumption) | (with_reducible intro _g _hg) | (with_reducible refine And.intro ?_ ?_) | (with_reducible intro _hc) | omega)
    · have hall : (s.drop f).take i = s.drop f := List.take_of_length_le (by rw [List.length_drop]; omega)
      have hln : f + i = s.length := by omega
      rw [hall] at hdg hbd ⊢
      rw [if_pos ⟨List.all_eq_true.2 hdg, by rw [List.length_drop]; omega⟩] at hR
      have hnl : ¬ (j : Int) < s.length := by omega
      generalize natV 0 (s.drop f) = v at *
      rcases hf1 with rfl | rfl
      · rw [if_neg (by omega)] at hR
        have hd := decimal_a v (by omega)
        generalize Lib.itoa (v : Int) = t at *
        subst hR
        dsimp only
        by_cases h0 : 0 < s.length
        · by_cases ht : t = s
          · repeat' (first | (simp -implicitDefEqProofs [c61_k1_go, c61_k2_go, c61_k3_go, c61_k4_go, c61_k5_go, c61_L6_go, c61_k7_go, c61, -getElem?_pos, simA_refl, hnl, h0, ht]) | (simp (disch := omega) only [upd_ne, Qy, if_pos, if_neg, IntWalk.i64_in, Int.tdiv_eq_ediv_of_nonneg, Int.tmod_eq_emod_of_nonneg]) | ((with_reducible refine CallP.chk (f := 57) ?_); (refine' CallP.sf ?_ (hd) ?_); (focus first | (with_reducible exact simL_refl _) | (simp [simL, simA, simA_refl, simL_refl]; done))) | (with_reducible refine fin_r ?_ ?_ ?_) | (with_reducible exact SameB.rfl_ _ _) | (with_reducible refine SameB.upd ?_ ?_ _) | (with_reducible assumption) | (with_reducible intro _g _hg) | (with_reducible refine And.intro ?_ ?_) | (with_reducible intro _hc) | omega)
          · have htb : (t == s) = false := by simp [ht]
            repeat' (first | (simp -implicitDefEqProofs [c61_k1_go, c61_k2_go, c61_k3_go, c61_k4_go, c61_k5_go, c61_L6_go, c61_k7_go, c61, -getElem?_pos, simA_refl, hnl, h0, ht, htb]) | (simp (disch := omega) only [upd_ne, Qy, if_pos, if_neg, IntWalk.i64_in, Int.tdiv_eq_ediv_of_nonneg, Int.tmod_eq_emod_of_nonneg]) | ((with_reducible refine CallP.chk (f := 57) ?_); (refine' CallP.sf ?_ (hd) ?_); (focus first | (with_reducible exact simL_refl _) | (simp [simL, simA, simA_refl, simL_refl]; done))) | (with_reducible refine fin_r ?_ ?_ ?_) | (with_reducible exact SameB.rfl_ _ _) | (with_reducible refine SameB.upd ?_ ?_ _) | (with_reducible assumption) | (with_reducible intro _g _hg) | (with_reducible refine And.intro ?_ ?_) | (with_reducible intro _hc) | omega)
        · repeat' (first | (simp -implicitDefEqProofs [c61_k1_go, c61_k2_go, c61_k3_go, c61_k4_go, c61_k5_go, c61_L6_go, c61_k7_go, c61, -getElem?_pos, simA_refl, hnl, h0]) | (simp (disch := omega) only [upd_ne, Qy, if_pos, if_neg, IntWalk.i64_in, Int.tdiv_eq_ediv_of_nonneg, Int.tmod_eq_emod_of_nonneg]) | ((with_reducible refine CallP.chk (f := 57) ?_); (refine' CallP.sf ?_ (hd) ?_); (focus first | (with_reducible exact simL_refl _) | (simp [simL, simA, simA_refl, simL_refl]; done))) | (with_reducible refine fin_r ?_ ?_ ?_) | (with_reducible exact SameB.rfl_ _ _) | (with_reducible refine SameB.upd ?_ ?_ _) | (with_reducible assumption) | (with_reducible intro _g _hg) | (with_reducible refine And.intro ?_ ?_) | (with_reducible intro _hc) | omega)
      · rw [if_pos rfl] at hR
        have hd := decimal_a (-(v : Int)) (by omega)
        generalize Lib.itoa (-(v : Int)) = t at *
        subst hR
        dsimp only
        by_cases h0 : 1 < s.length
        · have h0' : (1 : Int) < s.length := by omega
          by_cases ht : t = s
          · repeat' (first | (simp -implicitDefEqProofs [c61_k1_go, c61_k2_go, c61_k3_go, c61_k4_go, c61_k5_go, c61_L6_go, c61_k7_go, c61, -getElem?_pos, simA_refl, hnl, h0, h0', ht]) | (simp (disch := omega) only [upd_ne, Qy, if_pos, if_neg, IntWalk.i64_in, Int.tdiv_eq_ediv_of_nonneg, Int.tmod_eq_emod_of_nonneg]) | ((with_reducible refine CallP.chk (f := 57) ?_); (refine' CallP.sf ?_ (hd) ?_); (focus first | (with_reducible exact simL_refl _) | (simp [simL, simA, simA_refl, simL_refl]; done))) | (with_reducible refine fin_r ?_ ?_ ?_) | (with_reducible exact SameB.rfl_ _ _) | (with_reducible refine SameB.upd ?_ ?_ _) | (with_reducible assumption) | (with_reducible intro _g _hg) | (with_reducible refine And.intro ?_ ?_) | (with_reducible intro _hc) | omega)
          · have htb : (t == s) = false := by simp [ht]
            repeat' (first | (simp -implicitDefEqProofs [c61_k1_go, c61_k2_go, c61_k3_go, c61_k4_go, c61_k5_go, c61_L6_go, c61_k7_go, c61, -getElem?_pos, simA_refl, hnl, h0, h0', ht, htb]) | (simp (disch := omega) only [upd_ne, Qy, if_pos, if_neg, IntWalk.i64_in, Int.tdiv_eq_ediv_of_nonneg, Int.tmod_eq_emod_of_nonneg]) | ((with_reducible refine CallP.chk (f := 57) ?_); (refine' CallP.sf ?_ (hd) ?_); (focus first | (with_reducible exact simL_refl _) | (simp [simL, simA, simA_refl, simL_refl]; done))) | (with_reducible refine fin_r ?_ ?_ ?_) | (with_reducible exact SameB.rfl_ _ _) | (with_reducible refine SameB.upd ?_ ?_ _) | (with_reducible assumption) | (with_reducible intro _g _hg) | (with_reducible refine And.intro ?_ ?_) | (with_reducible intro _hc) | omega)
        · have h0' : ¬ (1 : Int) < s.length := by omega
          repeat' (first | (simp -implicitDefEqProofs [c61_k1_go, c61_k2_go, c61_k3_go, c61_k4_go, c61_k5_go, c61_L6_go, c61_k7_go, c61, -getElem?_pos, simA_refl, hnl, h0, h0']) | (simp (disch := omega) only [upd_ne, Qy, if_pos, if_neg, IntWalk.i64_in, Int.tdiv_eq_ediv_of_nonneg, Int.tmod_eq_emod_of_nonneg]) | ((with_reducible refine CallP.chk (f := 57) ?_); (refine' CallP.sf ?_ (hd) ?_); (focus first | (with_reducible exact simL_refl _) | (simp [simL, simA, simA_refl, simL_refl]; done))) | (with_reducible refine fin_r ?_ ?_ ?_) | (with_reducible exact SameB.rfl_ _ _) | (with_reducible refine SameB.upd ?_ ?_ _) | (with_reducible assumption) | (with_reducible intro _g _hg) | (with_reducible refine And.intro ?_ ?_) | (with_reducible intro _hc) | omega)
  rcases hcase with ⟨h0, hh⟩ | ⟨c, h0, hc, h45, hh⟩ | ⟨c, h0, hc, h45, hh⟩
  · rw [if_neg hh] at hf; subst hf
    repeat' (first | (simp -implicitDefEqProofs [c61, -getElem?_pos, simA_refl, h0]) | (simp (disch := omega) only [upd_ne, Qy, if_pos, if_neg, IntWalk.i64_in, Int.tdiv_eq_ediv_of_nonneg, Int.tmod_eq_emod_of_nonneg]) | (with_reducible refine fin_r ?_ ?_ ?_) | (with_reducible exact SameB.rfl_ _ _) | (with_reducible refine SameB.upd ?_ ?_ _) | (with_reducible assumption) | (with_reducible intro _g _hg) | (with_reducible refine And.intro ?_ ?_) | (with_reducible intro _hc) | omega)
    all_goals exact main _ (by simp -implicitDefEqProofs [-getElem?_pos]) (by simp -implicitDefEqProofs [-getElem?_pos])
  · rw [if_neg hh] at hf; subst hf
    repeat' (first | (simp -implicitDefEqProofs [c61, -getElem?_pos, simA_refl, h0, hc, h45]) | (simp (disch := omega) only [upd_ne, Qy, if_pos, if_neg, IntWalk.i64_in, Int.tdiv_eq_ediv_of_nonneg, Int.tmod_eq_emod_of_nonneg]) | (with_reducible refine fin_r ?_ ?_ ?_) | (with_reducible exact SameB.rfl_ _ _) | (with_reducible refine SameB.upd ?_ ?_ _) | (with_reducible assumption) | (with_reducible intro _g _hg) | (with_reducible refine And.intro ?_ ?_) | (with_reducible intro _hc) | omega)
    all_goals exact main _ (by simp -implicitDefEqProofs [-getElem?_pos]) (by simp -implicitDefEqProofs [-getElem?_pos])
  · rw [if_pos hh] at hf; subst hf
    repeat' (first | (simp -implicitDefEqProofs [c61, -getElem?_pos, simA_refl, h0, hc, h45]) | (simp (disch := omega) only [upd_ne, Qy, if_pos, if_neg, IntWalk.i64_in, Int.tdiv_eq_ediv_of_nonneg, Int.tmod_eq_emod_of_nonneg]) | (with_reducible refine fin_r ?_ ?_ ?_) | (with_reducible exact SameB.rfl_ _ _) | (with_reducible refine SameB.upd ?_ ?_ _) | (with_reducible assumption) | (with_reducible intro _g _hg) | (with_reducible refine And.intro ?_ ?_) | (with_reducible intro _hc) | omega)
    all_goals exact main _ (by simp -implicitDefEqProofs [-getElem?_pos]) (by simp -implicitDefEqProofs [-getElem?_pos])
end Go.Proofs.YtecpfmhminkalaaGreatDoor
namespace Go.Proofs.YtecpfmhminkalaaGreatDoor
theorem take_drop_at {s : Str} {a i : Nat} {x : UInt8} (h : s[i]? = some x) (ha : a ≤ i) : (s.drop a).take (i + 1 - a) = (s.drop a).take (i - a) ++ [x] := by
  have e : i + 1 - a = (i - a) + 1 := by omega
  rw [e, List.take_add_one, List.getElem?_drop]
  have e2 : a + (i - a) = i := by omega
  rw [e2, h]; rfl
theorem drop_split {s : Str} {a i : Nat} {x : UInt8} (h : s[i]? = some x) (ha : a ≤ i) : s.drop a = (s.drop a).take (i - a) ++ x :: s.drop (i + 1) := by
  conv => lhs; rw [← List.take_append_drop (i - a) (s.drop a)]
  rw [List.drop_drop]
  have e2 : a + (i - a) = i := by omega
  rw [e2, drop_at h]
attribute [local simp] YL Z7 Z9 YM YN YO YP Z8 Z3 Z5 Z4 YQ YR YS YT YU YV YW YX YY YZ Ya Yb Yc Yd scV pe Ye Yf Yg Yh Yi Yj Yk Yl Ym Yn Yo spg_mv Yp Yq Yr Ys Yt Yu Yv Yw Yx Yy Yz X0 X1 X2 X3 X4 X5 X6 X7 X8 X9 spg_mm XA YD XB XC XD XE XF XG XH XI XJ XK XL XM XN XO XP XQ XR XS XT XU XV XW XX XY XZ YC Xa Xb Xc Xd Xe Xf Xg Xh Xi Xj Xk Xl Xm Xn Xo Xp Xq Xr Xs Xt Xu Xv Xw Xx List.mem_cons ZO ZN Z1 YG Zu Xy Zi Zr Zn Zp Zq Zo Zv Zw Zm Xz Q0 Zl Q1 Q2 Q4 Q5 Q6 Q7 Zs Q8 Q9 QA QB QC QD Zt Zh Zx Y1 Y2 QE QF Y3 QG Zj QH Zk Zg QI Zy Zz QJ QK QM QN QO QP QR QS Zd ZK ZI Zc Zf ZH ZM YB Z0 QT ZV ZL Ze ZC ZZ ZA Y5 ZJ Y8 Y9 Zb ZY ZU ZX Za ZT ZD ev get put Y4 ZS QU QV QW QX QY QZ ZE part ZW Qb Qc Qd isNil ZR ZQ ZB ZP YE Qe Qf Qg Qh Qi Qj Qk Ql Qm Qn Qo Qp Qq Qr Qs Qt AV.fits AV.cells ones AV.one YH YI YJ YK ZF ZG Qu Qv Qw Qx Y6 Y7 resV Z2 Qy YA u8e YF Qz V0 List.getElem?_cons_zero List.getElem?_cons_succ
set_option maxHeartbeats 2000000 in
theorem rsplit_a (s : Str) (c : UInt8) (hs : s.length ≤ 1000000) : APure Tryz.prog 60 [.str s, aB c] (aSs (spl c s)) := by
  refine apure_intro Tryz.func60 cmp60 rfl fun n H hH => ?_
  have _hb : True := trivial
  have _hO : Owns n H [] [⟨9, 1, .sl 0 [] .nil, []⟩] n H := (Owns.start hH).addNil _ _ _
  repeat' (first | (simp -implicitDefEqProofs [c60_k1_go, c60_k2_go, c60_t3_go, c60_k4_go, c60_L5_go, c60, -getElem?_pos, simA_refl, _hb]) | (simp (disch := omega) only [upd_ne, Qy, if_pos, if_neg, IntWalk.i64_in, Int.tdiv_eq_ediv_of_nonneg, Int.tmod_eq_emod_of_nonneg]) | (with_reducible refine fin_r ?_ ?_ ?_) | (with_reducible exact SameB.rfl_ _ _) | (with_reducible refine SameB.upd ?_ ?_ _) | (with_reducible assumption) | (with_reducible refine newSM_of ?_) | ((with_reducible refine newS_own (by assumption) (fun _g _hg _hO => ?_))) | ((with_reducible refine appKS.chk ?_); first | ((refine Owns.app (by assumption) (.inl rfl) (by first | (exact Owns.simL0 (by assumption)) | (exact Owns.simL1 (by assumption)) | (with_reducible exact simL_refl _) | assumption | (simp [simL, simA, simA_refl, simL_refl]; done)) ?_ ?_ (fun _x _n _H _hle _hO _hb => ?_)); rotate_left 2; dsimp only [BoxF, BoxF0, RowF] at _hb) | ((refine Owns.app1 (by assumption) (.inl rfl) (by first | (exact Owns.simL0 (by assumption)) | (exact Owns.simL1 (by assumption)) | (with_reducible exact simL_refl _) | assumption | (simp [simL, simA, simA_refl, simL_refl]; done)) ?_ ?_ (fun _x _n _H _hle _hO _hb => ?_)); rotate_left 2; dsimp only [BoxF, BoxF0, RowF] at _hb)) | (first | (with_reducible exact Owns.fit0 (by assumption)) | (with_reducible exact Owns.fit1 (by assumption))) | (with_reducible exact Owns.le (by assumption)) | (with_reducible exact Owns.same (by assumption)) | (with_reducible refine newSM_of ?_) | (with_reducible refine newS_go ?_) | (with_reducible intro _g _hg) | (with_reducible refine And.intro ?_ ?_) | (with_reducible intro _hc) | omega)
  refine LoopK.go (fun q st => ∃ (i a n' : Nat) (H' : AHeap) (x : AV) (l2 : List Str), i + q = s.length + 1 ∧ st = ⟨[(0, .str s), (1, aB c), (5, x), (6, aI a), (7, aI i)], n', H'⟩ ∧ Owns n H [] [⟨9, 1, x, l2.map AV.str⟩] n' H' ∧
    l2.length ≤ i ∧ ((i ≤ s.length ∧ a ≤ i ∧ spl c s = l2 ++ spl c (s.drop a) ∧ c ∉ (s.drop a).take (i - a)) ∨ (i = s.length + 1 ∧ spl c s = l2))) (s.length + 1) ⟨0, 0, _, _, _, [], by omega, rfl, _hO, by simp, .inl ⟨by omega, by omega, by simp, by simp⟩⟩ ?_
  rintro q st ⟨i, a, n1, H1, xb, l2, hkq, rfl, _hO, hl2, hE⟩ J hJ
  have _hb := _hO.boxF
  dsimp only [BoxF, BoxF0, RowF] at _hb
  have hle := _hO.le
  rcases hE with ⟨hi, ha, hE, hfree⟩ | ⟨hi, hE⟩
  · by_cases hlt : i < s.length
    · obtain ⟨y, hy⟩ : ∃ y, s[i]? = some y := ⟨_, List.getElem?_eq_getElem hlt⟩
      have hi1 : (i : Int) ≤ s.length := by omega
      have hi2 : ¬ (i : Int) = s.length := by omega
      by_cases hyc : y = c
      · subst hyc
        have e := drop_split hy ha
        rw [e, spl_app _ _ _ hfree] at hE
        have hcur : List.drop a (List.take i s) = (s.drop a).take (i - a) := List.drop_take
        generalize (s.drop a).take (i - a) = cur at *
        repeat' (first | (simp -implicitDefEqProofs [c60_k1_go, c60_k2_go, c60_t3_go, c60_k4_go, c60_L5_go, c60, -getElem?_pos, simA_refl, hy, hi1, hi2, hcur, maxLen, _hb]) | (simp (disch := omega) only [upd_ne, Qy, if_pos, if_neg, IntWalk.i64_in, Int.tdiv_eq_ediv_of_nonneg, Int.tmod_eq_emod_of_nonneg]) | (with_reducible refine fin_r ?_ ?_ ?_) | (with_reducible exact SameB.rfl_ _ _) | (with_reducible refine SameB.upd ?_ ?_ _) | (with_reducible assumption) | (with_reducible refine newSM_of ?_) | ((with_reducible refine newS_own (by assumption) (fun _g _hg _hO => ?_))) | ((with_reducible refine appKS.chk ?_); first | ((refine Owns.app (by assumption) (.inl rfl) (by first | (exact Owns.simL0 (by assumption)) | (exact Owns.simL1 (by assumption)) | (with_reducible exact simL_refl _) | assumption | (simp [simL, simA, simA_refl, simL_refl]; done)) ?_ ?_ (fun _x _n _H _hle _hO _hb => ?_)); rotate_left 2; dsimp only [BoxF, BoxF0, RowF] at _hb) | ((refine Owns.app1 (by assumption) (.inl rfl) (by first | (exact Owns.simL0 (by assumption)) | (exact Owns.simL1 (by assumption)) | (with_reducible exact simL_refl _) | assumption | (simp [simL, simA, simA_refl, simL_refl]; done)) ?_ ?_ (fun _x _n _H _hle _hO _hb => ?_)); rotate_left 2; dsimp only [BoxF, BoxF0, RowF] at _hb)) | (first | (with_reducible exact Owns.fit0 (by assumption)) | (with_reducible exact Owns.fit1 (by assumption))) | (with_reducible exact Owns.le (by assumption)) | (with_reducible exact Owns.same (by assumption)) | (with_reducible refine newSM_of ?_) | (with_reducible refine newS_go ?_) | (with_reducible intro _g _hg) | (with_reducible refine And.intro ?_ ?_) | (with_reducible intro _hc) | omega)
        exact hJ (q - 1) _ (by omega) ⟨i + 1, i + 1, _, _, _, l2 ++ [cur], by omega, rfl, by rw [List.map_append]; exact _hO, by simp; omega, .inl ⟨by omega, by omega, by rw [hE]; simp, by simp⟩⟩
      · have hyc' : ¬ (y.toNat : Int) = c.toNat := fun e => hyc (UInt8.toNat_inj.1 (by omega))
        repeat' (first | (simp -implicitDefEqProofs [c60_k1_go, c60_k2_go, c60_t3_go, c60_k4_go, c60_L5_go, c60, -getElem?_pos, simA_refl, hy, hi1, hi2, hyc', _hb]) | (simp (disch := omega) only [upd_ne, Qy, if_pos, if_neg, IntWalk.i64_in, Int.tdiv_eq_ediv_of_nonneg, Int.tmod_eq_emod_of_nonneg]) | (with_reducible refine fin_r ?_ ?_ ?_) | (with_reducible exact SameB.rfl_ _ _) | (with_reducible refine SameB.upd ?_ ?_ _) | (with_reducible assumption) | (with_reducible refine newSM_of ?_) | ((with_reducible refine newS_own (by assumption) (fun _g _hg _hO => ?_))) | ((with_reducible refine appKS.chk ?_); first | ((refine Owns.app (by assumption) (.inl rfl) (by first | (exact Owns.simL0 (by assumption)) | (exact Owns.simL1 (by assumption)) | (with_reducible exact simL_refl _) | assumption | (simp [simL, simA, simA_refl, simL_refl]; done)) ?_ ?_ (fun _x _n _H _hle _hO _hb => ?_)); rotate_left 2; dsimp only [BoxF, BoxF0, RowF] at _hb) | ((refine Owns.app1 (by assumption) (.inl rfl) (by first | (exact Owns.simL0 (by assumption)) | (exact Owns.simL1 (by assumption)) | (with_reducible exact simL_refl _) | assumption | (simp [simL, simA, simA_refl, simL_refl]; done)) ?_ ?_ (fun _x _n _H _hle _hO _hb => ?_)); rotate_left 2; dsimp only [BoxF, BoxF0, RowF] at _hb)) | (first | (with_reducible exact Owns.fit0 (by assumption)) | (with_reducible exact Owns.fit1 (by assumption))) | (with_reducible exact Owns.le (by assumption)) | (with_reducible exact Owns.same (by assumption)) | (with_reducible refine newSM_of ?_) | (with_reducible refine newS_go ?_) | (with_reducible intro _g _hg) | (with_reducible refine And.intro ?_ ?_) | (with_reducible intro _hc) | omega)
        exact hJ (q - 1) _ (by omega) ⟨i + 1, a, _, _, _, l2, by omega, rfl, _hO, by omega, .inl ⟨by omega, by omega, hE, by rw [take_drop_at hy ha]; simp only [List.mem_append, List.mem_singleton, not_or]; exact ⟨hfree, fun e => hyc e.symm⟩⟩⟩
    · have hi3 : i = s.length := by omega
      subst hi3
      have hfr : c ∉ s.drop a := by
        have e : (s.drop a).take (s.length - a) = s.drop a := List.take_of_length_le (by simp)
        rw [e] at hfree; exact hfree
      rw [spl_free c _ hfr] at hE
      repeat' (first | (simp -implicitDefEqProofs [c60_k1_go, c60_k2_go, c60_t3_go, c60_k4_go, c60_L5_go, c60, -getElem?_pos, simA_refl, maxLen, _hb]) | (simp (disch := omega) only [upd_ne, Qy, if_pos, if_neg, IntWalk.i64_in, Int.tdiv_eq_ediv_of_nonneg, Int.tmod_eq_emod_of_nonneg]) | (with_reducible refine fin_r ?_ ?_ ?_) | (with_reducible exact SameB.rfl_ _ _) | (with_reducible refine SameB.upd ?_ ?_ _) | (with_reducible assumption) | (with_reducible refine newSM_of ?_) | ((with_reducible refine newS_own (by assumption) (fun _g _hg _hO => ?_))) | ((with_reducible refine appKS.chk ?_); first | ((refine Owns.app (by assumption) (.inl rfl) (by first | (exact Owns.simL0 (by assumption)) | (exact Owns.simL1 (by assumption)) | (with_reducible exact simL_refl _) | assumption | (simp [simL, simA, simA_refl, simL_refl]; done)) ?_ ?_ (fun _x _n _H _hle _hO _hb => ?_)); rotate_left 2; dsimp only [BoxF, BoxF0, RowF] at _hb) | ((refine Owns.app1 (by assumption) (.inl rfl) (by first | (exact Owns.simL0 (by assumption)) | (exact Owns.simL1 (by assumption)) | (with_reducible exact simL_refl _) | assumption | (simp [simL, simA, simA_refl, simL_refl]; done)) ?_ ?_ (fun _x _n _H _hle _hO _hb => ?_)); rotate_left 2; dsimp only [BoxF, BoxF0, RowF] at _hb)) | (first | (with_reducible exact Owns.fit0 (by assumption)) | (with_reducible exact Owns.fit1 (by assumption))) | (with_reducible exact Owns.le (by assumption)) | (with_reducible exact Owns.same (by assumption)) | (with_reducible refine newSM_of ?_) | (with_reducible refine newS_go ?_) | (with_reducible intro _g _hg) | (with_reducible refine And.intro ?_ ?_) | (with_reducible intro _hc) | omega)
      exact hJ (q - 1) _ (by omega) ⟨s.length + 1, s.length + 1, _, _, _, l2 ++ [s.drop a], by omega, rfl, by rw [List.map_append]; exact _hO, by simp; omega, .inr ⟨rfl, hE⟩⟩
  · subst hi
    have hi1 : ¬ ((s.length : Int) + 1) ≤ s.length := by omega
    rw [hE]
    repeat' (first | (simp -implicitDefEqProofs [c60_k1_go, c60_k2_go, c60_t3_go, c60_k4_go, c60_L5_go, c60, -getElem?_pos, simA_refl, hi1, _hb]) | (simp (disch := omega) only [upd_ne, Qy, if_pos, if_neg, IntWalk.i64_in, Int.tdiv_eq_ediv_of_nonneg, Int.tmod_eq_emod_of_nonneg]) | (with_reducible refine fin_r ?_ ?_ ?_) | (with_reducible exact SameB.rfl_ _ _) | (with_reducible refine SameB.upd ?_ ?_ _) | (with_reducible assumption) | (with_reducible refine newSM_of ?_) | ((with_reducible refine newS_own (by assumption) (fun _g _hg _hO => ?_))) | ((with_reducible refine appKS.chk ?_); first | ((refine Owns.app (by assumption) (.inl rfl) (by first | (exact Owns.simL0 (by assumption)) | (exact Owns.simL1 (by assumption)) | (with_reducible exact simL_refl _) | assumption | (simp [simL, simA, simA_refl, simL_refl]; done)) ?_ ?_ (fun _x _n _H _hle _hO _hb => ?_)); rotate_left 2; dsimp only [BoxF, BoxF0, RowF] at _hb) | ((refine Owns.app1 (by assumption) (.inl rfl) (by first | (exact Owns.simL0 (by assumption)) | (exact Owns.simL1 (by assumption)) | (with_reducible exact simL_refl _) | assumption | (simp [simL, simA, simA_refl, simL_refl]; done)) ?_ ?_ (fun _x _n _H _hle _hO _hb => ?_)); rotate_left 2; dsimp only [BoxF, BoxF0, RowF] at _hb)) | (first | (with_reducible exact Owns.fit0 (by assumption)) | (with_reducible exact Owns.fit1 (by assumption))) | (with_reducible exact Owns.le (by assumption)) | (with_reducible exact Owns.same (by assumption)) | (with_reducible refine newSM_of ?_) | (with_reducible refine newS_go ?_) | (with_reducible intro _g _hg) | (with_reducible refine And.intro ?_ ?_) | (with_reducible intro _hc) | omega)
    all_goals exact _hO.sim0 (simL_refl _)
/-- a day of the week, as the reference reads it -/
def wdR (s : Str) : (Int × Int) × Bool :=
  if 3 < s.length then (if s[3]? = some 35 ∧ (numR (s.drop 4)).2 = true ∧ (numR (s.drop 4)).1 ≠ 0 then ((idxF (s.take 3) dayL, (numR (s.drop 4)).1), decide (0 ≤ idxF (s.take 3) dayL)) else ((0, 0), false))
  else ((idxF s dayL, 0), decide (0 ≤ idxF s dayL))
theorem day_three {s : Str} (h : 0 ≤ idxF s dayL) : s.length = 3 ∧ (35 : UInt8) ∉ s := by
  have e := idxF_at s dayL h
  have hb := idxF_ge s dayL
  obtain ⟨h1, _, _, h4⟩ := day_free ⟨(idxF s dayL).toNat, by simp at hb; omega⟩
  simp only at h1 h4
  rw [e] at h1 h4
  exact ⟨h4, h1⟩
theorem wd_ref (s : Str) : (wdR s).2 = (wdI s).2 ∧ ((wdI s).2 = true → (wdR s).1 = (wdI s).1) := by
  have fwd : (wdI s).2 = true → wdR s = ((wdI s).1, true) := by
    intro h
    have hT := h
    unfold wdI at h ⊢
    rcases brkF_cases 35 s with ⟨a, b, e, h1, hc⟩ | ⟨h1, hc⟩
    · rw [hc] at h ⊢
      simp only [if_true, Bool.and_eq_true, decide_eq_true_eq] at h ⊢
      obtain ⟨⟨h2, h3⟩, h4⟩ := h
      obtain ⟨l3, _⟩ := day_three h4
      obtain ⟨n1, n2⟩ := num_ref b
      have e3 : s[3]? = some 35 := by rw [e, List.getElem?_append_right (by omega), l3]; rfl
      have e4 : s.drop 4 = b := by
        have : s = (a ++ [35]) ++ b := by rw [e]; simp
        rw [this, List.drop_left' (by simp [l3])]
      have e5 : s.take 3 = a := by rw [e, List.take_left' l3]
      unfold wdR
      rw [if_pos (by rw [e]; simp; omega), e3, e4, e5, n1, n2 h2, if_pos ⟨rfl, h2, h3⟩, decide_eq_true h4]
    · rw [hc] at h ⊢
      simp only [Bool.false_eq_true, if_false, decide_eq_true_eq] at h ⊢
      obtain ⟨l3, _⟩ := day_three h
      unfold wdR
      rw [if_neg (by omega), decide_eq_true h]
  have back : (wdR s).2 = true → (wdI s).2 = true := by
    intro h
    unfold wdR at h
    split at h
    · rename_i hl
      split at h
      · rename_i hc
        obtain ⟨c1, c2, c3⟩ := hc
        simp only [decide_eq_true_eq] at h
        obtain ⟨l3, f3⟩ := day_three h
        have e : s = s.take 3 ++ 35 :: s.drop 4 := by
          conv => lhs; rw [← List.take_append_drop 3 s]
          rw [drop_at c1]
        obtain ⟨n1, n2⟩ := num_ref (s.drop 4)
        have n3 := n2 (by rw [← n1]; exact c2)
        unfold wdI
        rw [e, brkF_hit 35 _ _ f3]
        simp only [if_true, Bool.and_eq_true, decide_eq_true_eq]
        rw [← n1, ← n3]
        exact ⟨⟨c2, c3⟩, h⟩
      · cases h
    · rename_i hl
      simp only [decide_eq_true_eq] at h
      obtain ⟨l3, f3⟩ := day_three h
      unfold wdI
      rw [brkF_miss 35 _ f3]
      simpa using h
  cases h : (wdI s).2 with
  | true => rw [fwd h]; exact ⟨rfl, fun _ => rfl⟩
  | false =>
    refine ⟨?_, fun h => by cases h⟩
    cases h2 : (wdR s).2 with
    | true => rw [back h2] at h; cases h
    | false => rfl
end Go.Proofs.YtecpfmhminkalaaGreatDoor
namespace Go.Proofs.YtecpfmhminkalaaGreatDoor
attribute [local simp] YL Z7 Z9 YM YN YO YP Z8 Z3 Z5 Z4 YQ YR YS YT YU YV YW YX YY YZ Ya Yb Yc Yd scV pe Ye Yf Yg Yh Yi Yj Yk Yl Ym Yn Yo spg_mv Yp Yq Yr Ys Yt Yu Yv Yw Yx Yy Yz X0 X1 X2 X3 X4 X5 X6 X7 X8 X9 spg_mm XA YD XB XC XD XE XF XG XH XI XJ XK XL XM XN XO XP XQ XR XS XT XU XV XW XX XY XZ YC Xa Xb Xc Xd Xe Xf Xg Xh Xi Xj Xk Xl Xm Xn Xo Xp Xq Xr Xs Xt Xu Xv Xw Xx List.mem_cons ZO ZN Z1 YG Zu Xy Zi Zr Zn Zp Zq Zo Zv Zw Zm Xz Q0 Zl Q1 Q2 Q4 Q5 Q6 Q7 Zs Q8 Q9 QA QB QC QD Zt Zh Zx Y1 Y2 QE QF Y3 QG Zj QH Zk Zg QI Zy Zz QJ QK QM QN QO QP QR QS Zd ZK ZI Zc Zf ZH ZM YB Z0 QT ZV ZL Ze ZC ZZ ZA Y5 ZJ Y8 Y9 Zb ZY ZU ZX Za ZT ZD ev get put Y4 ZS QU QV QW QX QY QZ ZE part ZW Qb Qc Qd isNil ZR ZQ ZB ZP YE Qe Qf Qg Qh Qi Qj Qk Ql Qm Qn Qo Qp Qq Qr Qs Qt AV.fits AV.cells ones AV.one YH YI YJ YK ZF ZG Qu Qv Qw Qx Y6 Y7 resV Z2 Qy YA u8e YF Qz V0 List.getElem?_cons_zero List.getElem?_cons_succ
set_option maxHeartbeats 1000000 in
theorem word_r (s : Str) (hs : s.length ≤ 1000000) : APure Tryz.prog 98 [.str dayS, .str s] (aI (idxF s dayL)) := by
  have hge := idxF_ge s dayL
  by_cases h3 : s.length = 3
  · have hcut := dayS_at
    have hlen : dayS.length = 27 := rfl
    have hwl : dayL.length = 7 := rfl
    have hsk := idxF_skip s dayL
    generalize dayS = D at *
    generalize dayL = W at *
    refine apure_intro Tryz.func98 cmp98 rfl fun n H hH => ?_
    have h3' : (s.length : Int) = 3 := by omega
    repeat' (first | (simp -implicitDefEqProofs [c98, c98_k5_go, -getElem?_pos, simA_refl, h3, h3']) | (simp (disch := omega) only [upd_ne, Qy, if_pos, if_neg, IntWalk.i64_in, Int.tdiv_eq_ediv_of_nonneg, Int.tmod_eq_emod_of_nonneg]) | (with_reducible refine fin_r ?_ ?_ ?_) | (with_reducible exact SameB.rfl_ _ _) | (with_reducible refine SameB.upd ?_ ?_ _) | (with_reducible assumption) | (with_reducible intro _g _hg) | (with_reducible refine And.intro ?_ ?_) | (with_reducible intro _hc) | omega)
    refine LoopK.go (fun q st => ∃ (k : Nat), k + q = 7 ∧ st = ⟨[(0, .str D), (1, .str s), (5, aI (4 * k : Nat))], n, H⟩ ∧ ∀ j x, j < k → W[j]? = some x → x ≠ s) 7 ⟨0, by omega, rfl, fun j x hj => by omega⟩ ?_
    rintro q st ⟨k, hkq, rfl, hE⟩ J hJ
    have hsk2 := hsk k hE
    by_cases hk : k < 7
    · have hc := hcut ⟨k, hk⟩
      simp only at hc
      obtain ⟨y, hy⟩ : ∃ y, W[k]? = some y := ⟨_, List.getElem?_eq_getElem (by omega)⟩
      have hyd : W.getD k [] = y := by rw [List.getD_eq_getElem?_getD, hy]; rfl
      rw [hyd] at hc
      have hcI : List.drop (4 * (k : Int)).toNat (List.take (4 * (k : Int) + 3).toNat D) = y := by
        have e1 : (4 * (k : Int)).toNat = 4 * k := by omega
        have e2 : (4 * (k : Int) + 3).toNat = 4 * k + 3 := by omega
        rw [e1, e2]; exact hc
      have hb1 : (4 : Int) * k + 3 ≤ D.length := by omega
      have hb2 : (4 : Int) * k + 3 ≤ 27 := by omega
      by_cases hys : y = s
      · have e : idxF s W = k := by
          rw [hsk2, drop_at hy, idxF, if_pos hys]; simp
        rw [e]
        have hq : ((4 : Int) * k) / 4 = k := by omega
        repeat' (first | (simp -implicitDefEqProofs [c98_k1_go, c98_k2_go, c98_k3_go, c98_L4_go, c98_k5_go, c98, -getElem?_pos, simA_refl, hcI, hys, hb1, hb2, hlen, hq]) | (simp (disch := omega) only [upd_ne, Qy, if_pos, if_neg, IntWalk.i64_in, Int.tdiv_eq_ediv_of_nonneg, Int.tmod_eq_emod_of_nonneg]) | (with_reducible refine fin_r ?_ ?_ ?_) | (with_reducible exact SameB.rfl_ _ _) | (with_reducible refine SameB.upd ?_ ?_ _) | (with_reducible assumption) | (with_reducible intro _g _hg) | (with_reducible refine And.intro ?_ ?_) | (with_reducible intro _hc) | omega)
      · repeat' (first | (simp -implicitDefEqProofs [c98_k1_go, c98_k2_go, c98_k3_go, c98_L4_go, c98_k5_go, c98, -getElem?_pos, simA_refl, hcI, hys, hb1, hb2, hlen]) | (simp (disch := omega) only [upd_ne, Qy, if_pos, if_neg, IntWalk.i64_in, Int.tdiv_eq_ediv_of_nonneg, Int.tmod_eq_emod_of_nonneg]) | (with_reducible refine fin_r ?_ ?_ ?_) | (with_reducible exact SameB.rfl_ _ _) | (with_reducible refine SameB.upd ?_ ?_ _) | (with_reducible assumption) | (with_reducible intro _g _hg) | (with_reducible refine And.intro ?_ ?_) | (with_reducible intro _hc) | omega)
        exact hJ (q - 1) _ (by omega) ⟨k + 1, by omega, by have e : ((4 * (k + 1) : Nat) : Int) = 4 * (k : Int) + 4 := by omega
                                                           rw [e], fun j x hj hx => by
          rcases Nat.lt_or_ge j k with h | h
          · exact hE j x h hx
          · obtain rfl : j = k := by omega
            rw [hy] at hx; injection hx with hx; subst hx; exact hys⟩
    · have hk0 : k = 7 := by omega
      subst hk0
      have e : idxF s W = -1 := by rw [hsk2, ← hwl, List.drop_length]; simp [idxF]
      rw [e]
      repeat' (first | (simp -implicitDefEqProofs [c98_k1_go, c98_k2_go, c98_k3_go, c98_L4_go, c98_k5_go, c98, -getElem?_pos, simA_refl, hlen]) | (simp (disch := omega) only [upd_ne, Qy, if_pos, if_neg, IntWalk.i64_in, Int.tdiv_eq_ediv_of_nonneg, Int.tmod_eq_emod_of_nonneg]) | (with_reducible refine fin_r ?_ ?_ ?_) | (with_reducible exact SameB.rfl_ _ _) | (with_reducible refine SameB.upd ?_ ?_ _) | (with_reducible assumption) | (with_reducible intro _g _hg) | (with_reducible refine And.intro ?_ ?_) | (with_reducible intro _hc) | omega)
  · have e : idxF s dayL = -1 := by
      by_cases h : 0 ≤ idxF s dayL
      · exact absurd (day_three h).1 h3
      · omega
    rw [e]
    have h3' : ¬ (s.length : Int) = 3 := by omega
    refine apure_intro Tryz.func98 cmp98 rfl fun n H hH => ?_
    repeat' (first | (simp -implicitDefEqProofs [c98_k1_go, c98_k2_go, c98_k3_go, c98_L4_go, c98_k5_go, c98, -getElem?_pos, simA_refl, h3']) | (simp (disch := omega) only [upd_ne, Qy, if_pos, if_neg, IntWalk.i64_in, Int.tdiv_eq_ediv_of_nonneg, Int.tmod_eq_emod_of_nonneg]) | (with_reducible refine fin_r ?_ ?_ ?_) | (with_reducible exact SameB.rfl_ _ _) | (with_reducible refine SameB.upd ?_ ?_ _) | (with_reducible assumption) | (with_reducible intro _g _hg) | (with_reducible refine And.intro ?_ ?_) | (with_reducible intro _hc) | omega)
set_option maxHeartbeats 2000000 in
theorem numbersOf_a (s : Str) (hs : s.length ≤ 1000000) : APure Tryz.prog 62 [.str s] (.tup [aL (itemsV numR s).1, .bool (itemsV numR s).2]) := by
  have hsp := rsplit_a s 44 hs
  have hml := fun p => spl_mem_len 44 s p
  have hln := spl_len 44 s
  unfold itemsV
  generalize spl 44 s = L at *
  generalize hBB : (L.all fun x => (numR x).2) = B
  generalize hMM : L.map (fun x => (numR x).1) = M
  refine apure_intro Tryz.func62 cmp62 rfl fun n H hH => ?_
  have _hb : True := trivial
  have _hO : Owns n H [] [⟨3, 1, .sl 0 [] .nil, []⟩] n H := (Owns.start hH).addNil _ _ _
  repeat' (first | (simp -implicitDefEqProofs [c62_k1_go, c62_k2_go, c62_k3_go, c62_k4_go, c62_L5_go, c62, -getElem?_pos, simA_refl, _hb]) | (simp (disch := omega) only [upd_ne, Qy, if_pos, if_neg, IntWalk.i64_in, Int.tdiv_eq_ediv_of_nonneg, Int.tmod_eq_emod_of_nonneg]) | ((with_reducible refine CallP.chk (f := 60) ?_); (refine' CallP.sf ?_ (hsp) ?_); (focus first | (with_reducible exact simL_refl _) | (exact Owns.simC0 (by assumption)) | (exact Owns.simC1 (by assumption)) | (simp [simL, simA, simA_refl, simL_refl]; done))) | (with_reducible refine fin_r ?_ ?_ ?_) | (with_reducible exact SameB.rfl_ _ _) | (with_reducible refine SameB.upd ?_ ?_ _) | (with_reducible assumption) | (with_reducible refine newSM_of ?_) | ((with_reducible refine newS_own (by assumption) (fun _g _hg _hO => ?_))) | ((with_reducible refine appKS.chk ?_); first | ((refine Owns.app (by assumption) (.inl rfl) (by first | (exact Owns.simL0 (by assumption)) | (exact Owns.simL1 (by assumption)) | (with_reducible exact simL_refl _) | assumption | (simp [simL, simA, simA_refl, simL_refl]; done)) ?_ ?_ (fun _x _n _H _hle _hO _hb => ?_)); rotate_left 2; dsimp only [BoxF, BoxF0, RowF] at _hb) | ((refine Owns.app1 (by assumption) (.inl rfl) (by first | (exact Owns.simL0 (by assumption)) | (exact Owns.simL1 (by assumption)) | (with_reducible exact simL_refl _) | assumption | (simp [simL, simA, simA_refl, simL_refl]; done)) ?_ ?_ (fun _x _n _H _hle _hO _hb => ?_)); rotate_left 2; dsimp only [BoxF, BoxF0, RowF] at _hb)) | (first | (with_reducible exact Owns.fit0 (by assumption)) | (with_reducible exact Owns.fit1 (by assumption))) | (with_reducible exact Owns.le (by assumption)) | (with_reducible exact Owns.same (by assumption)) | (with_reducible refine newSM_of ?_) | (with_reducible refine newS_go ?_) | (with_reducible intro _g _hg) | (with_reducible refine And.intro ?_ ?_) | (with_reducible intro _hc) | omega)
  refine LoopK.go (fun q st => ∃ (k n' : Nat) (H' : AHeap) (x : AV) (l2 : List Int), k + q = L.length ∧ st = ⟨[(4, x), (5, aSs L), (6, aI k)], n', H'⟩ ∧ Owns n H [] [⟨3, 1, x, l2.map aI⟩] n' H' ∧
    l2.length = k ∧ B = ((L.drop k).all fun x => (numR x).2) ∧ M = l2 ++ (L.drop k).map (fun x => (numR x).1)) L.length ⟨0, _, _, _, [], by omega, rfl, _hO, by simp, by simpa using hBB.symm, by simpa using hMM.symm⟩ ?_
  rintro q st ⟨k, n1, H1, xb, l2, hkq, rfl, _hO, hl2, hE, hM⟩ J hJ
  have _hb := _hO.boxF
  dsimp only [BoxF, BoxF0, RowF] at _hb
  have hle := _hO.le
  by_cases hk : k < L.length
  · obtain ⟨y, hy⟩ : ∃ y, L[k]? = some y := ⟨_, List.getElem?_eq_getElem hk⟩
    have hy2 := str_at hy
    have hyl := hml y (List.mem_of_getElem? hy)
    have hny := number_r y (by omega)
    rw [drop_at hy, List.all_cons] at hE
    rw [drop_at hy, List.map_cons] at hM
    generalize numR y = nm at *
    obtain ⟨v, ok⟩ := nm
    dsimp only at *
    cases ok with
    | true =>
      repeat' (first | (simp -implicitDefEqProofs [c62_k1_go, c62_k2_go, c62_k3_go, c62_k4_go, c62_L5_go, c62, -getElem?_pos, simA_refl, hy, hy2, splice, maxLen, _hb]) | (simp (disch := omega) only [upd_ne, Qy, if_pos, if_neg, IntWalk.i64_in, Int.tdiv_eq_ediv_of_nonneg, Int.tmod_eq_emod_of_nonneg]) | ((with_reducible refine CallP.chk (f := 61) ?_); (refine' CallP.sf ?_ (hny) ?_); (focus first | (with_reducible exact simL_refl _) | (exact Owns.simC0 (by assumption)) | (exact Owns.simC1 (by assumption)) | (simp [simL, simA, simA_refl, simL_refl]; done))) | (with_reducible refine fin_r ?_ ?_ ?_) | (with_reducible exact SameB.rfl_ _ _) | (with_reducible refine SameB.upd ?_ ?_ _) | (with_reducible assumption) | (with_reducible refine newSM_of ?_) | ((with_reducible refine newS_own (by assumption) (fun _g _hg _hO => ?_))) | ((with_reducible refine appKS.chk ?_); first | ((refine Owns.app (by assumption) (.inl rfl) (by first | (exact Owns.simL0 (by assumption)) | (exact Owns.simL1 (by assumption)) | (with_reducible exact simL_refl _) | assumption | (simp [simL, simA, simA_refl, simL_refl]; done)) ?_ ?_ (fun _x _n _H _hle _hO _hb => ?_)); rotate_left 2; dsimp only [BoxF, BoxF0, RowF] at _hb) | ((refine Owns.app1 (by assumption) (.inl rfl) (by first | (exact Owns.simL0 (by assumption)) | (exact Owns.simL1 (by assumption)) | (with_reducible exact simL_refl _) | assumption | (simp [simL, simA, simA_refl, simL_refl]; done)) ?_ ?_ (fun _x _n _H _hle _hO _hb => ?_)); rotate_left 2; dsimp only [BoxF, BoxF0, RowF] at _hb)) | (first | (with_reducible exact Owns.fit0 (by assumption)) | (with_reducible exact Owns.fit1 (by assumption))) | (with_reducible exact Owns.le (by assumption)) | (with_reducible exact Owns.same (by assumption)) | (with_reducible refine newSM_of ?_) | (with_reducible refine newS_go ?_) | (with_reducible intro _g _hg) | (with_reducible refine And.intro ?_ ?_) | (with_reducible intro _hc) | omega)
      exact hJ (q - 1) _ (by omega) ⟨k + 1, _, _, _, l2 ++ [v], by omega, rfl, by rw [List.map_append]; exact _hO, by simp; omega, by rw [hE]; rfl, by rw [hM]; simp⟩
    | false =>
      rw [hE]
      repeat' (first | (simp -implicitDefEqProofs [c62_k1_go, c62_k2_go, c62_k3_go, c62_k4_go, c62_L5_go, c62, -getElem?_pos, simA_refl, hy, hy2, splice, _hb]) | (simp (disch := omega) only [upd_ne, Qy, if_pos, if_neg, IntWalk.i64_in, Int.tdiv_eq_ediv_of_nonneg, Int.tmod_eq_emod_of_nonneg]) | ((with_reducible refine CallP.chk (f := 61) ?_); (refine' CallP.sf ?_ (hny) ?_); (focus first | (with_reducible exact simL_refl _) | (exact Owns.simC0 (by assumption)) | (exact Owns.simC1 (by assumption)) | (simp [simL, simA, simA_refl, simL_refl]; done))) | (with_reducible refine fin_r ?_ ?_ ?_) | (with_reducible exact SameB.rfl_ _ _) | (with_reducible refine SameB.upd ?_ ?_ _) | (with_reducible assumption) | (with_reducible refine newSM_of ?_) | ((with_reducible refine newS_own (by assumption) (fun _g _hg _hO => ?_))) | ((with_reducible refine appKS.chk ?_); first | ((refine Owns.app (by assumption) (.inl rfl) (by first | (exact Owns.simL0 (by assumption)) | (exact Owns.simL1 (by assumption)) | (with_reducible exact simL_refl _) | assumption | (simp [simL, simA, simA_refl, simL_refl]; done)) ?_ ?_ (fun _x _n _H _hle _hO _hb => ?_)); rotate_left 2; dsimp only [BoxF, BoxF0, RowF] at _hb) | ((refine Owns.app1 (by assumption) (.inl rfl) (by first | (exact Owns.simL0 (by assumption)) | (exact Owns.simL1 (by assumption)) | (with_reducible exact simL_refl _) | assumption | (simp [simL, simA, simA_refl, simL_refl]; done)) ?_ ?_ (fun _x _n _H _hle _hO _hb => ?_)); rotate_left 2; dsimp only [BoxF, BoxF0, RowF] at _hb)) | (first | (with_reducible exact Owns.fit0 (by assumption)) | (with_reducible exact Owns.fit1 (by assumption))) | (with_reducible exact Owns.le (by assumption)) | (with_reducible exact Owns.same (by assumption)) | (with_reducible refine newSM_of ?_) | (with_reducible refine newS_go ?_) | (with_reducible intro _g _hg) | (with_reducible refine And.intro ?_ ?_) | (with_reducible intro _hc) | omega)
      all_goals exact simA_tup (simL_cons simA_nil (simL_refl _))
  · have hk0 : k = L.length := by omega
    subst hk0
    rw [List.drop_length] at hE hM
    rw [hE, hM]
    simp only [List.all_nil, List.map_nil, List.append_nil, if_true]
    repeat' (first | (simp -implicitDefEqProofs [c62_k1_go, c62_k2_go, c62_k3_go, c62_k4_go, c62_L5_go, c62, -getElem?_pos, simA_refl, _hb]) | (simp (disch := omega) only [upd_ne, Qy, if_pos, if_neg, IntWalk.i64_in, Int.tdiv_eq_ediv_of_nonneg, Int.tmod_eq_emod_of_nonneg]) | (with_reducible refine fin_r ?_ ?_ ?_) | (with_reducible exact SameB.rfl_ _ _) | (with_reducible refine SameB.upd ?_ ?_ _) | (with_reducible assumption) | (with_reducible refine newSM_of ?_) | ((with_reducible refine newS_own (by assumption) (fun _g _hg _hO => ?_))) | ((with_reducible refine appKS.chk ?_); first | ((refine Owns.app (by assumption) (.inl rfl) (by first | (exact Owns.simL0 (by assumption)) | (exact Owns.simL1 (by assumption)) | (with_reducible exact simL_refl _) | assumption | (simp [simL, simA, simA_refl, simL_refl]; done)) ?_ ?_ (fun _x _n _H _hle _hO _hb => ?_)); rotate_left 2; dsimp only [BoxF, BoxF0, RowF] at _hb) | ((refine Owns.app1 (by assumption) (.inl rfl) (by first | (exact Owns.simL0 (by assumption)) | (exact Owns.simL1 (by assumption)) | (with_reducible exact simL_refl _) | assumption | (simp [simL, simA, simA_refl, simL_refl]; done)) ?_ ?_ (fun _x _n _H _hle _hO _hb => ?_)); rotate_left 2; dsimp only [BoxF, BoxF0, RowF] at _hb)) | (first | (with_reducible exact Owns.fit0 (by assumption)) | (with_reducible exact Owns.fit1 (by assumption))) | (with_reducible exact Owns.le (by assumption)) | (with_reducible exact Owns.same (by assumption)) | (with_reducible refine newSM_of ?_) | (with_reducible refine newS_go ?_) | (with_reducible intro _g _hg) | (with_reducible refine And.intro ?_ ?_) | (with_reducible intro _hc) | omega)
    exact simA_tup (simL_cons (_hO.sim0 (simL_refl _)) (simL_refl _))
end Go.Proofs.YtecpfmhminkalaaGreatDoor
namespace Go.Proofs.YtecpfmhminkalaaGreatDoor
attribute [local simp] YL Z7 Z9 YM YN YO YP Z8 Z3 Z5 Z4 YQ YR YS YT YU YV YW YX YY YZ Ya Yb Yc Yd scV pe Ye Yf Yg Yh Yi Yj Yk Yl Ym Yn Yo spg_mv Yp Yq Yr Ys Yt Yu Yv Yw Yx Yy Yz X0 X1 X2 X3 X4 X5 X6 X7 X8 X9 spg_mm XA YD XB XC XD XE XF XG XH XI XJ XK XL XM XN XO XP XQ XR XS XT XU XV XW XX XY XZ YC Xa Xb Xc Xd Xe Xf Xg Xh Xi Xj Xk Xl Xm Xn Xo Xp Xq Xr Xs Xt Xu Xv Xw Xx List.mem_cons ZO ZN Z1 YG Zu Xy Zi Zr Zn Zp Zq Zo Zv Zw Zm Xz Q0 Zl Q1 Q2 Q4 Q5 Q6 Q7 Zs Q8 Q9 QA QB QC QD Zt Zh Zx Y1 Y2 QE QF Y3 QG Zj QH Zk Zg QI Zy Zz QJ QK QM QN QO QP QR QS Zd ZK ZI Zc Zf ZH ZM YB Z0 QT ZV ZL Ze ZC ZZ ZA Y5 ZJ Y8 Y9 Zb ZY ZU ZX Za ZT ZD ev get put Y4 ZS QU QV QW QX QY QZ ZE part ZW Qb Qc Qd isNil ZR ZQ ZB ZP YE Qe Qf Qg Qh Qi Qj Qk Ql Qm Qn Qo Qp Qq Qr Qs Qt AV.fits AV.cells ones AV.one YH YI YJ YK ZF ZG Qu Qv Qw Qx Y6 Y7 resV Z2 Qy YA u8e YF Qz V0 List.getElem?_cons_zero List.getElem?_cons_succ
set_option maxHeartbeats 4000000 in
theorem wdaysOf_a (s : Str) (hs : s.length ≤ 1000000) : APure Tryz.prog 63 [.str s] (.tup [aWs (itemsV wdR s).1, .bool (itemsV wdR s).2]) := by
  have hsp := rsplit_a s 44 hs
  have hml := fun p => spl_mem_len 44 s p
  have hln := spl_len 44 s
  unfold itemsV
  generalize spl 44 s = L at *
  generalize hBB : (L.all fun x => (wdR x).2) = B
  generalize hMM : L.map (fun x => (wdR x).1) = M
  refine apure_intro Tryz.func63 cmp63 rfl fun n H hH => ?_
  have _hb : True := trivial
  have _hO : Owns n H [] [⟨56, 2, .sl 0 [] .nil, []⟩] n H := (Owns.start hH).addNil _ _ _
  repeat' (first | (simp -implicitDefEqProofs [c63_k1_go, c63_k2_go, c63_k3_go, c63_k4_go, c63_k5_go, c63_t6_go, c63_k7_go, c63_L8_go, c63, -getElem?_pos, simA_refl, _hb]) | (simp (disch := omega) only [upd_ne, Qy, if_pos, if_neg, IntWalk.i64_in, Int.tdiv_eq_ediv_of_nonneg, Int.tmod_eq_emod_of_nonneg]) | ((with_reducible refine CallP.chk (f := 60) ?_); (refine' CallP.sf ?_ (hsp) ?_); (focus first | (with_reducible exact simL_refl _) | (exact Owns.simC0 (by assumption)) | (exact Owns.simC1 (by assumption)) | (simp [simL, simA, simA_refl, simL_refl]; done))) | (with_reducible refine fin_r ?_ ?_ ?_) | (with_reducible exact SameB.rfl_ _ _) | (with_reducible refine SameB.upd ?_ ?_ _) | (with_reducible assumption) | (with_reducible refine newPM_of ?_) | (with_reducible refine newSM_of ?_) | ((with_reducible refine newP_own (by assumption) (fun _g _hg _hO => ?_)); (have _hb := And.intro _hb _hO.boxF); dsimp only [BoxF, BoxF0, RowF] at _hb) | ((with_reducible refine newS_own (by assumption) (fun _g _hg _hO => ?_))) | ((with_reducible refine appKS.chk ?_); first | ((refine Owns.app (by assumption) (.inl rfl) (by first | (exact Owns.simL0 (by assumption)) | (exact Owns.simL1 (by assumption)) | (with_reducible exact simL_refl _) | assumption | (simp [simL, simA, simA_refl, simL_refl]; done)) ?_ ?_ (fun _x _n _H _hle _hO _hb => ?_)); rotate_left 2; dsimp only [BoxF, BoxF0, RowF] at _hb) | ((refine Owns.app1 (by assumption) (.inl rfl) (by first | (exact Owns.simL0 (by assumption)) | (exact Owns.simL1 (by assumption)) | (with_reducible exact simL_refl _) | assumption | (simp [simL, simA, simA_refl, simL_refl]; done)) ?_ ?_ (fun _x _n _H _hle _hO _hb => ?_)); rotate_left 2; dsimp only [BoxF, BoxF0, RowF] at _hb)) | (first | (with_reducible exact Owns.fit0 (by assumption)) | (with_reducible exact Owns.fit1 (by assumption))) | (with_reducible exact Owns.le (by assumption)) | (with_reducible exact Owns.same (by assumption)) | (with_reducible refine newPM_of ?_) | (with_reducible refine newSM_of ?_) | (with_reducible refine newP_go ?_) | (with_reducible refine newS_go ?_) | (with_reducible intro _g _hg) | (with_reducible refine And.intro ?_ ?_) | (with_reducible intro _hc) | omega)
  refine LoopK.go (fun q st => ∃ (k n' : Nat) (H' : AHeap) (x : AV) (l2 : List (Int × Int)), k + q = L.length ∧ st = ⟨[(4, x), (5, aSs L), (6, aI k)], n', H'⟩ ∧ Owns n H [] [⟨56, 2, x, l2.map aWd⟩] n' H' ∧
    l2.length = k ∧ B = ((L.drop k).all fun x => (wdR x).2) ∧ M = l2 ++ (L.drop k).map (fun x => (wdR x).1)) L.length ⟨0, _, _, _, [], by omega, rfl, _hO, by simp, by simpa using hBB.symm, by simpa using hMM.symm⟩ ?_
  rintro q st ⟨k, n1, H1, xb, l2, hkq, rfl, _hO, hl2, hE, hM⟩ J hJ
  have _hb := _hO.boxF
  dsimp only [BoxF, BoxF0, RowF] at _hb
  have hle := _hO.le
  by_cases hk : k < L.length
  · obtain ⟨y, hy⟩ : ∃ y, L[k]? = some y := ⟨_, List.getElem?_eq_getElem hk⟩
    have hy2 := str_at hy
    have hyl := hml y (List.mem_of_getElem? hy)
    rw [drop_at hy, List.all_cons] at hE
    rw [drop_at hy, List.map_cons] at hM
    generalize hwd : wdR y = wd at hE hM
    unfold wdR at hwd
    by_cases hl3 : 3 < y.length
    · rw [if_pos hl3] at hwd
      have hl3' : (3 : Int) < y.length := by omega
      obtain ⟨b, hb3⟩ : ∃ b, y[3]? = some b := ⟨_, List.getElem?_eq_getElem (by omega)⟩
      have hn := number_r (y.drop 4) (by rw [List.length_drop]; omega)
      have hw := word_r (y.take 3) (by rw [List.length_take]; omega)
      have hge := idxF_ge (y.take 3) dayL
      have hb35 : (y[3]? = some 35) ↔ (b.toNat : Int) = 35 := by
        rw [hb3]
        constructor
        · intro h; injection h with h; subst h; decide
        · intro h; have : b = 35 := UInt8.toNat_inj.1 (by have : (35 : UInt8).toNat = 35 := by decide
                                                          omega)
          rw [this]
      have hcut4 : List.drop 4 y = y.drop 4 := rfl
      generalize numR (y.drop 4) = nm at *
      generalize idxF (y.take 3) dayL = d at *
      obtain ⟨v, ok⟩ := nm
      dsimp only at *
      by_cases h35 : (b.toNat : Int) = 35
      · cases ok with
        | true =>
          by_cases hv : v = 0
          · rw [if_neg (fun h => h.2.2 hv)] at hwd
            subst hwd
            rw [hE]
            repeat' (first | (simp -implicitDefEqProofs [c63_k1_go, c63_k2_go, c63_k3_go, c63_k4_go, c63_k5_go, c63_t6_go, c63_k7_go, c63_L8_go, c63, -getElem?_pos, simA_refl, hy, hy2, hl3, hl3', hb3, h35, hv, splice, _hb]) | (simp (disch := omega) only [upd_ne, Qy, if_pos, if_neg, IntWalk.i64_in, Int.tdiv_eq_ediv_of_nonneg, Int.tmod_eq_emod_of_nonneg]) | ((with_reducible refine CallP.chk (f := 61) ?_); (refine' CallP.sf ?_ (hn) ?_); (focus first | (with_reducible exact simL_refl _) | (exact Owns.simC0 (by assumption)) | (exact Owns.simC1 (by assumption)) | (simp [simL, simA, simA_refl, simL_refl]; done))) | (with_reducible refine fin_r ?_ ?_ ?_) | (with_reducible exact SameB.rfl_ _ _) | (with_reducible refine SameB.upd ?_ ?_ _) | (with_reducible assumption) | (with_reducible refine newPM_of ?_) | (with_reducible refine newSM_of ?_) | ((with_reducible refine newP_own (by assumption) (fun _g _hg _hO => ?_)); (have _hb := And.intro _hb _hO.boxF); dsimp only [BoxF, BoxF0, RowF] at _hb) | ((with_reducible refine newS_own (by assumption) (fun _g _hg _hO => ?_))) | ((with_reducible refine appKS.chk ?_); first | ((refine Owns.app (by assumption) (.inl rfl) (by first | (exact Owns.simL0 (by assumption)) | (exact Owns.simL1 (by assumption)) | (with_reducible exact simL_refl _) | assumption | (simp [simL, simA, simA_refl, simL_refl]; done)) ?_ ?_ (fun _x _n _H _hle _hO _hb => ?_)); rotate_left 2; dsimp only [BoxF, BoxF0, RowF] at _hb) | ((refine Owns.app1 (by assumption) (.inl rfl) (by first | (exact Owns.simL0 (by assumption)) | (exact Owns.simL1 (by assumption)) | (with_reducible exact simL_refl _) | assumption | (simp [simL, simA, simA_refl, simL_refl]; done)) ?_ ?_ (fun _x _n _H _hle _hO _hb => ?_)); rotate_left 2; dsimp only [BoxF, BoxF0, RowF] at _hb)) | (first | (with_reducible exact Owns.fit0 (by assumption)) | (with_reducible exact Owns.fit1 (by assumption))) | (with_reducible exact Owns.le (by assumption)) | (with_reducible exact Owns.same (by assumption)) | (with_reducible refine newPM_of ?_) | (with_reducible refine newSM_of ?_) | (with_reducible refine newP_go ?_) | (with_reducible refine newS_go ?_) | (with_reducible intro _g _hg) | (with_reducible refine And.intro ?_ ?_) | (with_reducible intro _hc) | omega)
            all_goals exact simA_tup (simL_cons simA_nil (simL_refl _))
          · rw [if_pos ⟨hb35.2 h35, rfl, hv⟩] at hwd
            subst hwd
            by_cases h0 : 0 ≤ d
            · have h0' : ¬ d < 0 := by omega
              rw [decide_eq_true h0] at hE
              repeat' (first | (simp -implicitDefEqProofs [c63_L8_go, c63_k7_go, c63_t6_go, c63_k5_go, c63_k4_go, -getElem?_pos, simA_refl, hy, hy2, hl3, hl3', hb3, h35, hv, h0', splice, maxLen, _hb]) | (simp (disch := omega) only [upd_ne, Qy, if_pos, if_neg, IntWalk.i64_in, Int.tdiv_eq_ediv_of_nonneg, Int.tmod_eq_emod_of_nonneg]) | ((with_reducible refine CallP.chk (f := 61) ?_); (refine' CallP.sf ?_ (hn) ?_); (focus first | (with_reducible exact simL_refl _) | (exact Owns.simC0 (by assumption)) | (exact Owns.simC1 (by assumption)) | (simp [simL, simA, simA_refl, simL_refl]; done))) | ((with_reducible refine CallP.chk (f := 98) ?_); (refine' CallP.sf ?_ (hw) ?_); (focus first | (with_reducible exact simL_refl _) | (exact Owns.simC0 (by assumption)) | (exact Owns.simC1 (by assumption)) | (simp [simL, simA, simA_refl, simL_refl]; done))) | (with_reducible refine fin_r ?_ ?_ ?_) | (with_reducible exact SameB.rfl_ _ _) | (with_reducible refine SameB.upd ?_ ?_ _) | (with_reducible assumption) | (with_reducible refine newPM_of ?_) | (with_reducible refine newSM_of ?_) | ((with_reducible refine newP_own (by assumption) (fun _g _hg _hO => ?_)); (have _hb := And.intro _hb _hO.boxF); dsimp only [BoxF, BoxF0, RowF] at _hb) | ((with_reducible refine newS_own (by assumption) (fun _g _hg _hO => ?_))) | ((with_reducible refine appKS.chk ?_); first | ((refine Owns.app (by assumption) (.inl rfl) (by first | (exact Owns.simL0 (by assumption)) | (exact Owns.simL1 (by assumption)) | (with_reducible exact simL_refl _) | assumption | (simp [simL, simA, simA_refl, simL_refl]; done)) ?_ ?_ (fun _x _n _H _hle _hO _hb => ?_)); rotate_left 2; dsimp only [BoxF, BoxF0, RowF] at _hb) | ((refine Owns.app1 (by assumption) (.inl rfl) (by first | (exact Owns.simL0 (by assumption)) | (exact Owns.simL1 (by assumption)) | (with_reducible exact simL_refl _) | assumption | (simp [simL, simA, simA_refl, simL_refl]; done)) ?_ ?_ (fun _x _n _H _hle _hO _hb => ?_)); rotate_left 2; dsimp only [BoxF, BoxF0, RowF] at _hb)) | (first | (with_reducible exact Owns.fit0 (by assumption)) | (with_reducible exact Owns.fit1 (by assumption))) | (with_reducible exact Owns.le (by assumption)) | (with_reducible exact Owns.same (by assumption)) | (with_reducible refine newPM_of ?_) | (with_reducible refine newSM_of ?_) | (with_reducible refine newP_go ?_) | (with_reducible refine newS_go ?_) | (with_reducible intro _g _hg) | (with_reducible refine And.intro ?_ ?_) | (with_reducible intro _hc) | omega)
              replace _hO := ((_hO.set0 (by simp) 56 [aI 0, aI 0]).set0 (by simp) 56 [aI 0, aI v]).set0 (by simp) 56 [aI d, aI v]
              have _hb := _hO.boxF
              dsimp only [BoxF, BoxF0, RowF] at _hb
              repeat' (first | (simp -implicitDefEqProofs [c63_k3_go, c63_k2_go, -getElem?_pos, simA_refl, splice, maxLen, _hb]) | (simp (disch := omega) only [upd_ne, Qy, if_pos, if_neg, IntWalk.i64_in, Int.tdiv_eq_ediv_of_nonneg, Int.tmod_eq_emod_of_nonneg]) | (with_reducible refine fin_r ?_ ?_ ?_) | (with_reducible exact SameB.rfl_ _ _) | (with_reducible refine SameB.upd ?_ ?_ _) | (with_reducible assumption) | (with_reducible refine newPM_of ?_) | (with_reducible refine newSM_of ?_) | ((with_reducible refine newP_own (by assumption) (fun _g _hg _hO => ?_)); (have _hb := And.intro _hb _hO.boxF); dsimp only [BoxF, BoxF0, RowF] at _hb) | ((with_reducible refine newS_own (by assumption) (fun _g _hg _hO => ?_))) | ((with_reducible refine appKS.chk ?_); first | ((refine Owns.app (by assumption) (.inl rfl) (by first | (exact Owns.simL0 (by assumption)) | (exact Owns.simL1 (by assumption)) | (with_reducible exact simL_refl _) | assumption | (simp [simL, simA, simA_refl, simL_refl]; done)) ?_ ?_ (fun _x _n _H _hle _hO _hb => ?_)); rotate_left 2; dsimp only [BoxF, BoxF0, RowF] at _hb) | ((refine Owns.app1 (by assumption) (.inl rfl) (by first | (exact Owns.simL0 (by assumption)) | (exact Owns.simL1 (by assumption)) | (with_reducible exact simL_refl _) | assumption | (simp [simL, simA, simA_refl, simL_refl]; done)) ?_ ?_ (fun _x _n _H _hle _hO _hb => ?_)); rotate_left 2; dsimp only [BoxF, BoxF0, RowF] at _hb)) | (first | (with_reducible exact Owns.fit0 (by assumption)) | (with_reducible exact Owns.fit1 (by assumption))) | (with_reducible exact Owns.le (by assumption)) | (with_reducible exact Owns.same (by assumption)) | (with_reducible refine newPM_of ?_) | (with_reducible refine newSM_of ?_) | (with_reducible refine newP_go ?_) | (with_reducible refine newS_go ?_) | (with_reducible intro _g _hg) | (with_reducible refine And.intro ?_ ?_) | (with_reducible intro _hc) | omega)
              exact hJ (q - 1) _ (by omega) ⟨k + 1, _, _, _, l2 ++ [(d, v)], by omega, rfl, by rw [List.map_append]; exact _hO.dropBox, by simp; omega, by rw [hE]; rfl, by rw [hM]; simp⟩
            · have h0' : d < 0 := by omega
              rw [decide_eq_false h0] at hE
              rw [hE]
              repeat' (first | (simp -implicitDefEqProofs [c63_k1_go, c63_k2_go, c63_k3_go, c63_k4_go, c63_k5_go, c63_t6_go, c63_k7_go, c63_L8_go, c63, -getElem?_pos, simA_refl, hy, hy2, hl3, hl3', hb3, h35, hv, h0', splice, maxLen, _hb]) | (simp (disch := omega) only [upd_ne, Qy, if_pos, if_neg, IntWalk.i64_in, Int.tdiv_eq_ediv_of_nonneg, Int.tmod_eq_emod_of_nonneg]) | ((with_reducible refine CallP.chk (f := 61) ?_); (refine' CallP.sf ?_ (hn) ?_); (focus first | (with_reducible exact simL_refl _) | (exact Owns.simC0 (by assumption)) | (exact Owns.simC1 (by assumption)) | (simp [simL, simA, simA_refl, simL_refl]; done))) | ((with_reducible refine CallP.chk (f := 98) ?_); (refine' CallP.sf ?_ (hw) ?_); (focus first | (with_reducible exact simL_refl _) | (exact Owns.simC0 (by assumption)) | (exact Owns.simC1 (by assumption)) | (simp [simL, simA, simA_refl, simL_refl]; done))) | (with_reducible refine fin_r ?_ ?_ ?_) | (with_reducible exact SameB.rfl_ _ _) | (with_reducible refine SameB.upd ?_ ?_ _) | (with_reducible assumption) | (with_reducible refine newPM_of ?_) | (with_reducible refine newSM_of ?_) | ((with_reducible refine newP_own (by assumption) (fun _g _hg _hO => ?_)); (have _hb := And.intro _hb _hO.boxF); dsimp only [BoxF, BoxF0, RowF] at _hb) | ((with_reducible refine newS_own (by assumption) (fun _g _hg _hO => ?_))) | ((with_reducible refine appKS.chk ?_); first | ((refine Owns.app (by assumption) (.inl rfl) (by first | (exact Owns.simL0 (by assumption)) | (exact Owns.simL1 (by assumption)) | (with_reducible exact simL_refl _) | assumption | (simp [simL, simA, simA_refl, simL_refl]; done)) ?_ ?_ (fun _x _n _H _hle _hO _hb => ?_)); rotate_left 2; dsimp only [BoxF, BoxF0, RowF] at _hb) | ((refine Owns.app1 (by assumption) (.inl rfl) (by first | (exact Owns.simL0 (by assumption)) | (exact Owns.simL1 (by assumption)) | (with_reducible exact simL_refl _) | assumption | (simp [simL, simA, simA_refl, simL_refl]; done)) ?_ ?_ (fun _x _n _H _hle _hO _hb => ?_)); rotate_left 2; dsimp only [BoxF, BoxF0, RowF] at _hb)) | (first | (with_reducible exact Owns.fit0 (by assumption)) | (with_reducible exact Owns.fit1 (by assumption))) | (with_reducible exact Owns.le (by assumption)) | (with_reducible exact Owns.same (by assumption)) | (with_reducible refine newPM_of ?_) | (with_reducible refine newSM_of ?_) | (with_reducible refine newP_go ?_) | (with_reducible refine newS_go ?_) | (with_reducible intro _g _hg) | (with_reducible refine And.intro ?_ ?_) | (with_reducible intro _hc) | omega)
              all_goals exact simA_tup (simL_cons simA_nil (simL_refl _))
        | false =>
          rw [if_neg (fun h => by cases h.2.1)] at hwd
          subst hwd
          rw [hE]
          repeat' (first | (simp -implicitDefEqProofs [c63_k1_go, c63_k2_go, c63_k3_go, c63_k4_go, c63_k5_go, c63_t6_go, c63_k7_go, c63_L8_go, c63, -getElem?_pos, simA_refl, hy, hy2, hl3, hl3', hb3, h35, splice, _hb]) | (simp (disch := omega) only [upd_ne, Qy, if_pos, if_neg, IntWalk.i64_in, Int.tdiv_eq_ediv_of_nonneg, Int.tmod_eq_emod_of_nonneg]) | ((with_reducible refine CallP.chk (f := 61) ?_); (refine' CallP.sf ?_ (hn) ?_); (focus first | (with_reducible exact simL_refl _) | (exact Owns.simC0 (by assumption)) | (exact Owns.simC1 (by assumption)) | (simp [simL, simA, simA_refl, simL_refl]; done))) | (with_reducible refine fin_r ?_ ?_ ?_) | (with_reducible exact SameB.rfl_ _ _) | (with_reducible refine SameB.upd ?_ ?_ _) | (with_reducible assumption) | (with_reducible refine newPM_of ?_) | (with_reducible refine newSM_of ?_) | ((with_reducible refine newP_own (by assumption) (fun _g _hg _hO => ?_)); (have _hb := And.intro _hb _hO.boxF); dsimp only [BoxF, BoxF0, RowF] at _hb) | ((with_reducible refine newS_own (by assumption) (fun _g _hg _hO => ?_))) | ((with_reducible refine appKS.chk ?_); first | ((refine Owns.app (by assumption) (.inl rfl) (by first | (exact Owns.simL0 (by assumption)) | (exact Owns.simL1 (by assumption)) | (with_reducible exact simL_refl _) | assumption | (simp [simL, simA, simA_refl, simL_refl]; done)) ?_ ?_ (fun _x _n _H _hle _hO _hb => ?_)); rotate_left 2; dsimp only [BoxF, BoxF0, RowF] at _hb) | ((refine Owns.app1 (by assumption) (.inl rfl) (by first | (exact Owns.simL0 (by assumption)) | (exact Owns.simL1 (by assumption)) | (with_reducible exact simL_refl _) | assumption | (simp [simL, simA, simA_refl, simL_refl]; done)) ?_ ?_ (fun _x _n _H _hle _hO _hb => ?_)); rotate_left 2; dsimp only [BoxF, BoxF0, RowF] at _hb)) | (first | (with_reducible exact Owns.fit0 (by assumption)) | (with_reducible exact Owns.fit1 (by assumption))) | (with_reducible exact Owns.le (by assumption)) | (with_reducible exact Owns.same (by assumption)) | (with_reducible refine newPM_of ?_) | (with_reducible refine newSM_of ?_) | (with_reducible refine newP_go ?_) | (with_reducible refine newS_go ?_) | (with_reducible intro _g _hg) | (with_reducible refine And.intro ?_ ?_) | (with_reducible intro _hc) | omega)
          all_goals exact simA_tup (simL_cons simA_nil (simL_refl _))
      · rw [if_neg (fun h => h35 (hb35.1 h.1))] at hwd
        subst hwd
        rw [hE]
        repeat' (first | (simp -implicitDefEqProofs [c63_k1_go, c63_k2_go, c63_k3_go, c63_k4_go, c63_k5_go, c63_t6_go, c63_k7_go, c63_L8_go, c63, -getElem?_pos, simA_refl, hy, hy2, hl3, hl3', hb3, h35, splice, _hb]) | (simp (disch := omega) only [upd_ne, Qy, if_pos, if_neg, IntWalk.i64_in, Int.tdiv_eq_ediv_of_nonneg, Int.tmod_eq_emod_of_nonneg]) | ((with_reducible refine CallP.chk (f := 61) ?_); (refine' CallP.sf ?_ (hn) ?_); (focus first | (with_reducible exact simL_refl _) | (exact Owns.simC0 (by assumption)) | (exact Owns.simC1 (by assumption)) | (simp [simL, simA, simA_refl, simL_refl]; done))) | (with_reducible refine fin_r ?_ ?_ ?_) | (with_reducible exact SameB.rfl_ _ _) | (with_reducible refine SameB.upd ?_ ?_ _) | (with_reducible assumption) | (with_reducible refine newPM_of ?_) | (with_reducible refine newSM_of ?_) | ((with_reducible refine newP_own (by assumption) (fun _g _hg _hO => ?_)); (have _hb := And.intro _hb _hO.boxF); dsimp only [BoxF, BoxF0, RowF] at _hb) | ((with_reducible refine newS_own (by assumption) (fun _g _hg _hO => ?_))) | ((with_reducible refine appKS.chk ?_); first | ((refine Owns.app (by assumption) (.inl rfl) (by first | (exact Owns.simL0 (by assumption)) | (exact Owns.simL1 (by assumption)) | (with_reducible exact simL_refl _) | assumption | (simp [simL, simA, simA_refl, simL_refl]; done)) ?_ ?_ (fun _x _n _H _hle _hO _hb => ?_)); rotate_left 2; dsimp only [BoxF, BoxF0, RowF] at _hb) | ((refine Owns.app1 (by assumption) (.inl rfl) (by first | (exact Owns.simL0 (by assumption)) | (exact Owns.simL1 (by assumption)) | (with_reducible exact simL_refl _) | assumption | (simp [simL, simA, simA_refl, simL_refl]; done)) ?_ ?_ (fun _x _n _H _hle _hO _hb => ?_)); rotate_left 2; dsimp only [BoxF, BoxF0, RowF] at _hb)) | (first | (with_reducible exact Owns.fit0 (by assumption)) | (with_reducible exact Owns.fit1 (by assumption))) | (with_reducible exact Owns.le (by assumption)) | (with_reducible exact Owns.same (by assumption)) | (with_reducible refine newPM_of ?_) | (with_reducible refine newSM_of ?_) | (with_reducible refine newP_go ?_) | (with_reducible refine newS_go ?_) | (with_reducible intro _g _hg) | (with_reducible refine And.intro ?_ ?_) | (with_reducible intro _hc) | omega)
        all_goals exact simA_tup (simL_cons simA_nil (simL_refl _))
    · rw [if_neg hl3] at hwd
      have hl3' : ¬ (3 : Int) < y.length := by omega
      have hw := word_r y (by omega)
      have hge := idxF_ge y dayL
      generalize idxF y dayL = d at *
      subst hwd
      dsimp only at *
      by_cases h0 : 0 ≤ d
      · have h0' : ¬ d < 0 := by omega
        rw [decide_eq_true h0] at hE
        repeat' (first | (simp -implicitDefEqProofs [c63_L8_go, c63_k7_go, c63_k4_go, -getElem?_pos, simA_refl, hy, hy2, hl3, hl3', h0', splice, maxLen, _hb]) | (simp (disch := omega) only [upd_ne, Qy, if_pos, if_neg, IntWalk.i64_in, Int.tdiv_eq_ediv_of_nonneg, Int.tmod_eq_emod_of_nonneg]) | ((with_reducible refine CallP.chk (f := 98) ?_); (refine' CallP.sf ?_ (hw) ?_); (focus first | (with_reducible exact simL_refl _) | (exact Owns.simC0 (by assumption)) | (exact Owns.simC1 (by assumption)) | (simp [simL, simA, simA_refl, simL_refl]; done))) | (with_reducible refine fin_r ?_ ?_ ?_) | (with_reducible exact SameB.rfl_ _ _) | (with_reducible refine SameB.upd ?_ ?_ _) | (with_reducible assumption) | (with_reducible refine newPM_of ?_) | (with_reducible refine newSM_of ?_) | ((with_reducible refine newP_own (by assumption) (fun _g _hg _hO => ?_)); (have _hb := And.intro _hb _hO.boxF); dsimp only [BoxF, BoxF0, RowF] at _hb) | ((with_reducible refine newS_own (by assumption) (fun _g _hg _hO => ?_))) | ((with_reducible refine appKS.chk ?_); first | ((refine Owns.app (by assumption) (.inl rfl) (by first | (exact Owns.simL0 (by assumption)) | (exact Owns.simL1 (by assumption)) | (with_reducible exact simL_refl _) | assumption | (simp [simL, simA, simA_refl, simL_refl]; done)) ?_ ?_ (fun _x _n _H _hle _hO _hb => ?_)); rotate_left 2; dsimp only [BoxF, BoxF0, RowF] at _hb) | ((refine Owns.app1 (by assumption) (.inl rfl) (by first | (exact Owns.simL0 (by assumption)) | (exact Owns.simL1 (by assumption)) | (with_reducible exact simL_refl _) | assumption | (simp [simL, simA, simA_refl, simL_refl]; done)) ?_ ?_ (fun _x _n _H _hle _hO _hb => ?_)); rotate_left 2; dsimp only [BoxF, BoxF0, RowF] at _hb)) | (first | (with_reducible exact Owns.fit0 (by assumption)) | (with_reducible exact Owns.fit1 (by assumption))) | (with_reducible exact Owns.le (by assumption)) | (with_reducible exact Owns.same (by assumption)) | (with_reducible refine newPM_of ?_) | (with_reducible refine newSM_of ?_) | (with_reducible refine newP_go ?_) | (with_reducible refine newS_go ?_) | (with_reducible intro _g _hg) | (with_reducible refine And.intro ?_ ?_) | (with_reducible intro _hc) | omega)
        replace _hO := (_hO.set0 (by simp) 56 [aI 0, aI 0]).set0 (by simp) 56 [aI d, aI 0]
        have _hb := _hO.boxF
        dsimp only [BoxF, BoxF0, RowF] at _hb
        repeat' (first | (simp -implicitDefEqProofs [c63_k3_go, c63_k2_go, -getElem?_pos, simA_refl, splice, maxLen, _hb]) | (simp (disch := omega) only [upd_ne, Qy, if_pos, if_neg, IntWalk.i64_in, Int.tdiv_eq_ediv_of_nonneg, Int.tmod_eq_emod_of_nonneg]) | (with_reducible refine fin_r ?_ ?_ ?_) | (with_reducible exact SameB.rfl_ _ _) | (with_reducible refine SameB.upd ?_ ?_ _) | (with_reducible assumption) | (with_reducible refine newPM_of ?_) | (with_reducible refine newSM_of ?_) | ((with_reducible refine newP_own (by assumption) (fun _g _hg _hO => ?_)); (have _hb := And.intro _hb _hO.boxF); dsimp only [BoxF, BoxF0, RowF] at _hb) | ((with_reducible refine newS_own (by assumption) (fun _g _hg _hO => ?_))) | ((with_reducible refine appKS.chk ?_); first | ((refine Owns.app (by assumption) (.inl rfl) (by first | (exact Owns.simL0 (by assumption)) | (exact Owns.simL1 (by assumption)) | (with_reducible exact simL_refl _) | assumption | (simp [simL, simA, simA_refl, simL_refl]; done)) ?_ ?_ (fun _x _n _H _hle _hO _hb => ?_)); rotate_left 2; dsimp only [BoxF, BoxF0, RowF] at _hb) | ((refine Owns.app1 (by assumption) (.inl rfl) (by first | (exact Owns.simL0 (by assumption)) | (exact Owns.simL1 (by assumption)) | (with_reducible exact simL_refl _) | assumption | (simp [simL, simA, simA_refl, simL_refl]; done)) ?_ ?_ (fun _x _n _H _hle _hO _hb => ?_)); rotate_left 2; dsimp only [BoxF, BoxF0, RowF] at _hb)) | (first | (with_reducible exact Owns.fit0 (by assumption)) | (with_reducible exact Owns.fit1 (by assumption))) | (with_reducible exact Owns.le (by assumption)) | (with_reducible exact Owns.same (by assumption)) | (with_reducible refine newPM_of ?_) | (with_reducible refine newSM_of ?_) | (with_reducible refine newP_go ?_) | (with_reducible refine newS_go ?_) | (with_reducible intro _g _hg) | (with_reducible refine And.intro ?_ ?_) | (with_reducible intro _hc) | omega)
        exact hJ (q - 1) _ (by omega) ⟨k + 1, _, _, _, l2 ++ [(d, 0)], by omega, rfl, by rw [List.map_append]; exact _hO.dropBox, by simp; omega, by rw [hE]; rfl, by rw [hM]; simp⟩
      · have h0' : d < 0 := by omega
        rw [decide_eq_false h0] at hE
        rw [hE]
        repeat' (first | (simp -implicitDefEqProofs [c63_k1_go, c63_k2_go, c63_k3_go, c63_k4_go, c63_k5_go, c63_t6_go, c63_k7_go, c63_L8_go, c63, -getElem?_pos, simA_refl, hy, hy2, hl3, hl3', h0', splice, maxLen, _hb]) | (simp (disch := omega) only [upd_ne, Qy, if_pos, if_neg, IntWalk.i64_in, Int.tdiv_eq_ediv_of_nonneg, Int.tmod_eq_emod_of_nonneg]) | ((with_reducible refine CallP.chk (f := 98) ?_); (refine' CallP.sf ?_ (hw) ?_); (focus first | (with_reducible exact simL_refl _) | (exact Owns.simC0 (by assumption)) | (exact Owns.simC1 (by assumption)) | (simp [simL, simA, simA_refl, simL_refl]; done))) | (with_reducible refine fin_r ?_ ?_ ?_) | (with_reducible exact SameB.rfl_ _ _) | (with_reducible refine SameB.upd ?_ ?_ _) | (with_reducible assumption) | (with_reducible refine newPM_of ?_) | (with_reducible refine newSM_of ?_) | ((with_reducible refine newP_own (by assumption) (fun _g _hg _hO => ?_)); (have _hb := And.intro _hb _hO.boxF); dsimp only [BoxF, BoxF0, RowF] at _hb) | ((with_reducible refine newS_own (by assumption) (fun _g _hg _hO => ?_))) | ((with_reducible refine appKS.chk ?_); first | ((refine Owns.app (by assumption) (.inl rfl) (by first | (exact Owns.simL0 (by assumption)) | (exact Owns.simL1 (by assumption)) | (with_reducible exact simL_refl _) | assumption | (simp [simL, simA, simA_refl, simL_refl]; done)) ?_ ?_ (fun _x _n _H _hle _hO _hb => ?_)); rotate_left 2; dsimp only [BoxF, BoxF0, RowF] at _hb) | ((refine Owns.app1 (by assumption) (.inl rfl) (by first | (exact Owns.simL0 (by assumption)) | (exact Owns.simL1 (by assumption)) | (with_reducible exact simL_refl _) | assumption | (simp [simL, simA, simA_refl, simL_refl]; done)) ?_ ?_ (fun _x _n _H _hle _hO _hb => ?_)); rotate_left 2; dsimp only [BoxF, BoxF0, RowF] at _hb)) | (first | (with_reducible exact Owns.fit0 (by assumption)) | (with_reducible exact Owns.fit1 (by assumption))) | (with_reducible exact Owns.le (by assumption)) | (with_reducible exact Owns.same (by assumption)) | (with_reducible refine newPM_of ?_) | (with_reducible refine newSM_of ?_) | (with_reducible refine newP_go ?_) | (with_reducible refine newS_go ?_) | (with_reducible intro _g _hg) | (with_reducible refine And.intro ?_ ?_) | (with_reducible intro _hc) | omega)
        all_goals exact simA_tup (simL_cons simA_nil (simL_refl _))
  · have hk0 : k = L.length := by omega
    subst hk0
    rw [List.drop_length] at hE hM
    rw [hE, hM]
    simp only [List.all_nil, List.map_nil, List.append_nil, if_true]
    repeat' (first | (simp -implicitDefEqProofs [c63_k1_go, c63_k2_go, c63_k3_go, c63_k4_go, c63_k5_go, c63_t6_go, c63_k7_go, c63_L8_go, c63, -getElem?_pos, simA_refl, _hb]) | (simp (disch := omega) only [upd_ne, Qy, if_pos, if_neg, IntWalk.i64_in, Int.tdiv_eq_ediv_of_nonneg, Int.tmod_eq_emod_of_nonneg]) | (with_reducible refine fin_r ?_ ?_ ?_) | (with_reducible exact SameB.rfl_ _ _) | (with_reducible refine SameB.upd ?_ ?_ _) | (with_reducible assumption) | (with_reducible refine newPM_of ?_) | (with_reducible refine newSM_of ?_) | ((with_reducible refine newP_own (by assumption) (fun _g _hg _hO => ?_)); (have _hb := And.intro _hb _hO.boxF); dsimp only [BoxF, BoxF0, RowF] at _hb) | ((with_reducible refine newS_own (by assumption) (fun _g _hg _hO => ?_))) | ((with_reducible refine appKS.chk ?_); first | ((refine Owns.app (by assumption) (.inl rfl) (by first | (exact Owns.simL0 (by assumption)) | (exact Owns.simL1 (by assumption)) | (with_reducible exact simL_refl _) | assumption | (simp [simL, simA, simA_refl, simL_refl]; done)) ?_ ?_ (fun _x _n _H _hle _hO _hb => ?_)); rotate_left 2; dsimp only [BoxF, BoxF0, RowF] at _hb) | ((refine Owns.app1 (by assumption) (.inl rfl) (by first | (exact Owns.simL0 (by assumption)) | (exact Owns.simL1 (by assumption)) | (with_reducible exact simL_refl _) | assumption | (simp [simL, simA, simA_refl, simL_refl]; done)) ?_ ?_ (fun _x _n _H _hle _hO _hb => ?_)); rotate_left 2; dsimp only [BoxF, BoxF0, RowF] at _hb)) | (first | (with_reducible exact Owns.fit0 (by assumption)) | (with_reducible exact Owns.fit1 (by assumption))) | (with_reducible exact Owns.le (by assumption)) | (with_reducible exact Owns.same (by assumption)) | (with_reducible refine newPM_of ?_) | (with_reducible refine newSM_of ?_) | (with_reducible refine newP_go ?_) | (with_reducible refine newS_go ?_) | (with_reducible intro _g _hg) | (with_reducible refine And.intro ?_ ?_) | (with_reducible intro _hc) | omega)
    exact simA_tup (simL_cons (_hO.sim0 (simL_refl _)) (simL_refl _))
/-- one number, read as a list -/
theorem one_num (u : Str) : (∃ x, itemsV numI u = ([x], true) ∧ numI u = (x, true) ∧ x ≠ 0) ∨ (((numI u).2 && decide ((numI u).1 ≠ 0)) = false ∧ ((itemsV numI u = ([], false)) ∨ ((itemsV numI u).2 = true ∧ (itemsV numI u).1.length ≠ 1) ∨ itemsV numI u = ([0], true))) := by
  by_cases h : (44 : UInt8) ∈ u
  · have hbad : (numI u).2 = false := by
      cases h2 : (numI u).2 with
      | false => rfl
      | true =>
        obtain ⟨h3, _⟩ := num_ok h2
        exact absurd (h3 ▸ h) (itoa_free _ _ (by decide))
    refine .inr ⟨by rw [hbad]; rfl, ?_⟩
    unfold itemsV
    split
    · refine .inr (.inl ⟨rfl, ?_⟩)
      have := spl_two h
      simp only [List.length_map]; omega
    · exact .inl rfl
  · rw [itemsV_one numI h]
    generalize numI u = p
    obtain ⟨x, ok⟩ := p
    cases ok with
    | false => exact .inr ⟨rfl, .inl rfl⟩
    | true =>
      by_cases hx : x = 0
      · subst hx; exact .inr ⟨by simp, .inr (.inr rfl)⟩
      · exact .inl ⟨x, rfl, rfl, hx⟩
theorem items_ref (u : Str) : itemsV numR u = itemsV numI u := itemsV_congr num_ref u
theorem items_wd (u : Str) : itemsV wdR u = itemsV wdI u := itemsV_congr wd_ref u
end Go.Proofs.YtecpfmhminkalaaGreatDoor
namespace Go.Proofs.YtecpfmhminkalaaGreatDoor
theorem unitR_at {w : Str} {k : Int} (hk : 1 ≤ k ∧ k ≤ 4) : unitR k = w ↔ idxF w unitL + 1 = k := by
  have e : unitR k = unitL.getD (k - 1).toNat [] := by
    rcases (by omega : k = 1 ∨ k = 2 ∨ k = 3 ∨ k = 4) with rfl | rfl | rfl | rfl <;> rfl
  rw [e]
  constructor
  · intro h
    have := unit_idx ⟨(k - 1).toNat, by omega⟩
    simp only at this
    rw [← h, this]; omega
  · intro h
    have h1 := idxF_at w unitL (by omega)
    have e2 : idxF w unitL = k - 1 := by omega
    rw [e2] at h1; exact h1
abbrev zC : List AV := [aI 0, aI 0, .sl 0 [] .nil, .sl 0 [] .nil, .sl 0 [] .nil, .sl 0 [] .nil, aI 0, aI 0]
/-- the boxes of the function -/
def RO (n : Nat) (H : AHeap) (g2 g3 g4 g5 g7 : Nat) (cs : List AV) (n' : Nat) (H' : AHeap) : Prop :=
  H' g2 = some (.cells 25 zC) ∧ H' g3 = some (.cells 27 [aI 0, aI 0]) ∧ H' g4 = some (.cells 25 zC) ∧ H' g5 = some (.cells 27 [aI 1, aI (-1)]) ∧ H' g7 = some (.cells 25 cs) ∧
  SameB n H H' ∧ (∀ j, n' ≤ j → H' j = none) ∧ (n ≤ g2 ∧ g2 < g3 ∧ g3 < g4 ∧ g4 < g5 ∧ g5 < g7 ∧ g7 < n')
theorem RO.set {n g2 g3 g4 g5 g7 n' : Nat} {H H' : AHeap} {cs : List AV} (h : RO n H g2 g3 g4 g5 g7 cs n' H') (cs2 : List AV) : RO n H g2 g3 g4 g5 g7 cs2 n' (upd H' g7 (some (.cells 25 cs2))) := by
  obtain ⟨a, b, c, d, e, f, g, i1, i2, i3, i4, i5, i6⟩ := h
  refine ⟨?_, ?_, ?_, ?_, Qy .., f.upd (by omega) _, fun j hj => ?_, i1, i2, i3, i4, i5, i6⟩
  · rw [upd_ne (by omega)]; exact a
  · rw [upd_ne (by omega)]; exact b
  · rw [upd_ne (by omega)]; exact c
  · rw [upd_ne (by omega)]; exact d
  · rw [upd_ne (by omega)]; exact g j hj
theorem RO.new {n g2 g3 g4 g5 g7 n' : Nat} {H H' : AHeap} {cs : List AV} {g : Nat} (h : RO n H g2 g3 g4 g5 g7 cs n' H') (hg : n' ≤ g) (ob : AObj) : RO n H g2 g3 g4 g5 g7 cs (g + 1) (upd H' g (some ob)) := by
  obtain ⟨a, b, c, d, e, f, g, i1, i2, i3, i4, i5, i6⟩ := h
  refine ⟨?_, ?_, ?_, ?_, ?_, f.upd (by omega) _, fun j hj => ?_, i1, i2, i3, i4, i5, by omega⟩
  · rw [upd_ne (by omega)]; exact a
  · rw [upd_ne (by omega)]; exact b
  · rw [upd_ne (by omega)]; exact c
  · rw [upd_ne (by omega)]; exact d
  · rw [upd_ne (by omega)]; exact e
  · rw [upd_ne (by omega)]; exact g j (by omega)
theorem APure.weak {P : Program} {f : Nat} {args args' : List AV} {v : AV} (h : APure P f args' v) (hs : simL args args') : APure P f args v := fun n H => (h.at_ n H).sim hs
/-- reading one of the lists of a rule, as the reference does it -/
theorem simZ : simA (.agg zC) (aR zR) := zcells.agg
attribute [local simp] YL Z7 Z9 YM YN YO YP Z8 Z3 Z5 Z4 YQ YR YS YT YU YV YW YX YY YZ Ya Yb Yc Yd scV pe Ye Yf Yg Yh Yi Yj Yk Yl Ym Yn Yo spg_mv Yp Yq Yr Ys Yt Yu Yv Yw Yx Yy Yz X0 X1 X2 X3 X4 X5 X6 X7 X8 X9 spg_mm XA YD XB XC XD XE XF XG XH XI XJ XK XL XM XN XO XP XQ XR XS XT XU XV XW XX XY XZ YC Xa Xb Xc Xd Xe Xf Xg Xh Xi Xj Xk Xl Xm Xn Xo Xp Xq Xr Xs Xt Xu Xv Xw Xx List.mem_cons ZO ZN Z1 YG Zu Xy Zi Zr Zn Zp Zq Zo Zv Zw Zm Xz Q0 Zl Q1 Q2 Q4 Q5 Q6 Q7 Zs Q8 Q9 QA QB QC QD Zt Zh Zx Y1 Y2 QE QF Y3 QG Zj QH Zk Zg QI Zy Zz QJ QK QM QN QO QP QR QS Zd ZK ZI Zc Zf ZH ZM YB Z0 QT ZV ZL Ze ZC ZZ ZA Y5 ZJ Y8 Y9 Zb ZY ZU ZX Za ZT ZD ev get put Y4 ZS QU QV QW QX QY QZ ZE part ZW Qb Qc Qd isNil ZR ZQ ZB ZP YE Qe Qf Qg Qh Qi Qj Qk Ql Qm Qn Qo Qp Qq Qr Qs Qt AV.fits AV.cells ones AV.one YH YI YJ YK ZF ZG Qu Qv Qw Qx Y6 Y7 resV Z2 Qy YA u8e YF Qz V0 List.getElem?_cons_zero List.getElem?_cons_succ
set_option maxHeartbeats 8000000 in
theorem ruleOf_main (w1 w2 : Str) (rest L : List Str) (V : Rule × (Int × Int)) (s : Str) (hL : L = wEvery :: w1 :: w2 :: rest) (hsp : APure Tryz.prog 60 [.str s, aB 32] (aSs L)) (hs : ¬ 500 < s.length) (hw : ∀ x ∈ L, x.length ≤ 500) (hl : L.length ≤ 501)
    (hV : V = if (parseL L).2 = false then (zR, (1, -1)) else if (ruleF (parseL L).1).1 ≠ 0 then (zR, ruleF (parseL L).1) else ((parseL L).1, (0, 0))) : APure Tryz.prog 21 [.str s] (.tup [aR V.1, aF V.2]) := by
  have hs' : ¬ (500 : Int) < s.length := by omega
  have hp : parseL L = if (numI w1).2 = true ∧ 0 ≤ idxF w2 unitL then goR 6 (headR w1 w2) rest else (headR w1 w2, false) := by rw [hL]; rfl
  rw [hp] at hV
  clear hp
  have hlen : L.length = rest.length + 3 := by rw [hL]; rfl
  have h3' : ¬ (L.length : Int) < 3 := by omega
  have e0 : (aStrs L)[0]? = some (.str wEvery) := by rw [hL]; rfl
  have e1 : (aStrs L)[1]? = some (.str w1) := by rw [hL]; rfl
  have e2 : (aStrs L)[2]? = some (.str w2) := by rw [hL]; rfl
  have f0 : L[0]? = some wEvery := by rw [hL]; rfl
  have f1 : L[1]? = some w1 := by rw [hL]; rfl
  have f2 : L[2]? = some w2 := by rw [hL]; rfl
  have l1 := hw w1 (by rw [hL]; simp)
  have hdr : L.drop 3 = rest := by rw [hL]; rfl
  have hn := number_r w1 (by omega)
  obtain ⟨n1, n2⟩ := num_ref w1
  rw [n1] at hn
  have hui := fun k hk => unitR_at (w := w2) (k := k) hk
  have hb := idxF_ge w2 unitL
  have hul : unitL.length = 4 := rfl
  rw [hul] at hb
  unfold headR at hV
  generalize idxF w2 unitL = d at *
  generalize numI w1 = nm at *
  obtain ⟨v, ok⟩ := nm
  dsimp only at *
  cases ok with
  | false =>
    have hV' : V = (zR, (1, -1)) := by rw [hV, if_neg (fun h : false = true ∧ 0 ≤ d => by cases h.1)]; rfl
    clear hV
    subst hV'
    refine apure_intro Tryz.func21 cmp21 rfl fun n H hH => ?_
    repeat' (first | (simp -implicitDefEqProofs [c21_k1_go, c21_k2_go, c21_k3_go, c21_k4_go, c21_k5_go, c21_e6_go, c21_e7_go, c21_e8_go, c21_e9_go, c21_k10_go, c21_k11_go, c21_k12_go, c21_k13_go, c21_L14_go, c21_k15_go, c21_k16_go, c21_k17_go, c21_k18_go, c21_L19_go, c21_k20_go, c21_k21_go, c21_k22_go, c21, -getElem?_pos, hs, hs', h3', e0, e1, e2, f0, f1, f2, splice]) | (simp (disch := omega) only [upd_ne, Qy, if_pos, if_neg, IntWalk.i64_in, Int.tdiv_eq_ediv_of_nonneg, Int.tmod_eq_emod_of_nonneg]) | ((with_reducible refine CallP.chk (f := 12) ?_); (refine' CallP.sf ?_ (at_a _ _) ?_); (focus first | (with_reducible exact simL_refl _) | (simp [simL, simA, simA_refl, simL_refl]; done))) | ((with_reducible refine CallP.chk (f := 60) ?_); (refine' CallP.sf ?_ (hsp) ?_); (focus first | (with_reducible exact simL_refl _) | (simp [simL, simA, simA_refl, simL_refl]; done))) | ((with_reducible refine CallP.chk (f := 61) ?_); (refine' CallP.sf ?_ (hn) ?_); (focus first | (with_reducible exact simL_refl _) | (simp [simL, simA, simA_refl, simL_refl]; done))) | (with_reducible refine fin_r ?_ ?_ ?_) | (with_reducible exact SameB.rfl_ _ _) | (with_reducible refine SameB.upd ?_ ?_ _) | (with_reducible assumption) | (with_reducible refine newPM_of ?_) | (with_reducible refine newSM_of ?_) | (with_reducible refine newP_go ?_) | (with_reducible refine newS_go ?_) | (with_reducible intro _g _hg) | (with_reducible refine And.intro ?_ ?_) | (with_reducible intro _hc) | omega)
    all_goals exact simA_tup (simL_cons simZ (simL_refl _))
  | true =>
    rw [n2 rfl] at hn
    clear n1 n2
    have hua := unit_a
    refine apure_intro Tryz.func21 cmp21 rfl fun n H hH => ?_
    repeat' (first | (simp -implicitDefEqProofs [c21, c21_k22_go, c21_k21_go, c21_k20_go, -getElem?_pos, hs, hs', h3', e0, e1, e2, f0, f1, f2, splice]) | (simp (disch := omega) only [upd_ne, Qy, if_pos, if_neg, IntWalk.i64_in, Int.tdiv_eq_ediv_of_nonneg, Int.tmod_eq_emod_of_nonneg]) | ((with_reducible refine CallP.chk (f := 12) ?_); (refine' CallP.sf ?_ (at_a _ _) ?_); (focus first | (with_reducible exact simL_refl _) | (simp [simL, simA, simA_refl, simL_refl]; done))) | ((with_reducible refine CallP.chk (f := 60) ?_); (refine' CallP.sf ?_ (hsp) ?_); (focus first | (with_reducible exact simL_refl _) | (simp [simL, simA, simA_refl, simL_refl]; done))) | ((with_reducible refine CallP.chk (f := 61) ?_); (refine' CallP.sf ?_ (hn) ?_); (focus first | (with_reducible exact simL_refl _) | (simp [simL, simA, simA_refl, simL_refl]; done))) | (with_reducible refine fin_r ?_ ?_ ?_) | (with_reducible exact SameB.rfl_ _ _) | (with_reducible refine SameB.upd ?_ ?_ _) | (with_reducible assumption) | (with_reducible refine newPM_of ?_) | (with_reducible refine newSM_of ?_) | (with_reducible refine newP_go ?_) | (with_reducible refine newS_go ?_) | (with_reducible intro _g _hg) | (with_reducible refine And.intro ?_ ?_) | (with_reducible intro _hc) | omega)
    rename_i g2 hg2 g3 hg3 g4 hg4 g5 hg5
    generalize _g = g7 at *
    refine LoopK.go (fun q st => ∃ (k : Nat) (n' : Nat) (H' : AHeap), k + q = 5 ∧ 1 ≤ k ∧ st = ⟨[(2, .ptr g2 0), (3, .ptr g3 0), (4, .ptr g4 0), (5, .ptr g5 0), (6, aSs L), (7, .ptr g7 0), (10, aI k)], n', H'⟩ ∧ RO n H g2 g3 g4 g5 g7 [aI (if d + 1 < (k : Int) then d + 1 else 0), aI v, .sl 0 [] .nil, .sl 0 [] .nil, .sl 0 [] .nil, .sl 0 [] .nil, aI 0, aI 0] n' H') 4
      ⟨1, _, _, by omega, by omega, rfl, ?_⟩ ?_
    · have e : (if d + 1 < ((1 : Nat) : Int) then d + 1 else 0) = 0 := by split <;> omega
      rw [e]
      exact ⟨by simp (disch := omega) only [upd_ne, Qy], by simp (disch := omega) only [upd_ne, Qy], by simp (disch := omega) only [upd_ne, Qy], by simp (disch := omega) only [upd_ne, Qy], by simp (disch := omega) only [upd_ne, Qy],
        by repeat' (first | exact SameB.rfl_ _ _ | refine SameB.upd ?_ (by omega) _), fun j hj => by simp (disch := omega) only [upd_ne]; exact hH j (by omega), by omega⟩
    rintro q st ⟨k, n', H', hkq, hk1, rfl, hRO⟩ J hJ
    have hRO2 := hRO
    obtain ⟨he2, he3, he4, he5, he7, hS, hsup, o1, o2, o3, o4, o5, o6⟩ := hRO2
    by_cases hk4 : k ≤ 4
    · have hu := hua k
      have hk4' : (k : Int) ≤ 4 := by omega
      have hiu := hui k (by omega)
      by_cases hu2 : unitR k = w2
      · have hdk := hiu.1 hu2
        have hnx : (if d + 1 < ((k + 1 : Nat) : Int) then d + 1 else 0) = k := by rw [if_pos (by omega)]; omega
        rw [hu2] at hu
        repeat' (first | (simp -implicitDefEqProofs [c21_k1_go, c21_k2_go, c21_k3_go, c21_k4_go, c21_k5_go, c21_e6_go, c21_e7_go, c21_e8_go, c21_e9_go, c21_k10_go, c21_k11_go, c21_k12_go, c21_k13_go, c21_L14_go, c21_k15_go, c21_k16_go, c21_k17_go, c21_k18_go, c21_L19_go, c21_k20_go, c21_k21_go, c21_k22_go, c21, -getElem?_pos, e2, f2, he7, hk4, hk4', splice]) | (simp (disch := omega) only [upd_ne, Qy, if_pos, if_neg, IntWalk.i64_in, Int.tdiv_eq_ediv_of_nonneg, Int.tmod_eq_emod_of_nonneg]) | ((with_reducible refine CallP.chk (f := 58) ?_); (refine' CallP.sf ?_ (hu) ?_); (focus first | (with_reducible exact simL_refl _) | (simp [simL, simA, simA_refl, simL_refl]; done))) | (with_reducible refine fin_r ?_ ?_ ?_) | (with_reducible exact SameB.rfl_ _ _) | (with_reducible refine SameB.upd ?_ ?_ _) | (with_reducible assumption) | (with_reducible refine newPM_of ?_) | (with_reducible refine newSM_of ?_) | (with_reducible refine newP_go ?_) | (with_reducible refine newS_go ?_) | (with_reducible intro _g _hg) | (with_reducible refine And.intro ?_ ?_) | (with_reducible intro _hc) | omega)
        exact hJ (q - 1) _ (by omega) ⟨k + 1, _, _, by omega, by omega, rfl, by rw [hnx]; exact hRO.set _⟩
      · have hdk : d + 1 ≠ k := fun h => hu2 (hiu.2 h)
        have hnx : (if d + 1 < ((k + 1 : Nat) : Int) then d + 1 else 0) = if d + 1 < (k : Int) then d + 1 else 0 := by
          by_cases h : d + 1 < (k : Int)
          · rw [if_pos h, if_pos (by omega)]
          · rw [if_neg h, if_neg (by omega)]
        generalize unitR k = uu at *
        repeat' (first | (simp -implicitDefEqProofs [c21_k1_go, c21_k2_go, c21_k3_go, c21_k4_go, c21_k5_go, c21_e6_go, c21_e7_go, c21_e8_go, c21_e9_go, c21_k10_go, c21_k11_go, c21_k12_go, c21_k13_go, c21_L14_go, c21_k15_go, c21_k16_go, c21_k17_go, c21_k18_go, c21_L19_go, c21_k20_go, c21_k21_go, c21_k22_go, c21, -getElem?_pos, e2, f2, he7, hk4, hk4', hu2, splice]) | (simp (disch := omega) only [upd_ne, Qy, if_pos, if_neg, IntWalk.i64_in, Int.tdiv_eq_ediv_of_nonneg, Int.tmod_eq_emod_of_nonneg]) | ((with_reducible refine CallP.chk (f := 58) ?_); (refine' CallP.sf ?_ (hu) ?_); (focus first | (with_reducible exact simL_refl _) | (simp [simL, simA, simA_refl, simL_refl]; done))) | (with_reducible refine fin_r ?_ ?_ ?_) | (with_reducible exact SameB.rfl_ _ _) | (with_reducible refine SameB.upd ?_ ?_ _) | (with_reducible assumption) | (with_reducible refine newPM_of ?_) | (with_reducible refine newSM_of ?_) | (with_reducible refine newP_go ?_) | (with_reducible refine newS_go ?_) | (with_reducible intro _g _hg) | (with_reducible refine And.intro ?_ ?_) | (with_reducible intro _hc) | omega)
        exact hJ (q - 1) _ (by omega) ⟨k + 1, _, _, by omega, by omega, rfl, by rw [hnx]; exact hRO⟩
    have hk5 : k = 5 := by omega
    subst hk5
    have hval : (if d + 1 < ((5 : Nat) : Int) then d + 1 else 0) = d + 1 := if_pos (by omega)
    rw [hval] at hRO he7
    clear hval
    by_cases hd : 0 ≤ d
    · rw [if_pos (show true = true ∧ 0 ≤ d from ⟨rfl, hd⟩)] at hV
      have hd1 : ¬ d + 1 = 0 := by omega
      generalize hR : goR 6 (⟨d + 1, v, [], [], [], [], 0, 0⟩ : Rule) rest = R at hV
      have hVb : R.2 = false → V = (zR, (1, -1)) := fun h => by rw [hV, if_pos h]
      obtain ⟨E, hE⟩ : ∃ E, E = aStrs keyL := ⟨_, rfl⟩
      have hEl : E.length = 6 := by rw [hE]; rfl
      repeat' (first | (simp -implicitDefEqProofs [c21_L19_go, c21_k16_go, c21_k15_go, -getElem?_pos, he2, he3, he4, he5, he7, hd1, splice]) | (simp (disch := omega) only [upd_ne, Qy, if_pos, if_neg, IntWalk.i64_in, Int.tdiv_eq_ediv_of_nonneg, Int.tmod_eq_emod_of_nonneg]) | (with_reducible refine fin_r ?_ ?_ ?_) | (with_reducible exact SameB.rfl_ _ _) | (with_reducible refine SameB.upd ?_ ?_ _) | (with_reducible assumption) | (with_reducible refine newPM_of ?_) | (with_reducible refine newSM_of ?_) | (with_reducible refine newP_go ?_) | (with_reducible refine newS_go ?_) | (with_reducible intro _g _hg) | (with_reducible refine And.intro ?_ ?_) | (with_reducible intro _hc) | omega)
      clear hJ hkq hk1
      refine LoopK.go (fun q st => ∃ (k a n' : Nat) (H' : AHeap) (r : Rule) (cs : List AV), k + q = 6 ∧ st = ⟨[(2, .ptr g2 0), (3, .ptr g3 0), (4, .ptr g4 0), (5, .ptr g5 0), (6, aSs L), (7, .ptr g7 0), (11, aI a), (12, .sl 1 E (.own _g)), (13, aI k)], n', H'⟩ ∧ RO n H g2 g3 g4 g5 g7 cs n' H' ∧ RCells cs r ∧ a ≤ L.length ∧ R = goR q r (L.drop a)) 6
        ⟨0, 3, _, _, ⟨d + 1, v, [], [], [], [], 0, 0⟩, _, by omega, by rw [hE]; rfl, hRO.new _hg _, ⟨_, _, _, _, rfl, simA_nil, simA_nil, simA_nil, simA_nil⟩, by omega, by rw [hdr]; exact hR.symm⟩ ?_
      clear he2 he3 he4 he5 he7 hS hsup hRO o6 hR
      rintro q st ⟨k, a, n1, H1, r, cs, hkq, rfl, hRO, hRC, hal, hgo⟩ J hJ
      have hRO2 := hRO
      obtain ⟨he2, he3, he4, he5, he7, hS, hsup, _, _, _, _, _, o6⟩ := hRO2
      by_cases hk : k < 6
      · obtain ⟨m, rfl⟩ : ∃ m, q = m + 1 := ⟨q - 1, by omega⟩
        have hm5 : 5 - m = k := by omega
        have hEk : E[k]? = some (.str (keyL.getD k [])) := by
          rw [hE]
          rcases (by omega : k = 0 ∨ k = 1 ∨ k = 2 ∨ k = 3 ∨ k = 4 ∨ k = 5) with rfl | rfl | rfl | rfl | rfl | rfl <;> rfl
        by_cases hal2 : a + 1 < L.length
        · have hal2' : ¬ (L.length : Int) ≤ (a : Int) + 1 := by omega
          obtain ⟨w, hw1⟩ : ∃ w, L[a]? = some w := ⟨_, List.getElem?_eq_getElem (by omega)⟩
          obtain ⟨u, hu1⟩ : ∃ u, L[a + 1]? = some u := ⟨_, List.getElem?_eq_getElem (by omega)⟩
          have hea := str_at hw1
          have hea1 := str_at hu1
          have hul := hw u (List.mem_of_getElem? hu1)
          rw [drop_at hw1, drop_at hu1, goR, hm5] at hgo
          have hnum := numbersOf_a u (by omega)
          rw [items_ref] at hnum
          by_cases hkey : w = keyL.getD k []
          · rw [if_pos hkey] at hgo
            rw [← hkey] at hEk
            obtain ⟨c2, c3, c4, c5, rfl, q2, q3, q4, q5⟩ := hRC
            have hRC : RCells [aI r.unit, aI r.step, c2, c3, c4, c5, aI r.count, aI r.untl] r := ⟨_, _, _, _, rfl, q2, q3, q4, q5⟩
            obtain ⟨_, _, _, rfl⟩ := simA_sl_inv q2
            obtain ⟨_, _, _, rfl⟩ := simA_sl_inv q3
            obtain ⟨_, _, _, rfl⟩ := simA_sl_inv q4
            obtain ⟨_, _, _, rfl⟩ := simA_sl_inv q5
            rcases (by omega : k = 0 ∨ k = 1 ∨ k = 2 ∨ k = 3 ∨ k = 4 ∨ k = 5) with rfl | rfl | rfl | rfl | rfl | rfl
            · simp only [readK] at hgo
              generalize itemsV numI u = it at *
              obtain ⟨l, ok⟩ := it
              dsimp only at *
              cases ok with
              | false =>
                rw [if_neg (by simp)] at hgo
                have hv := hVb (by rw [hgo])
                rw [hv]
                repeat' (first | (simp -implicitDefEqProofs [c21_k1_go, c21_k2_go, c21_k3_go, c21_k4_go, c21_k5_go, c21_e6_go, c21_e7_go, c21_e8_go, c21_e9_go, c21_k10_go, c21_k11_go, c21_k12_go, c21_k13_go, c21_L14_go, c21_k15_go, c21_k16_go, c21_k17_go, c21_k18_go, c21_L19_go, c21_k20_go, c21_k21_go, c21_k22_go, c21, -getElem?_pos, hal2, hal2', hea, hea1, hw1, hu1, hEk, hEl, hk, he2, he3, he4, he5, he7, splice]) | (simp (disch := omega) only [upd_ne, Qy, if_pos, if_neg, IntWalk.i64_in, Int.tdiv_eq_ediv_of_nonneg, Int.tmod_eq_emod_of_nonneg]) | ((with_reducible refine CallP.chk (f := 62) ?_); (refine' CallP.sf ?_ (hnum) ?_); (focus first | (with_reducible exact simL_refl _) | (simp [simL, simA, simA_refl, simL_refl]; done))) | (with_reducible refine fin_r ?_ ?_ ?_) | (with_reducible exact SameB.rfl_ _ _) | (with_reducible refine SameB.upd ?_ ?_ _) | (with_reducible assumption) | (with_reducible refine newPM_of ?_) | (with_reducible refine newSM_of ?_) | (with_reducible refine newP_go ?_) | (with_reducible refine newS_go ?_) | (with_reducible intro _g _hg) | (with_reducible refine And.intro ?_ ?_) | (with_reducible intro _hc) | omega)
                all_goals exact simA_tup (simL_cons simZ (simL_refl _))
              | true =>
                rw [if_pos rfl] at hgo
                repeat' (first | (simp -implicitDefEqProofs [c21_k1_go, c21_k2_go, c21_k3_go, c21_k4_go, c21_k5_go, c21_e6_go, c21_e7_go, c21_e8_go, c21_e9_go, c21_k10_go, c21_k11_go, c21_k12_go, c21_k13_go, c21_L14_go, c21_k15_go, c21_k16_go, c21_k17_go, c21_k18_go, c21_L19_go, c21_k20_go, c21_k21_go, c21_k22_go, c21, -getElem?_pos, hal2, hal2', hea, hea1, hw1, hu1, hEk, hEl, hk, he2, he3, he4, he5, he7, splice]) | (simp (disch := omega) only [upd_ne, Qy, if_pos, if_neg, IntWalk.i64_in, Int.tdiv_eq_ediv_of_nonneg, Int.tmod_eq_emod_of_nonneg]) | ((with_reducible refine CallP.chk (f := 62) ?_); (refine' CallP.sf ?_ (hnum) ?_); (focus first | (with_reducible exact simL_refl _) | (simp [simL, simA, simA_refl, simL_refl]; done))) | (with_reducible refine fin_r ?_ ?_ ?_) | (with_reducible exact SameB.rfl_ _ _) | (with_reducible refine SameB.upd ?_ ?_ _) | (with_reducible assumption) | (with_reducible refine newPM_of ?_) | (with_reducible refine newSM_of ?_) | (with_reducible refine newP_go ?_) | (with_reducible refine newS_go ?_) | (with_reducible intro _g _hg) | (with_reducible refine And.intro ?_ ?_) | (with_reducible intro _hc) | omega)
                exact hJ m _ (by omega) ⟨1, a + 1 + 1, _, _, { r with months := l }, _, by omega, rfl, hRO.set _, ⟨_, _, _, _, rfl, simA_refl _, q3, q4, q5⟩, by omega, hgo⟩
            · simp only [readK] at hgo
              generalize itemsV numI u = it at *
              obtain ⟨l, ok⟩ := it
              dsimp only at *
              cases ok with
              | false =>
                rw [if_neg (by simp)] at hgo
                have hv := hVb (by rw [hgo])
                rw [hv]
                repeat' (first | (simp -implicitDefEqProofs [c21_k1_go, c21_k2_go, c21_k3_go, c21_k4_go, c21_k5_go, c21_e6_go, c21_e7_go, c21_e8_go, c21_e9_go, c21_k10_go, c21_k11_go, c21_k12_go, c21_k13_go, c21_L14_go, c21_k15_go, c21_k16_go, c21_k17_go, c21_k18_go, c21_L19_go, c21_k20_go, c21_k21_go, c21_k22_go, c21, -getElem?_pos, hal2, hal2', hea, hea1, hw1, hu1, hEk, hEl, hk, he2, he3, he4, he5, he7, splice]) | (simp (disch := omega) only [upd_ne, Qy, if_pos, if_neg, IntWalk.i64_in, Int.tdiv_eq_ediv_of_nonneg, Int.tmod_eq_emod_of_nonneg]) | ((with_reducible refine CallP.chk (f := 62) ?_); (refine' CallP.sf ?_ (hnum) ?_); (focus first | (with_reducible exact simL_refl _) | (simp [simL, simA, simA_refl, simL_refl]; done))) | (with_reducible refine fin_r ?_ ?_ ?_) | (with_reducible exact SameB.rfl_ _ _) | (with_reducible refine SameB.upd ?_ ?_ _) | (with_reducible assumption) | (with_reducible refine newPM_of ?_) | (with_reducible refine newSM_of ?_) | (with_reducible refine newP_go ?_) | (with_reducible refine newS_go ?_) | (with_reducible intro _g _hg) | (with_reducible refine And.intro ?_ ?_) | (with_reducible intro _hc) | omega)
                all_goals exact simA_tup (simL_cons simZ (simL_refl _))
              | true =>
                rw [if_pos rfl] at hgo
                repeat' (first | (simp -implicitDefEqProofs [c21_k1_go, c21_k2_go, c21_k3_go, c21_k4_go, c21_k5_go, c21_e6_go, c21_e7_go, c21_e8_go, c21_e9_go, c21_k10_go, c21_k11_go, c21_k12_go, c21_k13_go, c21_L14_go, c21_k15_go, c21_k16_go, c21_k17_go, c21_k18_go, c21_L19_go, c21_k20_go, c21_k21_go, c21_k22_go, c21, -getElem?_pos, hal2, hal2', hea, hea1, hw1, hu1, hEk, hEl, hk, he2, he3, he4, he5, he7, splice]) | (simp (disch := omega) only [upd_ne, Qy, if_pos, if_neg, IntWalk.i64_in, Int.tdiv_eq_ediv_of_nonneg, Int.tmod_eq_emod_of_nonneg]) | ((with_reducible refine CallP.chk (f := 62) ?_); (refine' CallP.sf ?_ (hnum) ?_); (focus first | (with_reducible exact simL_refl _) | (simp [simL, simA, simA_refl, simL_refl]; done))) | (with_reducible refine fin_r ?_ ?_ ?_) | (with_reducible exact SameB.rfl_ _ _) | (with_reducible refine SameB.upd ?_ ?_ _) | (with_reducible assumption) | (with_reducible refine newPM_of ?_) | (with_reducible refine newSM_of ?_) | (with_reducible refine newP_go ?_) | (with_reducible refine newS_go ?_) | (with_reducible intro _g _hg) | (with_reducible refine And.intro ?_ ?_) | (with_reducible intro _hc) | omega)
                exact hJ m _ (by omega) ⟨2, a + 1 + 1, _, _, { r with mdays := l }, _, by omega, rfl, hRO.set _, ⟨_, _, _, _, rfl, q2, simA_refl _, q4, q5⟩, by omega, hgo⟩
            · simp only [readK] at hgo
              have hwd := wdaysOf_a u (by omega)
              rw [items_wd] at hwd
              generalize itemsV numI u = it0 at *
              generalize itemsV wdI u = it at *
              obtain ⟨l0, ok0⟩ := it0
              obtain ⟨l, ok⟩ := it
              dsimp only at *
              cases ok with
              | false =>
                rw [if_neg (by simp)] at hgo
                have hv := hVb (by rw [hgo])
                rw [hv]
                repeat' (first | (simp -implicitDefEqProofs [c21_k1_go, c21_k2_go, c21_k3_go, c21_k4_go, c21_k5_go, c21_e6_go, c21_e7_go, c21_e8_go, c21_e9_go, c21_k10_go, c21_k11_go, c21_k12_go, c21_k13_go, c21_L14_go, c21_k15_go, c21_k16_go, c21_k17_go, c21_k18_go, c21_L19_go, c21_k20_go, c21_k21_go, c21_k22_go, c21, -getElem?_pos, hal2, hal2', hea, hea1, hw1, hu1, hEk, hEl, hk, he2, he3, he4, he5, he7, splice]) | (simp (disch := omega) only [upd_ne, Qy, if_pos, if_neg, IntWalk.i64_in, Int.tdiv_eq_ediv_of_nonneg, Int.tmod_eq_emod_of_nonneg]) | ((with_reducible refine CallP.chk (f := 62) ?_); (refine' CallP.sf ?_ (hnum) ?_); (focus first | (with_reducible exact simL_refl _) | (simp [simL, simA, simA_refl, simL_refl]; done))) | ((with_reducible refine CallP.chk (f := 63) ?_); (refine' CallP.sf ?_ (hwd) ?_); (focus first | (with_reducible exact simL_refl _) | (simp [simL, simA, simA_refl, simL_refl]; done))) | (with_reducible refine fin_r ?_ ?_ ?_) | (with_reducible exact SameB.rfl_ _ _) | (with_reducible refine SameB.upd ?_ ?_ _) | (with_reducible assumption) | (with_reducible refine newPM_of ?_) | (with_reducible refine newSM_of ?_) | (with_reducible refine newP_go ?_) | (with_reducible refine newS_go ?_) | (with_reducible intro _g _hg) | (with_reducible refine And.intro ?_ ?_) | (with_reducible intro _hc) | omega)
                all_goals exact simA_tup (simL_cons simZ (simL_refl _))
              | true =>
                rw [if_pos rfl] at hgo
                repeat' (first | (simp -implicitDefEqProofs [c21_k1_go, c21_k2_go, c21_k3_go, c21_k4_go, c21_k5_go, c21_e6_go, c21_e7_go, c21_e8_go, c21_e9_go, c21_k10_go, c21_k11_go, c21_k12_go, c21_k13_go, c21_L14_go, c21_k15_go, c21_k16_go, c21_k17_go, c21_k18_go, c21_L19_go, c21_k20_go, c21_k21_go, c21_k22_go, c21, -getElem?_pos, hal2, hal2', hea, hea1, hw1, hu1, hEk, hEl, hk, he2, he3, he4, he5, he7, splice]) | (simp (disch := omega) only [upd_ne, Qy, if_pos, if_neg, IntWalk.i64_in, Int.tdiv_eq_ediv_of_nonneg, Int.tmod_eq_emod_of_nonneg]) | ((with_reducible refine CallP.chk (f := 62) ?_); (refine' CallP.sf ?_ (hnum) ?_); (focus first | (with_reducible exact simL_refl _) | (simp [simL, simA, simA_refl, simL_refl]; done))) | ((with_reducible refine CallP.chk (f := 63) ?_); (refine' CallP.sf ?_ (hwd) ?_); (focus first | (with_reducible exact simL_refl _) | (simp [simL, simA, simA_refl, simL_refl]; done))) | (with_reducible refine fin_r ?_ ?_ ?_) | (with_reducible exact SameB.rfl_ _ _) | (with_reducible refine SameB.upd ?_ ?_ _) | (with_reducible assumption) | (with_reducible refine newPM_of ?_) | (with_reducible refine newSM_of ?_) | (with_reducible refine newP_go ?_) | (with_reducible refine newS_go ?_) | (with_reducible intro _g _hg) | (with_reducible refine And.intro ?_ ?_) | (with_reducible intro _hc) | omega)
                exact hJ m _ (by omega) ⟨3, a + 1 + 1, _, _, { r with wdays := l }, _, by omega, rfl, hRO.set _, ⟨_, _, _, _, rfl, q2, q3, simA_refl _, q5⟩, by omega, hgo⟩
            · simp only [readK] at hgo
              generalize itemsV numI u = it at *
              obtain ⟨l, ok⟩ := it
              dsimp only at *
              cases ok with
              | false =>
                rw [if_neg (by simp)] at hgo
                have hv := hVb (by rw [hgo])
                rw [hv]
                repeat' (first | (simp -implicitDefEqProofs [c21_k1_go, c21_k2_go, c21_k3_go, c21_k4_go, c21_k5_go, c21_e6_go, c21_e7_go, c21_e8_go, c21_e9_go, c21_k10_go, c21_k11_go, c21_k12_go, c21_k13_go, c21_L14_go, c21_k15_go, c21_k16_go, c21_k17_go, c21_k18_go, c21_L19_go, c21_k20_go, c21_k21_go, c21_k22_go, c21, -getElem?_pos, hal2, hal2', hea, hea1, hw1, hu1, hEk, hEl, hk, he2, he3, he4, he5, he7, splice]) | (simp (disch := omega) only [upd_ne, Qy, if_pos, if_neg, IntWalk.i64_in, Int.tdiv_eq_ediv_of_nonneg, Int.tmod_eq_emod_of_nonneg]) | ((with_reducible refine CallP.chk (f := 62) ?_); (refine' CallP.sf ?_ (hnum) ?_); (focus first | (with_reducible exact simL_refl _) | (simp [simL, simA, simA_refl, simL_refl]; done))) | (with_reducible refine fin_r ?_ ?_ ?_) | (with_reducible exact SameB.rfl_ _ _) | (with_reducible refine SameB.upd ?_ ?_ _) | (with_reducible assumption) | (with_reducible refine newPM_of ?_) | (with_reducible refine newSM_of ?_) | (with_reducible refine newP_go ?_) | (with_reducible refine newS_go ?_) | (with_reducible intro _g _hg) | (with_reducible refine And.intro ?_ ?_) | (with_reducible intro _hc) | omega)
                all_goals exact simA_tup (simL_cons simZ (simL_refl _))
              | true =>
                rw [if_pos rfl] at hgo
                repeat' (first | (simp -implicitDefEqProofs [c21_k1_go, c21_k2_go, c21_k3_go, c21_k4_go, c21_k5_go, c21_e6_go, c21_e7_go, c21_e8_go, c21_e9_go, c21_k10_go, c21_k11_go, c21_k12_go, c21_k13_go, c21_L14_go, c21_k15_go, c21_k16_go, c21_k17_go, c21_k18_go, c21_L19_go, c21_k20_go, c21_k21_go, c21_k22_go, c21, -getElem?_pos, hal2, hal2', hea, hea1, hw1, hu1, hEk, hEl, hk, he2, he3, he4, he5, he7, splice]) | (simp (disch := omega) only [upd_ne, Qy, if_pos, if_neg, IntWalk.i64_in, Int.tdiv_eq_ediv_of_nonneg, Int.tmod_eq_emod_of_nonneg]) | ((with_reducible refine CallP.chk (f := 62) ?_); (refine' CallP.sf ?_ (hnum) ?_); (focus first | (with_reducible exact simL_refl _) | (simp [simL, simA, simA_refl, simL_refl]; done))) | (with_reducible refine fin_r ?_ ?_ ?_) | (with_reducible exact SameB.rfl_ _ _) | (with_reducible refine SameB.upd ?_ ?_ _) | (with_reducible assumption) | (with_reducible refine newPM_of ?_) | (with_reducible refine newSM_of ?_) | (with_reducible refine newP_go ?_) | (with_reducible refine newS_go ?_) | (with_reducible intro _g _hg) | (with_reducible refine And.intro ?_ ?_) | (with_reducible intro _hc) | omega)
                exact hJ m _ (by omega) ⟨4, a + 1 + 1, _, _, { r with picks := l }, _, by omega, rfl, hRO.set _, ⟨_, _, _, _, rfl, q2, q3, q4, simA_refl _⟩, by omega, hgo⟩
            · simp only [readK] at hgo
              rcases one_num u with ⟨x, h1, h2, hx⟩ | ⟨hbad, hc⟩
              · rw [h1] at hnum
                rw [h2, if_pos (by simp [hx])] at hgo
                dsimp only at *
                repeat' (first | (simp -implicitDefEqProofs [c21_k1_go, c21_k2_go, c21_k3_go, c21_k4_go, c21_k5_go, c21_e6_go, c21_e7_go, c21_e8_go, c21_e9_go, c21_k10_go, c21_k11_go, c21_k12_go, c21_k13_go, c21_L14_go, c21_k15_go, c21_k16_go, c21_k17_go, c21_k18_go, c21_L19_go, c21_k20_go, c21_k21_go, c21_k22_go, c21, -getElem?_pos, hal2, hal2', hea, hea1, hw1, hu1, hEk, hEl, hk, he2, he3, he4, he5, he7, splice, hx]) | (simp (disch := omega) only [upd_ne, Qy, if_pos, if_neg, IntWalk.i64_in, Int.tdiv_eq_ediv_of_nonneg, Int.tmod_eq_emod_of_nonneg]) | ((with_reducible refine CallP.chk (f := 62) ?_); (refine' CallP.sf ?_ (hnum) ?_); (focus first | (with_reducible exact simL_refl _) | (simp [simL, simA, simA_refl, simL_refl]; done))) | (with_reducible refine fin_r ?_ ?_ ?_) | (with_reducible exact SameB.rfl_ _ _) | (with_reducible refine SameB.upd ?_ ?_ _) | (with_reducible assumption) | (with_reducible refine newPM_of ?_) | (with_reducible refine newSM_of ?_) | (with_reducible refine newP_go ?_) | (with_reducible refine newS_go ?_) | (with_reducible intro _g _hg) | (with_reducible refine And.intro ?_ ?_) | (with_reducible intro _hc) | omega)
                exact hJ m _ (by omega) ⟨5, a + 1 + 1, _, _, { r with count := x }, _, by omega, rfl, hRO.set _, ⟨_, _, _, _, rfl, q2, q3, q4, q5⟩, by omega, hgo⟩
              · rw [if_neg (by rw [hbad]; simp)] at hgo
                have hv := hVb (by rw [hgo])
                rw [hv]
                rcases hc with hc | ⟨hc1, hc2⟩ | hc
                · rw [hc] at hnum
                  repeat' (first | (simp -implicitDefEqProofs [c21_k1_go, c21_k2_go, c21_k3_go, c21_k4_go, c21_k5_go, c21_e6_go, c21_e7_go, c21_e8_go, c21_e9_go, c21_k10_go, c21_k11_go, c21_k12_go, c21_k13_go, c21_L14_go, c21_k15_go, c21_k16_go, c21_k17_go, c21_k18_go, c21_L19_go, c21_k20_go, c21_k21_go, c21_k22_go, c21, -getElem?_pos, hal2, hal2', hea, hea1, hw1, hu1, hEk, hEl, hk, he2, he3, he4, he5, he7, splice]) | (simp (disch := omega) only [upd_ne, Qy, if_pos, if_neg, IntWalk.i64_in, Int.tdiv_eq_ediv_of_nonneg, Int.tmod_eq_emod_of_nonneg]) | ((with_reducible refine CallP.chk (f := 62) ?_); (refine' CallP.sf ?_ (hnum) ?_); (focus first | (with_reducible exact simL_refl _) | (simp [simL, simA, simA_refl, simL_refl]; done))) | (with_reducible refine fin_r ?_ ?_ ?_) | (with_reducible exact SameB.rfl_ _ _) | (with_reducible refine SameB.upd ?_ ?_ _) | (with_reducible assumption) | (with_reducible refine newPM_of ?_) | (with_reducible refine newSM_of ?_) | (with_reducible refine newP_go ?_) | (with_reducible refine newS_go ?_) | (with_reducible intro _g _hg) | (with_reducible refine And.intro ?_ ?_) | (with_reducible intro _hc) | omega)
                  all_goals exact simA_tup (simL_cons simZ (simL_refl _))
                · generalize itemsV numI u = it at *
                  obtain ⟨l, ok⟩ := it
                  dsimp only at *
                  subst hc1
                  have hc2' : ¬ (l.length : Int) = 1 := by omega
                  obtain ⟨l0, hl0⟩ : ∃ x, l = [] ∨ l[0]? = some x := by
                    cases l with
                    | nil => exact ⟨0, .inl rfl⟩
                    | cons y t => exact ⟨y, .inr rfl⟩
                  rcases hl0 with rfl | hl0
                  · repeat' (first | (simp -implicitDefEqProofs [c21_k1_go, c21_k2_go, c21_k3_go, c21_k4_go, c21_k5_go, c21_e6_go, c21_e7_go, c21_e8_go, c21_e9_go, c21_k10_go, c21_k11_go, c21_k12_go, c21_k13_go, c21_L14_go, c21_k15_go, c21_k16_go, c21_k17_go, c21_k18_go, c21_L19_go, c21_k20_go, c21_k21_go, c21_k22_go, c21, -getElem?_pos, hal2, hal2', hea, hea1, hw1, hu1, hEk, hEl, hk, he2, he3, he4, he5, he7, splice, hc2, hc2']) | (simp (disch := omega) only [upd_ne, Qy, if_pos, if_neg, IntWalk.i64_in, Int.tdiv_eq_ediv_of_nonneg, Int.tmod_eq_emod_of_nonneg]) | ((with_reducible refine CallP.chk (f := 62) ?_); (refine' CallP.sf ?_ (hnum) ?_); (focus first | (with_reducible exact simL_refl _) | (simp [simL, simA, simA_refl, simL_refl]; done))) | (with_reducible refine fin_r ?_ ?_ ?_) | (with_reducible exact SameB.rfl_ _ _) | (with_reducible refine SameB.upd ?_ ?_ _) | (with_reducible assumption) | (with_reducible refine newPM_of ?_) | (with_reducible refine newSM_of ?_) | (with_reducible refine newP_go ?_) | (with_reducible refine newS_go ?_) | (with_reducible intro _g _hg) | (with_reducible refine And.intro ?_ ?_) | (with_reducible intro _hc) | omega)
                    all_goals exact simA_tup (simL_cons simZ (simL_refl _))
                  · repeat' (first | (simp -implicitDefEqProofs [c21_k1_go, c21_k2_go, c21_k3_go, c21_k4_go, c21_k5_go, c21_e6_go, c21_e7_go, c21_e8_go, c21_e9_go, c21_k10_go, c21_k11_go, c21_k12_go, c21_k13_go, c21_L14_go, c21_k15_go, c21_k16_go, c21_k17_go, c21_k18_go, c21_L19_go, c21_k20_go, c21_k21_go, c21_k22_go, c21, -getElem?_pos, hal2, hal2', hea, hea1, hw1, hu1, hEk, hEl, hk, he2, he3, he4, he5, he7, splice, hc2, hc2', hl0]) | (simp (disch := omega) only [upd_ne, Qy, if_pos, if_neg, IntWalk.i64_in, Int.tdiv_eq_ediv_of_nonneg, Int.tmod_eq_emod_of_nonneg]) | ((with_reducible refine CallP.chk (f := 62) ?_); (refine' CallP.sf ?_ (hnum) ?_); (focus first | (with_reducible exact simL_refl _) | (simp [simL, simA, simA_refl, simL_refl]; done))) | (with_reducible refine fin_r ?_ ?_ ?_) | (with_reducible exact SameB.rfl_ _ _) | (with_reducible refine SameB.upd ?_ ?_ _) | (with_reducible assumption) | (with_reducible refine newPM_of ?_) | (with_reducible refine newSM_of ?_) | (with_reducible refine newP_go ?_) | (with_reducible refine newS_go ?_) | (with_reducible intro _g _hg) | (with_reducible refine And.intro ?_ ?_) | (with_reducible intro _hc) | omega)
                    all_goals exact simA_tup (simL_cons simZ (simL_refl _))
                · rw [hc] at hnum
                  repeat' (first | (simp -implicitDefEqProofs [c21_k1_go, c21_k2_go, c21_k3_go, c21_k4_go, c21_k5_go, c21_e6_go, c21_e7_go, c21_e8_go, c21_e9_go, c21_k10_go, c21_k11_go, c21_k12_go, c21_k13_go, c21_L14_go, c21_k15_go, c21_k16_go, c21_k17_go, c21_k18_go, c21_L19_go, c21_k20_go, c21_k21_go, c21_k22_go, c21, -getElem?_pos, hal2, hal2', hea, hea1, hw1, hu1, hEk, hEl, hk, he2, he3, he4, he5, he7, splice]) | (simp (disch := omega) only [upd_ne, Qy, if_pos, if_neg, IntWalk.i64_in, Int.tdiv_eq_ediv_of_nonneg, Int.tmod_eq_emod_of_nonneg]) | ((with_reducible refine CallP.chk (f := 62) ?_); (refine' CallP.sf ?_ (hnum) ?_); (focus first | (with_reducible exact simL_refl _) | (simp [simL, simA, simA_refl, simL_refl]; done))) | (with_reducible refine fin_r ?_ ?_ ?_) | (with_reducible exact SameB.rfl_ _ _) | (with_reducible refine SameB.upd ?_ ?_ _) | (with_reducible assumption) | (with_reducible refine newPM_of ?_) | (with_reducible refine newSM_of ?_) | (with_reducible refine newP_go ?_) | (with_reducible refine newS_go ?_) | (with_reducible intro _g _hg) | (with_reducible refine And.intro ?_ ?_) | (with_reducible intro _hc) | omega)
                  all_goals exact simA_tup (simL_cons simZ (simL_refl _))
            · simp only [readK] at hgo
              rcases one_num u with ⟨x, h1, h2, hx⟩ | ⟨hbad, hc⟩
              · rw [h1] at hnum
                rw [h2, if_pos (by simp [hx])] at hgo
                dsimp only at *
                repeat' (first | (simp -implicitDefEqProofs [c21_k1_go, c21_k2_go, c21_k3_go, c21_k4_go, c21_k5_go, c21_e6_go, c21_e7_go, c21_e8_go, c21_e9_go, c21_k10_go, c21_k11_go, c21_k12_go, c21_k13_go, c21_L14_go, c21_k15_go, c21_k16_go, c21_k17_go, c21_k18_go, c21_L19_go, c21_k20_go, c21_k21_go, c21_k22_go, c21, -getElem?_pos, hal2, hal2', hea, hea1, hw1, hu1, hEk, hEl, hk, he2, he3, he4, he5, he7, splice, hx]) | (simp (disch := omega) only [upd_ne, Qy, if_pos, if_neg, IntWalk.i64_in, Int.tdiv_eq_ediv_of_nonneg, Int.tmod_eq_emod_of_nonneg]) | ((with_reducible refine CallP.chk (f := 62) ?_); (refine' CallP.sf ?_ (hnum) ?_); (focus first | (with_reducible exact simL_refl _) | (simp [simL, simA, simA_refl, simL_refl]; done))) | (with_reducible refine fin_r ?_ ?_ ?_) | (with_reducible exact SameB.rfl_ _ _) | (with_reducible refine SameB.upd ?_ ?_ _) | (with_reducible assumption) | (with_reducible refine newPM_of ?_) | (with_reducible refine newSM_of ?_) | (with_reducible refine newP_go ?_) | (with_reducible refine newS_go ?_) | (with_reducible intro _g _hg) | (with_reducible refine And.intro ?_ ?_) | (with_reducible intro _hc) | omega)
                exact hJ m _ (by omega) ⟨6, a + 1 + 1, _, _, { r with untl := x }, _, by omega, rfl, hRO.set _, ⟨_, _, _, _, rfl, q2, q3, q4, q5⟩, by omega, hgo⟩
              · rw [if_neg (by rw [hbad]; simp)] at hgo
                have hv := hVb (by rw [hgo])
                rw [hv]
                rcases hc with hc | ⟨hc1, hc2⟩ | hc
                · rw [hc] at hnum
                  repeat' (first | (simp -implicitDefEqProofs [c21_k1_go, c21_k2_go, c21_k3_go, c21_k4_go, c21_k5_go, c21_e6_go, c21_e7_go, c21_e8_go, c21_e9_go, c21_k10_go, c21_k11_go, c21_k12_go, c21_k13_go, c21_L14_go, c21_k15_go, c21_k16_go, c21_k17_go, c21_k18_go, c21_L19_go, c21_k20_go, c21_k21_go, c21_k22_go, c21, -getElem?_pos, hal2, hal2', hea, hea1, hw1, hu1, hEk, hEl, hk, he2, he3, he4, he5, he7, splice]) | (simp (disch := omega) only [upd_ne, Qy, if_pos, if_neg, IntWalk.i64_in, Int.tdiv_eq_ediv_of_nonneg, Int.tmod_eq_emod_of_nonneg]) | ((with_reducible refine CallP.chk (f := 62) ?_); (refine' CallP.sf ?_ (hnum) ?_); (focus first | (with_reducible exact simL_refl _) | (simp [simL, simA, simA_refl, simL_refl]; done))) | (with_reducible refine fin_r ?_ ?_ ?_) | (with_reducible exact SameB.rfl_ _ _) | (with_reducible refine SameB.upd ?_ ?_ _) | (with_reducible assumption) | (with_reducible refine newPM_of ?_) | (with_reducible refine newSM_of ?_) | (with_reducible refine newP_go ?_) | (with_reducible refine newS_go ?_) | (with_reducible intro _g _hg) | (with_reducible refine And.intro ?_ ?_) | (with_reducible intro _hc) | omega)
                  all_goals exact simA_tup (simL_cons simZ (simL_refl _))
                · generalize itemsV numI u = it at *
                  obtain ⟨l, ok⟩ := it
                  dsimp only at *
                  subst hc1
                  have hc2' : ¬ (l.length : Int) = 1 := by omega
                  obtain ⟨l0, hl0⟩ : ∃ x, l = [] ∨ l[0]? = some x := by
                    cases l with
                    | nil => exact ⟨0, .inl rfl⟩
                    | cons y t => exact ⟨y, .inr rfl⟩
                  rcases hl0 with rfl | hl0
                  · repeat' (first | (simp -implicitDefEqProofs [c21_k1_go, c21_k2_go, c21_k3_go, c21_k4_go, c21_k5_go, c21_e6_go, c21_e7_go, c21_e8_go, c21_e9_go, c21_k10_go, c21_k11_go, c21_k12_go, c21_k13_go, c21_L14_go, c21_k15_go, c21_k16_go, c21_k17_go, c21_k18_go, c21_L19_go, c21_k20_go, c21_k21_go, c21_k22_go, c21, -getElem?_pos, hal2, hal2', hea, hea1, hw1, hu1, hEk, hEl, hk, he2, he3, he4, he5, he7, splice, hc2, hc2']) | (simp (disch := omega) only [upd_ne, Qy, if_pos, if_neg, IntWalk.i64_in, Int.tdiv_eq_ediv_of_nonneg, Int.tmod_eq_emod_of_nonneg]) | ((with_reducible refine CallP.chk (f := 62) ?_); (refine' CallP.sf ?_ (hnum) ?_); (focus first | (with_reducible exact simL_refl _) | (simp [simL, simA, simA_refl, simL_refl]; done))) | (with_reducible refine fin_r ?_ ?_ ?_) | (with_reducible exact SameB.rfl_ _ _) | (with_reducible refine SameB.upd ?_ ?_ _) | (with_reducible assumption) | (with_reducible refine newPM_of ?_) | (with_reducible refine newSM_of ?_) | (with_reducible refine newP_go ?_) | (with_reducible refine newS_go ?_) | (with_reducible intro _g _hg) | (with_reducible refine And.intro ?_ ?_) | (with_reducible intro _hc) | omega)
                    all_goals exact simA_tup (simL_cons simZ (simL_refl _))
                  · repeat' (first | (simp -implicitDefEqProofs [c21_k1_go, c21_k2_go, c21_k3_go, c21_k4_go, c21_k5_go, c21_e6_go, c21_e7_go, c21_e8_go, c21_e9_go, c21_k10_go, c21_k11_go, c21_k12_go, c21_k13_go, c21_L14_go, c21_k15_go, c21_k16_go, c21_k17_go, c21_k18_go, c21_L19_go, c21_k20_go, c21_k21_go, c21_k22_go, c21, -getElem?_pos, hal2, hal2', hea, hea1, hw1, hu1, hEk, hEl, hk, he2, he3, he4, he5, he7, splice, hc2, hc2', hl0]) | (simp (disch := omega) only [upd_ne, Qy, if_pos, if_neg, IntWalk.i64_in, Int.tdiv_eq_ediv_of_nonneg, Int.tmod_eq_emod_of_nonneg]) | ((with_reducible refine CallP.chk (f := 62) ?_); (refine' CallP.sf ?_ (hnum) ?_); (focus first | (with_reducible exact simL_refl _) | (simp [simL, simA, simA_refl, simL_refl]; done))) | (with_reducible refine fin_r ?_ ?_ ?_) | (with_reducible exact SameB.rfl_ _ _) | (with_reducible refine SameB.upd ?_ ?_ _) | (with_reducible assumption) | (with_reducible refine newPM_of ?_) | (with_reducible refine newSM_of ?_) | (with_reducible refine newP_go ?_) | (with_reducible refine newS_go ?_) | (with_reducible intro _g _hg) | (with_reducible refine And.intro ?_ ?_) | (with_reducible intro _hc) | omega)
                    all_goals exact simA_tup (simL_cons simZ (simL_refl _))
                · rw [hc] at hnum
                  repeat' (first | (simp -implicitDefEqProofs [c21_k1_go, c21_k2_go, c21_k3_go, c21_k4_go, c21_k5_go, c21_e6_go, c21_e7_go, c21_e8_go, c21_e9_go, c21_k10_go, c21_k11_go, c21_k12_go, c21_k13_go, c21_L14_go, c21_k15_go, c21_k16_go, c21_k17_go, c21_k18_go, c21_L19_go, c21_k20_go, c21_k21_go, c21_k22_go, c21, -getElem?_pos, hal2, hal2', hea, hea1, hw1, hu1, hEk, hEl, hk, he2, he3, he4, he5, he7, splice]) | (simp (disch := omega) only [upd_ne, Qy, if_pos, if_neg, IntWalk.i64_in, Int.tdiv_eq_ediv_of_nonneg, Int.tmod_eq_emod_of_nonneg]) | ((with_reducible refine CallP.chk (f := 62) ?_); (refine' CallP.sf ?_ (hnum) ?_); (focus first | (with_reducible exact simL_refl _) | (simp [simL, simA, simA_refl, simL_refl]; done))) | (with_reducible refine fin_r ?_ ?_ ?_) | (with_reducible exact SameB.rfl_ _ _) | (with_reducible refine SameB.upd ?_ ?_ _) | (with_reducible assumption) | (with_reducible refine newPM_of ?_) | (with_reducible refine newSM_of ?_) | (with_reducible refine newP_go ?_) | (with_reducible refine newS_go ?_) | (with_reducible intro _g _hg) | (with_reducible refine And.intro ?_ ?_) | (with_reducible intro _hc) | omega)
                  all_goals exact simA_tup (simL_cons simZ (simL_refl _))
          · rw [if_neg hkey] at hgo
            generalize keyL.getD k [] = ky at *
            repeat' (first | (simp -implicitDefEqProofs [c21_k1_go, c21_k2_go, c21_k3_go, c21_k4_go, c21_k5_go, c21_e6_go, c21_e7_go, c21_e8_go, c21_e9_go, c21_k10_go, c21_k11_go, c21_k12_go, c21_k13_go, c21_L14_go, c21_k15_go, c21_k16_go, c21_k17_go, c21_k18_go, c21_L19_go, c21_k20_go, c21_k21_go, c21_k22_go, c21, -getElem?_pos, hal2, hal2', hea, hea1, hw1, hu1, hEk, hEl, hk, he2, he3, he4, he5, he7, splice, hkey]) | (simp (disch := omega) only [upd_ne, Qy, if_pos, if_neg, IntWalk.i64_in, Int.tdiv_eq_ediv_of_nonneg, Int.tmod_eq_emod_of_nonneg]) | (with_reducible refine fin_r ?_ ?_ ?_) | (with_reducible exact SameB.rfl_ _ _) | (with_reducible refine SameB.upd ?_ ?_ _) | (with_reducible assumption) | (with_reducible refine newPM_of ?_) | (with_reducible refine newSM_of ?_) | (with_reducible refine newP_go ?_) | (with_reducible refine newS_go ?_) | (with_reducible intro _g _hg) | (with_reducible refine And.intro ?_ ?_) | (with_reducible intro _hc) | omega)
            exact hJ m _ (by omega) ⟨k + 1, a, _, _, r, _, by omega, rfl, hRO, hRC, hal, by rw [drop_at hw1, drop_at hu1]; exact hgo⟩
        · have hal2' : (L.length : Int) ≤ (a : Int) + 1 := by omega
          have hgo' : R = goR m r (L.drop a) := by
            have hdl : (L.drop a).length ≤ 1 := by rw [List.length_drop]; omega
            generalize L.drop a = ws at *
            match ws with
            | [] => exact hgo
            | [x] => exact hgo
            | _ :: _ :: _ => simp at hdl
          by_cases hal3 : a < L.length
          · obtain ⟨w, hw1⟩ : ∃ w, L[a]? = some w := ⟨_, List.getElem?_eq_getElem hal3⟩
            have hea := str_at hw1
            repeat' (first | (simp -implicitDefEqProofs [c21_k1_go, c21_k2_go, c21_k3_go, c21_k4_go, c21_k5_go, c21_e6_go, c21_e7_go, c21_e8_go, c21_e9_go, c21_k10_go, c21_k11_go, c21_k12_go, c21_k13_go, c21_L14_go, c21_k15_go, c21_k16_go, c21_k17_go, c21_k18_go, c21_L19_go, c21_k20_go, c21_k21_go, c21_k22_go, c21, -getElem?_pos, hal2, hal2', hk, hEl, hw1, hea, hEk, splice]) | (simp (disch := omega) only [upd_ne, Qy, if_pos, if_neg, IntWalk.i64_in, Int.tdiv_eq_ediv_of_nonneg, Int.tmod_eq_emod_of_nonneg]) | (with_reducible refine fin_r ?_ ?_ ?_) | (with_reducible exact SameB.rfl_ _ _) | (with_reducible refine SameB.upd ?_ ?_ _) | (with_reducible assumption) | (with_reducible refine newPM_of ?_) | (with_reducible refine newSM_of ?_) | (with_reducible refine newP_go ?_) | (with_reducible refine newS_go ?_) | (with_reducible intro _g _hg) | (with_reducible refine And.intro ?_ ?_) | (with_reducible intro _hc) | omega)
            exact hJ m _ (by omega) ⟨k + 1, a, _, _, r, _, by omega, rfl, hRO, hRC, hal, hgo'⟩
          · have hw1 : L[a]? = none := List.getElem?_eq_none (by omega)
            repeat' (first | (simp -implicitDefEqProofs [c21_k1_go, c21_k2_go, c21_k3_go, c21_k4_go, c21_k5_go, c21_e6_go, c21_e7_go, c21_e8_go, c21_e9_go, c21_k10_go, c21_k11_go, c21_k12_go, c21_k13_go, c21_L14_go, c21_k15_go, c21_k16_go, c21_k17_go, c21_k18_go, c21_L19_go, c21_k20_go, c21_k21_go, c21_k22_go, c21, -getElem?_pos, hal2, hal2', hk, hEl, hw1, hEk, splice]) | (simp (disch := omega) only [upd_ne, Qy, if_pos, if_neg, IntWalk.i64_in, Int.tdiv_eq_ediv_of_nonneg, Int.tmod_eq_emod_of_nonneg]) | (with_reducible refine fin_r ?_ ?_ ?_) | (with_reducible exact SameB.rfl_ _ _) | (with_reducible refine SameB.upd ?_ ?_ _) | (with_reducible assumption) | (with_reducible refine newPM_of ?_) | (with_reducible refine newSM_of ?_) | (with_reducible refine newP_go ?_) | (with_reducible refine newS_go ?_) | (with_reducible intro _g _hg) | (with_reducible refine And.intro ?_ ?_) | (with_reducible intro _hc) | omega)
            exact hJ m _ (by omega) ⟨k + 1, a, _, _, r, _, by omega, rfl, hRO, hRC, hal, hgo'⟩
      · have hk6 : k = 6 := by omega
        subst hk6
        obtain rfl : q = 0 := by omega
        rw [goR] at hgo
        have hrf := (ruleFault_a r).weak (simL_cons hRC.agg (simL_refl []))
        obtain ⟨c2, c3, c4, c5, rfl, q2, q3, q4, q5⟩ := hRC
        have hRC : RCells [aI r.unit, aI r.step, c2, c3, c4, c5, aI r.count, aI r.untl] r := ⟨_, _, _, _, rfl, q2, q3, q4, q5⟩
        obtain ⟨_, _, _, rfl⟩ := simA_sl_inv q2
        obtain ⟨_, _, _, rfl⟩ := simA_sl_inv q3
        obtain ⟨_, _, _, rfl⟩ := simA_sl_inv q4
        obtain ⟨_, _, _, rfl⟩ := simA_sl_inv q5
        by_cases ha : a = L.length
        · subst ha
          rw [List.drop_length] at hgo
          subst hgo
          rw [if_neg (by simp)] at hV
          dsimp only at hV
          by_cases h0 : (ruleF r).1 = 0
          · rw [if_neg (by simpa using h0)] at hV
            subst hV
            generalize ruleF r = f at *
            repeat' (first | (simp -implicitDefEqProofs [c21_k1_go, c21_k2_go, c21_k3_go, c21_k4_go, c21_k5_go, c21_e6_go, c21_e7_go, c21_e8_go, c21_e9_go, c21_k10_go, c21_k11_go, c21_k12_go, c21_k13_go, c21_L14_go, c21_k15_go, c21_k16_go, c21_k17_go, c21_k18_go, c21_L19_go, c21_k20_go, c21_k21_go, c21_k22_go, c21, -getElem?_pos, hEl, he2, he3, he4, he5, he7, h0, splice]) | (simp (disch := omega) only [upd_ne, Qy, if_pos, if_neg, IntWalk.i64_in, Int.tdiv_eq_ediv_of_nonneg, Int.tmod_eq_emod_of_nonneg]) | ((with_reducible refine CallP.chk (f := 9) ?_); (refine' CallP.sf ?_ (hrf) ?_); (focus first | (with_reducible exact simL_refl _) | (simp [simL, simA, simA_refl, simL_refl]; done))) | ((with_reducible refine CallP.chk (f := 12) ?_); (refine' CallP.sf ?_ (at_a _ _) ?_); (focus first | (with_reducible exact simL_refl _) | (simp [simL, simA, simA_refl, simL_refl]; done))) | (with_reducible refine fin_r ?_ ?_ ?_) | (with_reducible exact SameB.rfl_ _ _) | (with_reducible refine SameB.upd ?_ ?_ _) | (with_reducible assumption) | (with_reducible refine newPM_of ?_) | (with_reducible refine newSM_of ?_) | (with_reducible refine newP_go ?_) | (with_reducible refine newS_go ?_) | (with_reducible intro _g _hg) | (with_reducible refine And.intro ?_ ?_) | (with_reducible intro _hc) | omega)
            all_goals exact simA_tup (simL_cons hRC.agg (simL_refl _))
          · rw [if_pos h0] at hV
            subst hV
            generalize ruleF r = f at *
            repeat' (first | (simp -implicitDefEqProofs [c21_k1_go, c21_k2_go, c21_k3_go, c21_k4_go, c21_k5_go, c21_e6_go, c21_e7_go, c21_e8_go, c21_e9_go, c21_k10_go, c21_k11_go, c21_k12_go, c21_k13_go, c21_L14_go, c21_k15_go, c21_k16_go, c21_k17_go, c21_k18_go, c21_L19_go, c21_k20_go, c21_k21_go, c21_k22_go, c21, -getElem?_pos, hEl, he2, he3, he4, he5, he7, h0, splice]) | (simp (disch := omega) only [upd_ne, Qy, if_pos, if_neg, IntWalk.i64_in, Int.tdiv_eq_ediv_of_nonneg, Int.tmod_eq_emod_of_nonneg]) | ((with_reducible refine CallP.chk (f := 9) ?_); (refine' CallP.sf ?_ (hrf) ?_); (focus first | (with_reducible exact simL_refl _) | (simp [simL, simA, simA_refl, simL_refl]; done))) | ((with_reducible refine CallP.chk (f := 12) ?_); (refine' CallP.sf ?_ (at_a _ _) ?_); (focus first | (with_reducible exact simL_refl _) | (simp [simL, simA, simA_refl, simL_refl]; done))) | (with_reducible refine fin_r ?_ ?_ ?_) | (with_reducible exact SameB.rfl_ _ _) | (with_reducible refine SameB.upd ?_ ?_ _) | (with_reducible assumption) | (with_reducible refine newPM_of ?_) | (with_reducible refine newSM_of ?_) | (with_reducible refine newP_go ?_) | (with_reducible refine newS_go ?_) | (with_reducible intro _g _hg) | (with_reducible refine And.intro ?_ ?_) | (with_reducible intro _hc) | omega)
            all_goals exact simA_tup (simL_cons simZ (simL_refl _))
        · have ha' : ¬ (a : Int) = L.length := by omega
          have hv := hVb (by rw [hgo]; dsimp only; rw [List.isEmpty_eq_false_iff]; intro h; have := congrArg List.length h; rw [List.length_drop] at this; simp at this; omega)
          rw [hv]
          repeat' (first | (simp -implicitDefEqProofs [c21_k1_go, c21_k2_go, c21_k3_go, c21_k4_go, c21_k5_go, c21_e6_go, c21_e7_go, c21_e8_go, c21_e9_go, c21_k10_go, c21_k11_go, c21_k12_go, c21_k13_go, c21_L14_go, c21_k15_go, c21_k16_go, c21_k17_go, c21_k18_go, c21_L19_go, c21_k20_go, c21_k21_go, c21_k22_go, c21, -getElem?_pos, hEl, he2, he3, he4, he5, he7, ha', splice]) | (simp (disch := omega) only [upd_ne, Qy, if_pos, if_neg, IntWalk.i64_in, Int.tdiv_eq_ediv_of_nonneg, Int.tmod_eq_emod_of_nonneg]) | (with_reducible refine fin_r ?_ ?_ ?_) | (with_reducible exact SameB.rfl_ _ _) | (with_reducible refine SameB.upd ?_ ?_ _) | (with_reducible assumption) | (with_reducible refine newPM_of ?_) | (with_reducible refine newSM_of ?_) | (with_reducible refine newP_go ?_) | (with_reducible refine newS_go ?_) | (with_reducible intro _g _hg) | (with_reducible refine And.intro ?_ ?_) | (with_reducible intro _hc) | omega)
          all_goals exact simA_tup (simL_cons simZ (simL_refl _))
    · rw [if_neg (fun h : true = true ∧ 0 ≤ d => hd h.2)] at hV
      have hV' : V = (zR, (1, -1)) := hV
      clear hV
      subst hV'
      have hd1 : d + 1 = 0 := by omega
      rw [hd1] at he7 hRO
      repeat' (first | (simp -implicitDefEqProofs [c21_k1_go, c21_k2_go, c21_k3_go, c21_k4_go, c21_k5_go, c21_e6_go, c21_e7_go, c21_e8_go, c21_e9_go, c21_k10_go, c21_k11_go, c21_k12_go, c21_k13_go, c21_L14_go, c21_k15_go, c21_k16_go, c21_k17_go, c21_k18_go, c21_L19_go, c21_k20_go, c21_k21_go, c21_k22_go, c21, -getElem?_pos, he2, he3, he4, he5, he7, splice]) | (simp (disch := omega) only [upd_ne, Qy, if_pos, if_neg, IntWalk.i64_in, Int.tdiv_eq_ediv_of_nonneg, Int.tmod_eq_emod_of_nonneg]) | (with_reducible refine fin_r ?_ ?_ ?_) | (with_reducible exact SameB.rfl_ _ _) | (with_reducible refine SameB.upd ?_ ?_ _) | (with_reducible assumption) | (with_reducible refine newPM_of ?_) | (with_reducible refine newSM_of ?_) | (with_reducible refine newP_go ?_) | (with_reducible refine newS_go ?_) | (with_reducible intro _g _hg) | (with_reducible refine And.intro ?_ ?_) | (with_reducible intro _hc) | omega)
      all_goals exact simA_tup (simL_cons simZ (simL_refl _))
theorem ruleOf_a (s : Str) : APure Tryz.prog 21 [.str s] (.tup [aR (parseV s).1, aF (parseV s).2]) := by
  by_cases hlong : 500 < s.length
  · have e : parseV s = (zR, (3, -1)) := by unfold parseV; rw [if_pos hlong]
    rw [e]
    have h' : (500 : Int) < s.length := by omega
    refine apure_intro Tryz.func21 cmp21 rfl fun n H hH => ?_
    repeat' (first | (simp -implicitDefEqProofs [c21_k1_go, c21_k2_go, c21_k3_go, c21_k4_go, c21_k5_go, c21_e6_go, c21_e7_go, c21_e8_go, c21_e9_go, c21_k10_go, c21_k11_go, c21_k12_go, c21_k13_go, c21_L14_go, c21_k15_go, c21_k16_go, c21_k17_go, c21_k18_go, c21_L19_go, c21_k20_go, c21_k21_go, c21_k22_go, c21, -getElem?_pos, hlong, h', splice]) | (simp (disch := omega) only [upd_ne, Qy, if_pos, if_neg, IntWalk.i64_in, Int.tdiv_eq_ediv_of_nonneg, Int.tmod_eq_emod_of_nonneg]) | ((with_reducible refine CallP.chk (f := 12) ?_); (refine' CallP.sf ?_ (at_a _ _) ?_); (focus first | (with_reducible exact simL_refl _) | (simp [simL, simA, simA_refl, simL_refl]; done))) | (with_reducible refine fin_r ?_ ?_ ?_) | (with_reducible exact SameB.rfl_ _ _) | (with_reducible refine SameB.upd ?_ ?_ _) | (with_reducible assumption) | (with_reducible refine newPM_of ?_) | (with_reducible refine newSM_of ?_) | (with_reducible refine newP_go ?_) | (with_reducible refine newS_go ?_) | (with_reducible intro _g _hg) | (with_reducible refine And.intro ?_ ?_) | (with_reducible intro _hc) | omega)
    all_goals exact simA_tup (simL_cons simZ (simL_refl _))
  have hsp := rsplit_a s 32 (by omega)
  have hml := fun p => spl_mem_len 32 s p
  have hln := spl_len 32 s
  have hs' : ¬ (500 : Int) < s.length := by omega
  have hV : parseV s = if (parseL (spl 32 s)).2 = false then (zR, (1, -1)) else if (ruleF (parseL (spl 32 s)).1).1 ≠ 0 then (zR, ruleF (parseL (spl 32 s)).1) else ((parseL (spl 32 s)).1, (0, 0)) := by unfold parseV; rw [if_neg hlong]
  have hne := spl_ne 32 s
  generalize spl 32 s = L at *
  generalize parseV s = V at *
  obtain ⟨x0, hx0⟩ : ∃ x, L[0]? = some x := ⟨_, List.getElem?_eq_getElem (List.length_pos_iff.2 hne)⟩
  have hx0' := str_at hx0
  by_cases h3 : L.length < 3
  · have e : parseL L = (zR, false) := by
      match L with
      | [] => rfl
      | [_] => rfl
      | [_, _] => rfl
      | _ :: _ :: _ :: _ => simp at h3; omega
    rw [e] at hV
    have hV' : V = (zR, (1, -1)) := hV
    subst hV'
    have h3' : (L.length : Int) < 3 := by omega
    refine apure_intro Tryz.func21 cmp21 rfl fun n H hH => ?_
    repeat' (first | (simp -implicitDefEqProofs [c21_k1_go, c21_k2_go, c21_k3_go, c21_k4_go, c21_k5_go, c21_e6_go, c21_e7_go, c21_e8_go, c21_e9_go, c21_k10_go, c21_k11_go, c21_k12_go, c21_k13_go, c21_L14_go, c21_k15_go, c21_k16_go, c21_k17_go, c21_k18_go, c21_L19_go, c21_k20_go, c21_k21_go, c21_k22_go, c21, -getElem?_pos, hlong, hs', h3', hx0, hx0', splice]) | (simp (disch := omega) only [upd_ne, Qy, if_pos, if_neg, IntWalk.i64_in, Int.tdiv_eq_ediv_of_nonneg, Int.tmod_eq_emod_of_nonneg]) | ((with_reducible refine CallP.chk (f := 12) ?_); (refine' CallP.sf ?_ (at_a _ _) ?_); (focus first | (with_reducible exact simL_refl _) | (simp [simL, simA, simA_refl, simL_refl]; done))) | ((with_reducible refine CallP.chk (f := 60) ?_); (refine' CallP.sf ?_ (hsp) ?_); (focus first | (with_reducible exact simL_refl _) | (simp [simL, simA, simA_refl, simL_refl]; done))) | (with_reducible refine fin_r ?_ ?_ ?_) | (with_reducible exact SameB.rfl_ _ _) | (with_reducible refine SameB.upd ?_ ?_ _) | (with_reducible assumption) | (with_reducible refine newPM_of ?_) | (with_reducible refine newSM_of ?_) | (with_reducible refine newP_go ?_) | (with_reducible refine newS_go ?_) | (with_reducible intro _g _hg) | (with_reducible refine And.intro ?_ ?_) | (with_reducible intro _hc) | omega)
    all_goals exact simA_tup (simL_cons simZ (simL_refl _))
  have h3' : ¬ (L.length : Int) < 3 := by omega
  by_cases hev : x0 = wEvery
  · obtain ⟨w1, w2, rest, hL⟩ : ∃ w1 w2 rest, L = wEvery :: w1 :: w2 :: rest := by
      match L with
      | [] => simp at h3
      | [_] => simp at h3
      | [_, _] => simp at h3
      | a :: b :: c :: r => simp at hx0; exact ⟨b, c, r, by rw [hx0, hev]⟩
    exact ruleOf_main w1 w2 rest L V s hL hsp hlong (fun x hx => by have := hml x hx; omega) (by omega) hV
  · have e : parseL L = (zR, false) := by
      match L with
      | [] => simp at h3
      | [_] => simp at h3
      | [_, _] => simp at h3
      | a :: b :: c :: r => simp at hx0; rw [parseL, if_neg (by rw [hx0]; exact hev)]
    rw [e] at hV
    have hV' : V = (zR, (1, -1)) := hV
    subst hV'
    refine apure_intro Tryz.func21 cmp21 rfl fun n H hH => ?_
    repeat' (first | (simp -implicitDefEqProofs [c21_k1_go, c21_k2_go, c21_k3_go, c21_k4_go, c21_k5_go, c21_e6_go, c21_e7_go, c21_e8_go, c21_e9_go, c21_k10_go, c21_k11_go, c21_k12_go, c21_k13_go, c21_L14_go, c21_k15_go, c21_k16_go, c21_k17_go, c21_k18_go, c21_L19_go, c21_k20_go, c21_k21_go, c21_k22_go, c21, -getElem?_pos, hlong, hs', h3', hx0, hx0', hev, splice]) | (simp (disch := omega) only [upd_ne, Qy, if_pos, if_neg, IntWalk.i64_in, Int.tdiv_eq_ediv_of_nonneg, Int.tmod_eq_emod_of_nonneg]) | ((with_reducible refine CallP.chk (f := 12) ?_); (refine' CallP.sf ?_ (at_a _ _) ?_); (focus first | (with_reducible exact simL_refl _) | (simp [simL, simA, simA_refl, simL_refl]; done))) | ((with_reducible refine CallP.chk (f := 60) ?_); (refine' CallP.sf ?_ (hsp) ?_); (focus first | (with_reducible exact simL_refl _) | (simp [simL, simA, simA_refl, simL_refl]; done))) | (with_reducible refine fin_r ?_ ?_ ?_) | (with_reducible exact SameB.rfl_ _ _) | (with_reducible refine SameB.upd ?_ ?_ _) | (with_reducible assumption) | (with_reducible refine newPM_of ?_) | (with_reducible refine newSM_of ?_) | (with_reducible refine newP_go ?_) | (with_reducible refine newS_go ?_) | (with_reducible intro _g _hg) | (with_reducible refine And.intro ?_ ?_) | (with_reducible intro _hc) | omega)
    all_goals exact simA_tup (simL_cons simZ (simL_refl _))
end Go.Proofs.YtecpfmhminkalaaGreatDoor
namespace Go.Proofs.YtecpfmhminkalaaGreatDoor
theorem parseV_cases (s : Str) : (∃ f : Int × Int, parseV s = (zR, f) ∧ f.1 ≠ 0) ∨ ∃ r, parseV s = (r, (0, 0)) := by
  unfold parseV
  split
  · exact .inl ⟨_, rfl, by simp⟩
  · split
    · exact .inl ⟨_, rfl, by simp⟩
    · split
      · rename_i h; exact .inl ⟨_, rfl, h⟩
      · exact .inr ⟨_, rfl⟩
attribute [local simp] YL Z7 Z9 YM YN YO YP Z8 Z3 Z5 Z4 YQ YR YS YT YU YV YW YX YY YZ Ya Yb Yc Yd scV pe Ye Yf Yg Yh Yi Yj Yk Yl Ym Yn Yo spg_mv Yp Yq Yr Ys Yt Yu Yv Yw Yx Yy Yz X0 X1 X2 X3 X4 X5 X6 X7 X8 X9 spg_mm XA YD XB XC XD XE XF XG XH XI XJ XK XL XM XN XO XP XQ XR XS XT XU XV XW XX XY XZ YC Xa Xb Xc Xd Xe Xf Xg Xh Xi Xj Xk Xl Xm Xn Xo Xp Xq Xr Xs Xt Xu Xv Xw Xx List.mem_cons ZO ZN Z1 YG Zu Xy Zi Zr Zn Zp Zq Zo Zv Zw Zm Xz Q0 Zl Q1 Q2 Q4 Q5 Q6 Q7 Zs Q8 Q9 QA QB QC QD Zt Zh Zx Y1 Y2 QE QF Y3 QG Zj QH Zk Zg QI Zy Zz QJ QK QM QN QO QP QR QS Zd ZK ZI Zc Zf ZH ZM YB Z0 QT ZV ZL Ze ZC ZZ ZA Y5 ZJ Y8 Y9 Zb ZY ZU ZX Za ZT ZD ev get put Y4 ZS QU QV QW QX QY QZ ZE part ZW Qb Qc Qd isNil ZR ZQ ZB ZP YE Qe Qf Qg Qh Qi Qj Qk Ql Qm Qn Qo Qp Qq Qr Qs Qt AV.fits AV.cells ones AV.one YH YI YJ YK ZF ZG Qu Qv Qw Qx Y6 Y7 resV Z2 Qy YA u8e YF Qz V0 List.getElem?_cons_zero List.getElem?_cons_succ
set_option maxHeartbeats 4000000 in
theorem parseSpec_a (s : Str) : APure Tryz.prog 6 [.str s] (.bool true) := by
  have h1 := parse_t s
  have h2 := ruleOf_a s
  have hrec := recurred_a
  rcases parseV_cases s with ⟨f, e, hf⟩ | ⟨r, e⟩
  · rw [e] at h1 h2
    have hsm := sameRule_a zR (by simp) (by simp) (by simp) (by simp)
    obtain ⟨f1, f2⟩ := f
    dsimp only at *
    generalize zR = r at *
    refine apure_intro Tryz.func6 cmp6 rfl fun n H hH => ?_
    repeat' (first | (simp -implicitDefEqProofs [c6_k1_go, c6_k2_go, c6, -getElem?_pos, simA_refl, hf, splice]) | (simp (disch := omega) only [upd_ne, Qy, if_pos, if_neg, IntWalk.i64_in, Int.tdiv_eq_ediv_of_nonneg, Int.tmod_eq_emod_of_nonneg]) | ((with_reducible refine CallP.chk (f := 18) ?_); (refine' CallP.sf ?_ (h1) ?_); (focus first | (with_reducible exact simL_refl _) | (simp [simL, simA, simA_refl, simL_refl]; done))) | ((with_reducible refine CallP.chk (f := 21) ?_); (refine' CallP.sf ?_ (h2) ?_); (focus first | (with_reducible exact simL_refl _) | (simp [simL, simA, simA_refl, simL_refl]; done))) | ((with_reducible refine CallP.chk (f := 20) ?_); (refine' CallP.sf ?_ (hsm) ?_); (focus first | (with_reducible exact simL_refl _) | (simp [simL, simA, simA_refl, simL_refl]; done))) | ((with_reducible refine CallP.chk (f := 13) ?_); (refine' CallP.sf ?_ (hrec) ?_); (focus first | (with_reducible exact simL_refl _) | (simp [simL, simA, simA_refl, simL_refl]; done))) | (with_reducible refine fin_r ?_ ?_ ?_) | (with_reducible exact SameB.rfl_ _ _) | (with_reducible refine SameB.upd ?_ ?_ _) | (with_reducible assumption) | (with_reducible refine newPM_of ?_) | (with_reducible refine newP_go ?_) | (with_reducible intro _g _hg) | (with_reducible refine And.intro ?_ ?_) | (with_reducible intro _hc) | omega)
  · obtain ⟨hj, h0⟩ := parse_print e
    rw [e] at h1 h2
    have hp := print_a r
    have e2 : printV r = (s, (0, 0)) := by unfold printV; rw [if_neg (by simpa using h0), hj]
    rw [e2] at hp
    obtain ⟨_, _, _, _, _, _, _, _, n1, n2, n3, n4⟩ := ruleF_more h0
    have hsm := sameRule_a r (by omega) (by omega) (by omega) (by omega)
    refine apure_intro Tryz.func6 cmp6 rfl fun n H hH => ?_
    repeat' (first | (simp -implicitDefEqProofs [c6_k1_go, c6_k2_go, c6, -getElem?_pos, simA_refl, splice]) | (simp (disch := omega) only [upd_ne, Qy, if_pos, if_neg, IntWalk.i64_in, Int.tdiv_eq_ediv_of_nonneg, Int.tmod_eq_emod_of_nonneg]) | ((with_reducible refine CallP.chk (f := 18) ?_); (refine' CallP.sf ?_ (h1) ?_); (focus first | (with_reducible exact simL_refl _) | (simp [simL, simA, simA_refl, simL_refl]; done))) | ((with_reducible refine CallP.chk (f := 21) ?_); (refine' CallP.sf ?_ (h2) ?_); (focus first | (with_reducible exact simL_refl _) | (simp [simL, simA, simA_refl, simL_refl]; done))) | ((with_reducible refine CallP.chk (f := 20) ?_); (refine' CallP.sf ?_ (hsm) ?_); (focus first | (with_reducible exact simL_refl _) | (simp [simL, simA, simA_refl, simL_refl]; done))) | ((with_reducible refine CallP.chk (f := 17) ?_); (refine' CallP.sf ?_ (hp) ?_); (focus first | (with_reducible exact simL_refl _) | (simp [simL, simA, simA_refl, simL_refl]; done))) | ((with_reducible refine CallP.chk (f := 13) ?_); (refine' CallP.sf ?_ (hrec) ?_); (focus first | (with_reducible exact simL_refl _) | (simp [simL, simA, simA_refl, simL_refl]; done))) | (with_reducible refine fin_r ?_ ?_ ?_) | (with_reducible exact SameB.rfl_ _ _) | (with_reducible refine SameB.upd ?_ ?_ _) | (with_reducible assumption) | (with_reducible refine newPM_of ?_) | (with_reducible refine newP_go ?_) | (with_reducible intro _g _hg) | (with_reducible refine And.intro ?_ ?_) | (with_reducible intro _hc) | omega)
end Go.Proofs.YtecpfmhminkalaaGreatDoor
