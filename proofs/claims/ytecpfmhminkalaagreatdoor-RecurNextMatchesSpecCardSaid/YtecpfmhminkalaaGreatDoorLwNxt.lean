/- The code of some functions on plain data, by program, and that it is what the program's text gives; no condition. -/
import Derived.Test.YtecpfmhminkalaaGreatDoorAdA
import Derived.Test.YtecpfmhminkalaaGreatDoorProg
import Derived.KernelRfl
import Derived.Test.YtecpfmhminkalaaGreatDoorMrK
import Derived.Test.YtecpfmhminkalaaGreatDoorMrI
set_option linter.all false
set_option linter.unusedSimpArgs false
set_option linter.unusedVariables false
namespace Go.Proofs.YtecpfmhminkalaaGreatDoor
def c3_k1 : ACode := .kp [0, 2, 4, 7, 8] (.seq (.segs [⟨none, [⟨some 48, .faddr (.t 8) 0 none, none⟩,
      ⟨some 49, .load none (.t 48), none⟩,
      ⟨some 50, .bin .eql (.t 49) (.c (.int .i64 0)), none⟩,
      ⟨some 51, .mv (.t 50), none⟩], none⟩,
    ⟨some (51, true), [⟨some 52, .mv (.t 7), none⟩,
      ⟨some 53, .mv (.t 0), none⟩,
      ⟨some 54, .load (some 8) (.t 4), none⟩,
      ⟨some 55, .mv (.t 2), none⟩,
      ⟨some 56, .callp 15 [(.t 53), (.t 54), (.t 55)], none⟩,
      ⟨some 57, .callp 14 [(.t 52), (.t 56)], none⟩], none⟩,
    ⟨none, [⟨some 58, .pick (.t 51) (.t 57) (.c (.bool false)), none⟩,
      ⟨some 59, .mv (.t 58), none⟩], none⟩,
    ⟨some (59, true), [⟨some 60, .callp 13 [], none⟩], none⟩,
    ⟨none, [⟨some 61, .pick (.t 59) (.t 60) (.c (.bool false)), none⟩,
      ⟨some 6, .mv (.t 61), none⟩], none⟩]) (.ret))
def c3_k2 : ACode := .kp [0, 2, 4, 7, 8, 9] (.seq (.seq (.reg [⟨some 34, .faddr (.t 9) 0 none, none⟩,
    ⟨some 35, .load none (.t 34), none⟩,
    ⟨some 36, .bin .neq (.t 35) (.c (.int .i64 0)), none⟩]) (.kp [0, 2, 4, 7, 8, 9, 36] (.cond (.t 36) (.seq (.segs [⟨none, [⟨some 37, .load (some 2) (.t 8), none⟩,
      ⟨some 38, .load (some 2) (.t 9), none⟩,
      ⟨some 39, .eqs [.i, .i] false (.t 37) (.t 38), none⟩,
      ⟨some 40, .mv (.t 39), none⟩], none⟩,
    ⟨some (40, true), [⟨some 41, .mv (.t 7), none⟩,
      ⟨some 42, .len (.t 41), none⟩,
      ⟨some 43, .bin .eql (.t 42) (.c (.int .i64 0)), none⟩], some (44, 43)⟩,
    ⟨none, [⟨some 45, .mv (.t 44), none⟩], none⟩,
    ⟨some (45, true), [⟨some 46, .callp 13 [], none⟩], none⟩,
    ⟨none, [⟨some 47, .pick (.t 45) (.t 46) (.c (.bool false)), none⟩,
      ⟨some 6, .mv (.t 47), none⟩], none⟩]) (.ret)) (.skip)))) (c3_k1))
def c3_k3 : ACode := .kp [0, 2, 4, 7, 8] (.seq (.reg [⟨some 22, .mv (.t 0), none⟩,
    ⟨some 23, .load (some 8) (.t 4), none⟩,
    ⟨some 24, .callp 10 [(.t 22), (.t 23)], none⟩,
    ⟨some 9, .alloc 27 [(.int .i64 0), (.int .i64 0)], none⟩,
    ⟨none, .store (some 2) (.t 9) (.t 24), none⟩]) (.kp [0, 2, 4, 7, 8, 9] (.seq (.seq (.segs [⟨none, [⟨some 25, .faddr (.t 9) 0 none, none⟩,
      ⟨some 26, .load none (.t 25), none⟩,
      ⟨some 27, .bin .eql (.t 26) (.c (.int .i64 0)), none⟩,
      ⟨some 28, .mv (.t 27), none⟩], none⟩,
    ⟨some (28, true), [⟨some 29, .mv (.t 2), none⟩,
      ⟨some 30, .callp 11 [(.t 29), (.c (.int .i64 0)), (.c (.int .i64 20001))], none⟩,
      ⟨some 31, .not (.t 30), none⟩], none⟩,
    ⟨none, [⟨some 32, .pick (.t 28) (.t 31) (.c (.bool false)), none⟩], none⟩]) (.kp [0, 2, 4, 7, 8, 9, 32] (.cond (.t 32) (.reg [⟨some 33, .callp 12 [(.c (.int .i64 4)), (.c (.int .i64 (-3)))], none⟩,
    ⟨none, .store (some 2) (.t 9) (.t 33), none⟩]) (.skip)))) (c3_k2))))
def c3 : AFun := { nargs := 3, nt := 62, res := [.tmp 6], code := .seq (.reg [⟨some 4, .box 25 (some 8) (.t 1), none⟩,
    ⟨some 6, .mv (.c (.bool false)), none⟩]) (.kp [0, 2, 4] (.seq (.reg [⟨some 11, .mv (.t 0), none⟩,
    ⟨some 12, .load (some 8) (.t 4), none⟩,
    ⟨some 13, .mv (.t 2), none⟩,
    ⟨some 14, .callp 7 [(.t 11), (.t 12), (.t 13)], none⟩,
    ⟨some 10, .mv (.t 14), none⟩,
    ⟨some 15, .extr (.t 10) 0, none⟩,
    ⟨some 16, .extr (.t 10) 1, none⟩,
    ⟨some 8, .alloc 27 [(.int .i64 0), (.int .i64 0)], none⟩,
    ⟨some 7, .mv (.t 15), none⟩,
    ⟨none, .store (some 2) (.t 8) (.t 16), none⟩]) (.kp [0, 2, 4, 7, 8] (.seq (.seq (.reg [⟨some 17, .load (some 8) (.t 4), none⟩,
    ⟨some 18, .callp 8 [(.t 17)], none⟩,
    ⟨some 19, .load (some 8) (.t 4), none⟩,
    ⟨some 20, .callp 9 [(.t 19)], none⟩,
    ⟨some 21, .eqs [.i, .i] true (.t 18) (.t 20), none⟩]) (.kp [0, 2, 4, 7, 8, 21] (.cond (.t 21) (.seq (.reg [⟨some 6, .mv (.c (.bool false)), none⟩]) (.ret)) (.skip)))) (c3_k3))))) }
end Go.Proofs.YtecpfmhminkalaaGreatDoor
namespace Go.Proofs.YtecpfmhminkalaaGreatDoor
def c4_k1 : ACode := .kp [7, 8, 9] (.seq (.segs [⟨none, [⟨some 82, .faddr (.t 9) 0 none, none⟩,
      ⟨some 83, .load none (.t 82), none⟩,
      ⟨some 84, .bin .eql (.t 83) (.c (.int .i64 0)), none⟩,
      ⟨some 85, .mv (.t 84), none⟩], none⟩,
    ⟨some (85, true), [⟨some 86, .mv (.t 8), none⟩,
      ⟨some 87, .not (.t 86), none⟩], some (88, 87)⟩,
    ⟨none, [⟨some 89, .mv (.t 88), none⟩], none⟩,
    ⟨some (89, true), [⟨some 90, .mv (.t 7), none⟩,
      ⟨some 91, .bin .eql (.t 90) (.c (.int .i64 0)), none⟩], some (92, 91)⟩,
    ⟨none, [⟨some 93, .mv (.t 92), none⟩], none⟩,
    ⟨some (93, true), [⟨some 94, .callp 13 [], none⟩], none⟩,
    ⟨none, [⟨some 95, .pick (.t 93) (.t 94) (.c (.bool false)), none⟩,
      ⟨some 6, .mv (.t 95), none⟩], none⟩]) (.ret))
theorem c4_k1_go {Q : AExit → AS → Prop} {e : AEnv} {n : Nat} {H : AHeap} : aw Tryz.prog c4_k1 Q ⟨e, n, H⟩ = aw Tryz.prog (.kp [7, 8, 9] (.seq (.segs [⟨none, [⟨some 82, .faddr (.t 9) 0 none, none⟩,
      ⟨some 83, .load none (.t 82), none⟩,
      ⟨some 84, .bin .eql (.t 83) (.c (.int .i64 0)), none⟩,
      ⟨some 85, .mv (.t 84), none⟩], none⟩,
    ⟨some (85, true), [⟨some 86, .mv (.t 8), none⟩,
      ⟨some 87, .not (.t 86), none⟩], some (88, 87)⟩,
    ⟨none, [⟨some 89, .mv (.t 88), none⟩], none⟩,
    ⟨some (89, true), [⟨some 90, .mv (.t 7), none⟩,
      ⟨some 91, .bin .eql (.t 90) (.c (.int .i64 0)), none⟩], some (92, 91)⟩,
    ⟨none, [⟨some 93, .mv (.t 92), none⟩], none⟩,
    ⟨some (93, true), [⟨some 94, .callp 13 [], none⟩], none⟩,
    ⟨none, [⟨some 95, .pick (.t 93) (.t 94) (.c (.bool false)), none⟩,
      ⟨some 6, .mv (.t 95), none⟩], none⟩]) (.ret))) Q ⟨e, n, H⟩ := rfl
def c4_k2 : ACode := .kp [2, 7, 8, 9, 11, 12] (.reg [⟨some 57, .mv (.t 12), none⟩,
    ⟨some 58, .bin .add (.t 57) (.c (.int .i64 1)), none⟩,
    ⟨some 12, .mv (.t 58), none⟩])
theorem c4_k2_go {Q : AExit → AS → Prop} {e : AEnv} {n : Nat} {H : AHeap} : aw Tryz.prog c4_k2 Q ⟨e, n, H⟩ = aw Tryz.prog (.kp [2, 7, 8, 9, 11, 12] (.reg [⟨some 57, .mv (.t 12), none⟩,
    ⟨some 58, .bin .add (.t 57) (.c (.int .i64 1)), none⟩,
    ⟨some 12, .mv (.t 58), none⟩])) Q ⟨e, n, H⟩ := rfl
def c4_k3 : ACode := .kp [2, 7, 8, 9, 11, 12] (.seq (.block 1 (.seq (.reg [⟨some 59, .mv (.t 11), none⟩,
    ⟨some 60, .mv (.t 12), none⟩,
    ⟨some 61, .iaddr 1 none (.t 59) (.t 60), none⟩,
    ⟨some 62, .load none (.t 61), none⟩,
    ⟨some 63, .mv (.t 2), none⟩,
    ⟨some 64, .bin .gtr (.t 62) (.t 63), none⟩]) (.kp [2, 7, 8, 9, 11, 12, 64] (.cond (.t 64) (.seq (.segs [⟨none, [⟨some 65, .faddr (.t 9) 0 none, none⟩,
      ⟨some 66, .load none (.t 65), none⟩,
      ⟨some 67, .bin .eql (.t 66) (.c (.int .i64 0)), none⟩,
      ⟨some 68, .mv (.t 67), none⟩], none⟩,
    ⟨some (68, true), [⟨some 69, .mv (.t 8), none⟩], some (70, 69)⟩,
    ⟨none, [⟨some 71, .mv (.t 70), none⟩], none⟩,
    ⟨some (71, true), [⟨some 72, .mv (.t 7), none⟩,
      ⟨some 73, .mv (.t 11), none⟩,
      ⟨some 74, .mv (.t 12), none⟩,
      ⟨some 75, .iaddr 1 none (.t 73) (.t 74), none⟩,
      ⟨some 76, .load none (.t 75), none⟩,
      ⟨some 77, .bin .eql (.t 72) (.t 76), none⟩], some (78, 77)⟩,
    ⟨none, [⟨some 79, .mv (.t 78), none⟩], none⟩,
    ⟨some (79, true), [⟨some 80, .callp 13 [], none⟩], none⟩,
    ⟨none, [⟨some 81, .pick (.t 79) (.t 80) (.c (.bool false)), none⟩,
      ⟨some 6, .mv (.t 81), none⟩], none⟩]) (.ret)) (.skip))))) (c4_k2))
theorem c4_k3_go {Q : AExit → AS → Prop} {e : AEnv} {n : Nat} {H : AHeap} : aw Tryz.prog c4_k3 Q ⟨e, n, H⟩ = aw Tryz.prog (.kp [2, 7, 8, 9, 11, 12] (.seq (.block 1 (.seq (.reg [⟨some 59, .mv (.t 11), none⟩,
    ⟨some 60, .mv (.t 12), none⟩,
    ⟨some 61, .iaddr 1 none (.t 59) (.t 60), none⟩,
    ⟨some 62, .load none (.t 61), none⟩,
    ⟨some 63, .mv (.t 2), none⟩,
    ⟨some 64, .bin .gtr (.t 62) (.t 63), none⟩]) (.kp [2, 7, 8, 9, 11, 12, 64] (.cond (.t 64) (.seq (.segs [⟨none, [⟨some 65, .faddr (.t 9) 0 none, none⟩,
      ⟨some 66, .load none (.t 65), none⟩,
      ⟨some 67, .bin .eql (.t 66) (.c (.int .i64 0)), none⟩,
      ⟨some 68, .mv (.t 67), none⟩], none⟩,
    ⟨some (68, true), [⟨some 69, .mv (.t 8), none⟩], some (70, 69)⟩,
    ⟨none, [⟨some 71, .mv (.t 70), none⟩], none⟩,
    ⟨some (71, true), [⟨some 72, .mv (.t 7), none⟩,
      ⟨some 73, .mv (.t 11), none⟩,
      ⟨some 74, .mv (.t 12), none⟩,
      ⟨some 75, .iaddr 1 none (.t 73) (.t 74), none⟩,
      ⟨some 76, .load none (.t 75), none⟩,
      ⟨some 77, .bin .eql (.t 72) (.t 76), none⟩], some (78, 77)⟩,
    ⟨none, [⟨some 79, .mv (.t 78), none⟩], none⟩,
    ⟨some (79, true), [⟨some 80, .callp 13 [], none⟩], none⟩,
    ⟨none, [⟨some 81, .pick (.t 79) (.t 80) (.c (.bool false)), none⟩,
      ⟨some 6, .mv (.t 81), none⟩], none⟩]) (.ret)) (.skip))))) (c4_k2))) Q ⟨e, n, H⟩ := rfl
def c4_L4 : ACode := .ke [2, 7, 8, 9, 11, 12] (.seq (.seq (.reg [⟨some 53, .mv (.t 12), none⟩,
    ⟨some 54, .mv (.t 11), none⟩,
    ⟨some 55, .len (.t 54), none⟩,
    ⟨some 56, .bin .lss (.t 53) (.t 55), none⟩]) (.kp [2, 7, 8, 9, 11, 12, 56] (.cond (.t 56) (.skip) (.exit 0)))) (c4_k3))
theorem c4_L4_go {Q : AExit → AS → Prop} {e : AEnv} {n : Nat} {H : AHeap} : aw Tryz.prog c4_L4 Q ⟨e, n, H⟩ = aw Tryz.prog (.ke [2, 7, 8, 9, 11, 12] (.seq (.seq (.reg [⟨some 53, .mv (.t 12), none⟩,
    ⟨some 54, .mv (.t 11), none⟩,
    ⟨some 55, .len (.t 54), none⟩,
    ⟨some 56, .bin .lss (.t 53) (.t 55), none⟩]) (.kp [2, 7, 8, 9, 11, 12, 56] (.cond (.t 56) (.skip) (.exit 0)))) (c4_k3))) Q ⟨e, n, H⟩ := rfl
def c4_k5 : ACode := .kp [0, 2, 4, 7, 8, 9] (.seq (.reg [⟨some 50, .mv (.t 0), none⟩,
    ⟨some 51, .load (some 8) (.t 4), none⟩,
    ⟨some 52, .callp 15 [(.t 50), (.t 51), (.c (.int .i64 20001))], none⟩,
    ⟨some 11, .mv (.t 52), none⟩]) (.kp [2, 7, 8, 9, 11] (.seq (.seq (.reg [⟨some 12, .mv (.c (.int .i64 0)), none⟩]) (.kp [2, 7, 8, 9, 11, 12] (.block 0 (.kp [2, 7, 8, 9, 11, 12] (.loop c4_L4))))) (c4_k1))))
theorem c4_k5_go {Q : AExit → AS → Prop} {e : AEnv} {n : Nat} {H : AHeap} : aw Tryz.prog c4_k5 Q ⟨e, n, H⟩ = aw Tryz.prog (.kp [0, 2, 4, 7, 8, 9] (.seq (.reg [⟨some 50, .mv (.t 0), none⟩,
    ⟨some 51, .load (some 8) (.t 4), none⟩,
    ⟨some 52, .callp 15 [(.t 50), (.t 51), (.c (.int .i64 20001))], none⟩,
    ⟨some 11, .mv (.t 52), none⟩]) (.kp [2, 7, 8, 9, 11] (.seq (.seq (.reg [⟨some 12, .mv (.c (.int .i64 0)), none⟩]) (.kp [2, 7, 8, 9, 11, 12] (.block 0 (.kp [2, 7, 8, 9, 11, 12] (.loop c4_L4))))) (c4_k1))))) Q ⟨e, n, H⟩ := rfl
def c4_k6 : ACode := .kp [0, 2, 4, 7, 8, 9, 10] (.seq (.seq (.reg [⟨some 33, .faddr (.t 10) 0 none, none⟩,
    ⟨some 34, .load none (.t 33), none⟩,
    ⟨some 35, .bin .neq (.t 34) (.c (.int .i64 0)), none⟩]) (.kp [0, 2, 4, 7, 8, 9, 10, 35] (.cond (.t 35) (.seq (.segs [⟨none, [⟨some 36, .load (some 2) (.t 9), none⟩,
      ⟨some 37, .load (some 2) (.t 10), none⟩,
      ⟨some 38, .eqs [.i, .i] false (.t 36) (.t 37), none⟩,
      ⟨some 39, .mv (.t 38), none⟩], none⟩,
    ⟨some (39, true), [⟨some 40, .mv (.t 7), none⟩,
      ⟨some 41, .bin .eql (.t 40) (.c (.int .i64 0)), none⟩], some (42, 41)⟩,
    ⟨none, [⟨some 43, .mv (.t 42), none⟩], none⟩,
    ⟨some (43, true), [⟨some 44, .mv (.t 8), none⟩,
      ⟨some 45, .not (.t 44), none⟩], some (46, 45)⟩,
    ⟨none, [⟨some 47, .mv (.t 46), none⟩], none⟩,
    ⟨some (47, true), [⟨some 48, .callp 13 [], none⟩], none⟩,
    ⟨none, [⟨some 49, .pick (.t 47) (.t 48) (.c (.bool false)), none⟩,
      ⟨some 6, .mv (.t 49), none⟩], none⟩]) (.ret)) (.skip)))) (c4_k5))
theorem c4_k6_go {Q : AExit → AS → Prop} {e : AEnv} {n : Nat} {H : AHeap} : aw Tryz.prog c4_k6 Q ⟨e, n, H⟩ = aw Tryz.prog (.kp [0, 2, 4, 7, 8, 9, 10] (.seq (.seq (.reg [⟨some 33, .faddr (.t 10) 0 none, none⟩,
    ⟨some 34, .load none (.t 33), none⟩,
    ⟨some 35, .bin .neq (.t 34) (.c (.int .i64 0)), none⟩]) (.kp [0, 2, 4, 7, 8, 9, 10, 35] (.cond (.t 35) (.seq (.segs [⟨none, [⟨some 36, .load (some 2) (.t 9), none⟩,
      ⟨some 37, .load (some 2) (.t 10), none⟩,
      ⟨some 38, .eqs [.i, .i] false (.t 36) (.t 37), none⟩,
      ⟨some 39, .mv (.t 38), none⟩], none⟩,
    ⟨some (39, true), [⟨some 40, .mv (.t 7), none⟩,
      ⟨some 41, .bin .eql (.t 40) (.c (.int .i64 0)), none⟩], some (42, 41)⟩,
    ⟨none, [⟨some 43, .mv (.t 42), none⟩], none⟩,
    ⟨some (43, true), [⟨some 44, .mv (.t 8), none⟩,
      ⟨some 45, .not (.t 44), none⟩], some (46, 45)⟩,
    ⟨none, [⟨some 47, .mv (.t 46), none⟩], none⟩,
    ⟨some (47, true), [⟨some 48, .callp 13 [], none⟩], none⟩,
    ⟨none, [⟨some 49, .pick (.t 47) (.t 48) (.c (.bool false)), none⟩,
      ⟨some 6, .mv (.t 49), none⟩], none⟩]) (.ret)) (.skip)))) (c4_k5))) Q ⟨e, n, H⟩ := rfl
def c4 : AFun := { nargs := 3, nt := 96, res := [.tmp 6], code := .seq (.reg [⟨some 4, .box 25 (some 8) (.t 1), none⟩,
    ⟨some 6, .mv (.c (.bool false)), none⟩]) (.kp [0, 2, 4] (.seq (.reg [⟨some 14, .mv (.t 0), none⟩,
    ⟨some 15, .load (some 8) (.t 4), none⟩,
    ⟨some 16, .mv (.t 2), none⟩,
    ⟨some 17, .callp 16 [(.t 14), (.t 15), (.t 16)], none⟩,
    ⟨some 13, .mv (.t 17), none⟩,
    ⟨some 18, .extr (.t 13) 0, none⟩,
    ⟨some 19, .extr (.t 13) 1, none⟩,
    ⟨some 20, .extr (.t 13) 2, none⟩,
    ⟨some 9, .alloc 27 [(.int .i64 0), (.int .i64 0)], none⟩,
    ⟨some 7, .mv (.t 18), none⟩,
    ⟨some 8, .mv (.t 19), none⟩,
    ⟨none, .store (some 2) (.t 9) (.t 20), none⟩]) (.kp [0, 2, 4, 7, 8, 9] (.seq (.reg [⟨some 21, .mv (.t 0), none⟩,
    ⟨some 22, .load (some 8) (.t 4), none⟩,
    ⟨some 23, .callp 10 [(.t 21), (.t 22)], none⟩,
    ⟨some 10, .alloc 27 [(.int .i64 0), (.int .i64 0)], none⟩,
    ⟨none, .store (some 2) (.t 10) (.t 23), none⟩]) (.kp [0, 2, 4, 7, 8, 9, 10] (.seq (.seq (.segs [⟨none, [⟨some 24, .faddr (.t 10) 0 none, none⟩,
      ⟨some 25, .load none (.t 24), none⟩,
      ⟨some 26, .bin .eql (.t 25) (.c (.int .i64 0)), none⟩,
      ⟨some 27, .mv (.t 26), none⟩], none⟩,
    ⟨some (27, true), [⟨some 28, .mv (.t 2), none⟩,
      ⟨some 29, .callp 11 [(.t 28), (.c (.int .i64 0)), (.c (.int .i64 3652059))], none⟩,
      ⟨some 30, .not (.t 29), none⟩], none⟩,
    ⟨none, [⟨some 31, .pick (.t 27) (.t 30) (.c (.bool false)), none⟩], none⟩]) (.kp [0, 2, 4, 7, 8, 9, 10, 31] (.cond (.t 31) (.reg [⟨some 32, .callp 12 [(.c (.int .i64 4)), (.c (.int .i64 (-3)))], none⟩,
    ⟨none, .store (some 2) (.t 10) (.t 32), none⟩]) (.skip)))) (c4_k6))))))) }
theorem cmp4 : (cFun Tryz.prog efs Tryz.f4).map (fun x => (x.nargs, x.nt, x.res, x.code)) = some (c4.nargs, c4.nt, c4.res, bare c4.code) := by kernel_rfl
end Go.Proofs.YtecpfmhminkalaaGreatDoor
namespace Go.Proofs.YtecpfmhminkalaaGreatDoor
theorem find_first {p : Int → Bool} : ∀ {L : List Int} {k : Nat}, L.find? p = (L.drop k).find? p → ∀ {y}, L[k]? = some y → L.find? p = if p y then some y else (L.drop (k + 1)).find? p := by
  intro L k h y hy
  rw [h, drop_at hy, List.find?_cons]
  cases p y <;> rfl
set_option maxHeartbeats 8000000 in
theorem nextSpec_a (s : Int) (r : Rule) (m : Int) : APure Tryz.prog 4 [aI s, aR r, aI m] (.bool true) := by
  have hsf := startFault_a s r
  have hl := next_a s r m
  have hi := in_a m 0 3652059
  by_cases hc : (checkF s r).1 = 0
  · obtain ⟨hr, hs1, hs2, he⟩ := check_ok hc
    rw [he] at hsf
    by_cases hm : 0 ≤ m ∧ m ≤ 3652059
    · obtain ⟨m0, m1⟩ := hm
      have hrec := recurring_a s r 20001 ⟨hs1, hs2⟩ hr (by omega)
      rw [list_full] at hrec
      have hlen := cut_len r s
      have hpos : ∀ x ∈ cutF r (allF r s), 1 ≤ x ∧ x ≤ 3652059 := fun x hx => by have := all_mem ((cut_sub r _).subset hx); omega
      have e : nextV s r m = (nextF r s m, decide (0 < nextF r s m), (0, 0)) := by unfold nextV; rw [if_neg (by simp [hc]), if_neg (by omega)]
      rw [e] at hl
      have hn : nextF r s m = ((cutF r (allF r s)).find? (fun x => decide (m < x))).getD 0 := rfl
      generalize nextF r s m = nx at *
      generalize cutF r (allF r s) = l at *
      refine apure_intro Tryz.func4 cmp4 rfl fun n H hH => ?_
      have rest : ∀ g9 n1 H1, n ≤ n1 → (∀ k, n1 ≤ k → H1 k = none) → SameB n H H1 → H1 g9 = some (.cells 27 [.int .i64 0, .int .i64 0]) →
          LoopK (fun Q s => aw Tryz.prog c4_L4 Q s) (blockA 0 (thenA (aw Tryz.prog c4_k1 (finP (.bool true) n H [.tmp 6])) (finP (.bool true) n H [.tmp 6])))
            ⟨[(2, aI m), (7, aI nx), (8, .bool (decide (0 < nx))), (9, .ptr g9 0), (11, aL l), (12, .int .i64 0)], n1, H1⟩ := by
        intro g9 n1 H1 hn1 hs1 hS1 f9
        refine LoopK.go (fun q st => ∃ (k : Nat), k + q = l.length ∧ st = ⟨[(2, aI m), (7, aI nx), (8, .bool (decide (0 < nx))), (9, .ptr g9 0), (11, aL l), (12, aI k)], n1, H1⟩ ∧ l.find? (fun x => decide (m < x)) = (l.drop k).find? (fun x => decide (m < x))) l.length ⟨0, by omega, rfl, by simp⟩ ?_
        rintro q st ⟨k, hkq, rfl, hE⟩ J hJ
        
        by_cases hk : k < l.length
        · obtain ⟨y, hy⟩ : ∃ y, l[k]? = some y := ⟨_, List.getElem?_eq_getElem hk⟩
          have hyb := hpos y (List.mem_of_getElem? hy)
          have hE2 := find_first hE hy
          by_cases hmy : m < y
          · rw [if_pos (by simpa using hmy)] at hE2
            rw [hE2] at hn
            simp only [Option.getD_some] at hn
            subst hn
            have hp : 0 < nx := by omega
            repeat' (first | (simp -implicitDefEqProofs [c4_k1_go, c4_k2_go, c4_k3_go, c4_L4_go, c4_k5_go, c4_k6_go, c4, Z0, XN, XP, Z1, Z2, Z3, Z4, XO, XJ, XL, XK, Z5, Z6, Z7, Z8, Z9, ZA, ZB, ZC, ZD, ZE, ZF, ZG, ZH, ZI, scV, pe, ZJ, ZK, ZL, ZM, ZN, ZO, ZP, ZQ, ZR, ZS, ZT, QW, ZU, ZV, ZW, ZX, ZY, ZZ, Za, Zb, Zc, Zd, Ze, Zf, Zg, Zh, Zi, Zj, Zk, Zl, Zm, Zn, Zo, Zp, Zq, Zr, Zs, QV, Zt, Zu, Zv, Zw, Zx, Zy, Zz, Y0, Y1, Y2, Y3, Y4, Y5, Y6, Y7, Y8, Y9, YA, YB, YC, YD, YE, YF, YG, List.mem_cons, Xe, Xd, XH, QZ, QB, YH, Xy, Q8, Q4, Q6, Q7, Q5, QC, QD, Q2, YI, YJ, Q1, YK, YL, YM, YN, YO, YP, Q9, YQ, YR, YS, YT, YU, YV, QA, Xx, QE, QI, QJ, YW, YX, QK, YY, Xz, YZ, Q0, Xw, Ya, QF, QG, Yb, Yc, Yd, Ye, Yf, Yg, Yh, Yi, Xt, Xa, XY, Xs, Xv, XX, Xc, QU, XG, Yj, Xl, Xb, Xu, XS, Xp, XQ, QN, XZ, QR, QS, Xr, Xo, Xk, Xn, Xq, Xj, XT, ev, get, put, QM, Xi, Yk, Yl, Ym, Yn, Yo, Yp, XU, part, Xm, Yq, Yr, Ys, isNil, Xh, Xg, XR, Xf, QX, Yt, Yu, Yv, Yw, Yx, Yy, Yz, X0, X1, X2, X3, X4, X5, X6, X7, X8, AV.fits, AV.cells, ones, AV.one, Qb, Qc, Qd, Qe, XV, XW, X9, XA, XB, XC, QO, QP, resV, XI, XD, QT, u8e, QY, XE, XF, List.getElem?_cons_zero, List.getElem?_cons_succ, -getElem?_pos, f9, hk, hy, hmy, hp]) | (simp (disch := omega) only [upd_ne, XD, if_pos, if_neg, IntWalk.i64_in, Int.tdiv_eq_ediv_of_nonneg, Int.tmod_eq_emod_of_nonneg]) | ((with_reducible refine CallP.chk (f := 13) ?_); (refine' CallP.sf ?_ (recurred_a) ?_); (focus first | (with_reducible exact simL_refl _) | (exact Owns.simC0 (by assumption)) | (exact Owns.simC1 (by assumption)) | (simp [simL, simA, simA_refl, simL_refl]; done))) | (with_reducible refine fin_r ?_ ?_ ?_) | (with_reducible exact SameB.rfl_ _ _) | (with_reducible assumption) | (with_reducible refine newPM_of ?_) | (with_reducible refine newSM_of ?_) | (with_reducible refine newP_go ?_) | (with_reducible refine newS_go ?_) | (with_reducible refine newM_go ?_) | (with_reducible intro _g _hg) | (with_reducible refine And.intro ?_ ?_) | (with_reducible intro _hc) | omega)
            all_goals first | exact simA_refl _ | exact hS1 | omega
          · rw [if_neg (by simpa using hmy)] at hE2
            repeat' (first | (simp -implicitDefEqProofs [c4_k1_go, c4_k2_go, c4_k3_go, c4_L4_go, c4_k5_go, c4_k6_go, c4, Z0, XN, XP, Z1, Z2, Z3, Z4, XO, XJ, XL, XK, Z5, Z6, Z7, Z8, Z9, ZA, ZB, ZC, ZD, ZE, ZF, ZG, ZH, ZI, scV, pe, ZJ, ZK, ZL, ZM, ZN, ZO, ZP, ZQ, ZR, ZS, ZT, QW, ZU, ZV, ZW, ZX, ZY, ZZ, Za, Zb, Zc, Zd, Ze, Zf, Zg, Zh, Zi, Zj, Zk, Zl, Zm, Zn, Zo, Zp, Zq, Zr, Zs, QV, Zt, Zu, Zv, Zw, Zx, Zy, Zz, Y0, Y1, Y2, Y3, Y4, Y5, Y6, Y7, Y8, Y9, YA, YB, YC, YD, YE, YF, YG, List.mem_cons, Xe, Xd, XH, QZ, QB, YH, Xy, Q8, Q4, Q6, Q7, Q5, QC, QD, Q2, YI, YJ, Q1, YK, YL, YM, YN, YO, YP, Q9, YQ, YR, YS, YT, YU, YV, QA, Xx, QE, QI, QJ, YW, YX, QK, YY, Xz, YZ, Q0, Xw, Ya, QF, QG, Yb, Yc, Yd, Ye, Yf, Yg, Yh, Yi, Xt, Xa, XY, Xs, Xv, XX, Xc, QU, XG, Yj, Xl, Xb, Xu, XS, Xp, XQ, QN, XZ, QR, QS, Xr, Xo, Xk, Xn, Xq, Xj, XT, ev, get, put, QM, Xi, Yk, Yl, Ym, Yn, Yo, Yp, XU, part, Xm, Yq, Yr, Ys, isNil, Xh, Xg, XR, Xf, QX, Yt, Yu, Yv, Yw, Yx, Yy, Yz, X0, X1, X2, X3, X4, X5, X6, X7, X8, AV.fits, AV.cells, ones, AV.one, Qb, Qc, Qd, Qe, XV, XW, X9, XA, XB, XC, QO, QP, resV, XI, XD, QT, u8e, QY, XE, XF, List.getElem?_cons_zero, List.getElem?_cons_succ, -getElem?_pos, f9, hk, hy, hmy]) | (simp (disch := omega) only [upd_ne, XD, if_pos, if_neg, IntWalk.i64_in, Int.tdiv_eq_ediv_of_nonneg, Int.tmod_eq_emod_of_nonneg]) | (with_reducible refine fin_r ?_ ?_ ?_) | (with_reducible exact SameB.rfl_ _ _) | (with_reducible assumption) | (with_reducible refine newPM_of ?_) | (with_reducible refine newSM_of ?_) | (with_reducible refine newP_go ?_) | (with_reducible refine newS_go ?_) | (with_reducible refine newM_go ?_) | (with_reducible intro _g _hg) | (with_reducible refine And.intro ?_ ?_) | (with_reducible intro _hc) | omega)
            all_goals first | exact hJ (q - 1) _ (by omega) ⟨k + 1, by omega, rfl, hE2⟩ | omega
        · have hk0 : k = l.length := by omega
          subst hk0
          simp at hE
          have hn0 : nx = 0 := by
            rw [hn]
            have : l.find? (fun x => decide (m < x)) = none := by rw [List.find?_eq_none]; intro x hx; have := hE x hx; simp; omega
            rw [this]; rfl
          subst hn0
          repeat' (first | (simp -implicitDefEqProofs [c4_k1_go, c4_k2_go, c4_k3_go, c4_L4_go, c4_k5_go, c4_k6_go, c4, Z0, XN, XP, Z1, Z2, Z3, Z4, XO, XJ, XL, XK, Z5, Z6, Z7, Z8, Z9, ZA, ZB, ZC, ZD, ZE, ZF, ZG, ZH, ZI, scV, pe, ZJ, ZK, ZL, ZM, ZN, ZO, ZP, ZQ, ZR, ZS, ZT, QW, ZU, ZV, ZW, ZX, ZY, ZZ, Za, Zb, Zc, Zd, Ze, Zf, Zg, Zh, Zi, Zj, Zk, Zl, Zm, Zn, Zo, Zp, Zq, Zr, Zs, QV, Zt, Zu, Zv, Zw, Zx, Zy, Zz, Y0, Y1, Y2, Y3, Y4, Y5, Y6, Y7, Y8, Y9, YA, YB, YC, YD, YE, YF, YG, List.mem_cons, Xe, Xd, XH, QZ, QB, YH, Xy, Q8, Q4, Q6, Q7, Q5, QC, QD, Q2, YI, YJ, Q1, YK, YL, YM, YN, YO, YP, Q9, YQ, YR, YS, YT, YU, YV, QA, Xx, QE, QI, QJ, YW, YX, QK, YY, Xz, YZ, Q0, Xw, Ya, QF, QG, Yb, Yc, Yd, Ye, Yf, Yg, Yh, Yi, Xt, Xa, XY, Xs, Xv, XX, Xc, QU, XG, Yj, Xl, Xb, Xu, XS, Xp, XQ, QN, XZ, QR, QS, Xr, Xo, Xk, Xn, Xq, Xj, XT, ev, get, put, QM, Xi, Yk, Yl, Ym, Yn, Yo, Yp, XU, part, Xm, Yq, Yr, Ys, isNil, Xh, Xg, XR, Xf, QX, Yt, Yu, Yv, Yw, Yx, Yy, Yz, X0, X1, X2, X3, X4, X5, X6, X7, X8, AV.fits, AV.cells, ones, AV.one, Qb, Qc, Qd, Qe, XV, XW, X9, XA, XB, XC, QO, QP, resV, XI, XD, QT, u8e, QY, XE, XF, List.getElem?_cons_zero, List.getElem?_cons_succ, -getElem?_pos, f9]) | (simp (disch := omega) only [upd_ne, XD, if_pos, if_neg, IntWalk.i64_in, Int.tdiv_eq_ediv_of_nonneg, Int.tmod_eq_emod_of_nonneg]) | ((with_reducible refine CallP.chk (f := 13) ?_); (refine' CallP.sf ?_ (recurred_a) ?_); (focus first | (with_reducible exact simL_refl _) | (exact Owns.simC0 (by assumption)) | (exact Owns.simC1 (by assumption)) | (simp [simL, simA, simA_refl, simL_refl]; done))) | (with_reducible refine fin_r ?_ ?_ ?_) | (with_reducible exact SameB.rfl_ _ _) | (with_reducible assumption) | (with_reducible refine newPM_of ?_) | (with_reducible refine newSM_of ?_) | (with_reducible refine newP_go ?_) | (with_reducible refine newS_go ?_) | (with_reducible refine newM_go ?_) | (with_reducible intro _g _hg) | (with_reducible refine And.intro ?_ ?_) | (with_reducible intro _hc) | omega)
          all_goals first | exact simA_refl _ | exact hS1 | omega
      repeat' (first | (simp -implicitDefEqProofs [c4_k1_go, c4_k2_go, c4_k3_go, c4_L4_go, c4_k5_go, c4_k6_go, c4, Z0, XN, XP, Z1, Z2, Z3, Z4, XO, XJ, XL, XK, Z5, Z6, Z7, Z8, Z9, ZA, ZB, ZC, ZD, ZE, ZF, ZG, ZH, ZI, scV, pe, ZJ, ZK, ZL, ZM, ZN, ZO, ZP, ZQ, ZR, ZS, ZT, QW, ZU, ZV, ZW, ZX, ZY, ZZ, Za, Zb, Zc, Zd, Ze, Zf, Zg, Zh, Zi, Zj, Zk, Zl, Zm, Zn, Zo, Zp, Zq, Zr, Zs, QV, Zt, Zu, Zv, Zw, Zx, Zy, Zz, Y0, Y1, Y2, Y3, Y4, Y5, Y6, Y7, Y8, Y9, YA, YB, YC, YD, YE, YF, YG, List.mem_cons, Xe, Xd, XH, QZ, QB, YH, Xy, Q8, Q4, Q6, Q7, Q5, QC, QD, Q2, YI, YJ, Q1, YK, YL, YM, YN, YO, YP, Q9, YQ, YR, YS, YT, YU, YV, QA, Xx, QE, QI, QJ, YW, YX, QK, YY, Xz, YZ, Q0, Xw, Ya, QF, QG, Yb, Yc, Yd, Ye, Yf, Yg, Yh, Yi, Xt, Xa, XY, Xs, Xv, XX, Xc, QU, XG, Yj, Xl, Xb, Xu, XS, Xp, XQ, QN, XZ, QR, QS, Xr, Xo, Xk, Xn, Xq, Xj, XT, ev, get, put, QM, Xi, Yk, Yl, Ym, Yn, Yo, Yp, XU, part, Xm, Yq, Yr, Ys, isNil, Xh, Xg, XR, Xf, QX, Yt, Yu, Yv, Yw, Yx, Yy, Yz, X0, X1, X2, X3, X4, X5, X6, X7, X8, AV.fits, AV.cells, ones, AV.one, Qb, Qc, Qd, Qe, XV, XW, X9, XA, XB, XC, QO, QP, resV, XI, XD, QT, u8e, QY, XE, XF, List.getElem?_cons_zero, List.getElem?_cons_succ, -getElem?_pos, splice, m0, m1]) | (simp (disch := omega) only [upd_ne, XD, if_pos, if_neg, IntWalk.i64_in, Int.tdiv_eq_ediv_of_nonneg, Int.tmod_eq_emod_of_nonneg]) | ((with_reducible refine CallP.chk (f := 16) ?_); (refine' CallP.sf ?_ (hl) ?_); (focus first | (with_reducible exact simL_refl _) | (exact Owns.simC0 (by assumption)) | (exact Owns.simC1 (by assumption)) | (simp [simL, simA, simA_refl, simL_refl]; done) | ((repeat (first | (with_reducible exact simA_refl _) | (exact simL_nil0) | (refine simL_cons ?_ ?_) | (exact simA_nil) | (refine simA_sl0 ?_) | (refine simA_agg ?_))); done))) | ((with_reducible refine CallP.chk (f := 10) ?_); (refine' CallP.sf ?_ (hsf) ?_); (focus first | (with_reducible exact simL_refl _) | (exact Owns.simC0 (by assumption)) | (exact Owns.simC1 (by assumption)) | (simp [simL, simA, simA_refl, simL_refl]; done) | ((repeat (first | (with_reducible exact simA_refl _) | (exact simL_nil0) | (refine simL_cons ?_ ?_) | (exact simA_nil) | (refine simA_sl0 ?_) | (refine simA_agg ?_))); done))) | ((with_reducible refine CallP.chk (f := 11) ?_); (refine' CallP.sf ?_ (hi) ?_); (focus first | (with_reducible exact simL_refl _) | (exact Owns.simC0 (by assumption)) | (exact Owns.simC1 (by assumption)) | (simp [simL, simA, simA_refl, simL_refl]; done) | ((repeat (first | (with_reducible exact simA_refl _) | (exact simL_nil0) | (refine simL_cons ?_ ?_) | (exact simA_nil) | (refine simA_sl0 ?_) | (refine simA_agg ?_))); done))) | ((with_reducible refine CallP.chk (f := 15) ?_); (refine' CallP.sf ?_ (hrec) ?_); (focus first | (with_reducible exact simL_refl _) | (exact Owns.simC0 (by assumption)) | (exact Owns.simC1 (by assumption)) | (simp [simL, simA, simA_refl, simL_refl]; done) | ((repeat (first | (with_reducible exact simA_refl _) | (exact simL_nil0) | (refine simL_cons ?_ ?_) | (exact simA_nil) | (refine simA_sl0 ?_) | (refine simA_agg ?_))); done))) | (with_reducible refine fin_r ?_ ?_ ?_) | (with_reducible exact SameB.rfl_ _ _) | (with_reducible refine SameB.upd ?_ ?_ _) | (with_reducible assumption) | (with_reducible refine newPM_of ?_) | (with_reducible refine newSM_of ?_) | (with_reducible refine newP_go ?_) | (with_reducible refine newS_go ?_) | (with_reducible refine newM_go ?_) | (with_reducible intro _g _hg) | (with_reducible refine And.intro ?_ ?_) | (with_reducible intro _hc) | omega)
      refine rest _ _ _ (by omega) (fun k hk => by simp (disch := omega) only [upd_ne]; exact hH k (by omega)) (by repeat' (first | exact SameB.rfl_ _ _ | refine SameB.upd ?_ (by omega) _)) (by simp (disch := omega) only [upd_ne, XD])
    · have e : nextV s r m = (0, false, (4, -3)) := by unfold nextV; rw [if_neg (by simp [hc]), if_pos (by omega)]
      rw [e] at hl
      have hb : (decide (0 ≤ m) && decide (m ≤ 3652059)) = false := by simp; omega
      rw [hb] at hi
      have hat := at_a 4 (-3)
      refine apure_intro Tryz.func4 cmp4 rfl fun n H hH => ?_
      repeat' (first | (simp -implicitDefEqProofs [c4_k1_go, c4_k2_go, c4_k3_go, c4_L4_go, c4_k5_go, c4_k6_go, c4, Z0, XN, XP, Z1, Z2, Z3, Z4, XO, XJ, XL, XK, Z5, Z6, Z7, Z8, Z9, ZA, ZB, ZC, ZD, ZE, ZF, ZG, ZH, ZI, scV, pe, ZJ, ZK, ZL, ZM, ZN, ZO, ZP, ZQ, ZR, ZS, ZT, QW, ZU, ZV, ZW, ZX, ZY, ZZ, Za, Zb, Zc, Zd, Ze, Zf, Zg, Zh, Zi, Zj, Zk, Zl, Zm, Zn, Zo, Zp, Zq, Zr, Zs, QV, Zt, Zu, Zv, Zw, Zx, Zy, Zz, Y0, Y1, Y2, Y3, Y4, Y5, Y6, Y7, Y8, Y9, YA, YB, YC, YD, YE, YF, YG, List.mem_cons, Xe, Xd, XH, QZ, QB, YH, Xy, Q8, Q4, Q6, Q7, Q5, QC, QD, Q2, YI, YJ, Q1, YK, YL, YM, YN, YO, YP, Q9, YQ, YR, YS, YT, YU, YV, QA, Xx, QE, QI, QJ, YW, YX, QK, YY, Xz, YZ, Q0, Xw, Ya, QF, QG, Yb, Yc, Yd, Ye, Yf, Yg, Yh, Yi, Xt, Xa, XY, Xs, Xv, XX, Xc, QU, XG, Yj, Xl, Xb, Xu, XS, Xp, XQ, QN, XZ, QR, QS, Xr, Xo, Xk, Xn, Xq, Xj, XT, ev, get, put, QM, Xi, Yk, Yl, Ym, Yn, Yo, Yp, XU, part, Xm, Yq, Yr, Ys, isNil, Xh, Xg, XR, Xf, QX, Yt, Yu, Yv, Yw, Yx, Yy, Yz, X0, X1, X2, X3, X4, X5, X6, X7, X8, AV.fits, AV.cells, ones, AV.one, Qb, Qc, Qd, Qe, XV, XW, X9, XA, XB, XC, QO, QP, resV, XI, XD, QT, u8e, QY, XE, XF, List.getElem?_cons_zero, List.getElem?_cons_succ, -getElem?_pos, splice]) | (simp (disch := omega) only [upd_ne, XD, if_pos, if_neg, IntWalk.i64_in, Int.tdiv_eq_ediv_of_nonneg, Int.tmod_eq_emod_of_nonneg]) | ((with_reducible refine CallP.chk (f := 16) ?_); (refine' CallP.sf ?_ (hl) ?_); (focus first | (with_reducible exact simL_refl _) | (exact Owns.simC0 (by assumption)) | (exact Owns.simC1 (by assumption)) | (simp [simL, simA, simA_refl, simL_refl]; done) | ((repeat (first | (with_reducible exact simA_refl _) | (exact simL_nil0) | (refine simL_cons ?_ ?_) | (exact simA_nil) | (refine simA_sl0 ?_) | (refine simA_agg ?_))); done))) | ((with_reducible refine CallP.chk (f := 10) ?_); (refine' CallP.sf ?_ (hsf) ?_); (focus first | (with_reducible exact simL_refl _) | (exact Owns.simC0 (by assumption)) | (exact Owns.simC1 (by assumption)) | (simp [simL, simA, simA_refl, simL_refl]; done) | ((repeat (first | (with_reducible exact simA_refl _) | (exact simL_nil0) | (refine simL_cons ?_ ?_) | (exact simA_nil) | (refine simA_sl0 ?_) | (refine simA_agg ?_))); done))) | ((with_reducible refine CallP.chk (f := 11) ?_); (refine' CallP.sf ?_ (hi) ?_); (focus first | (with_reducible exact simL_refl _) | (exact Owns.simC0 (by assumption)) | (exact Owns.simC1 (by assumption)) | (simp [simL, simA, simA_refl, simL_refl]; done) | ((repeat (first | (with_reducible exact simA_refl _) | (exact simL_nil0) | (refine simL_cons ?_ ?_) | (exact simA_nil) | (refine simA_sl0 ?_) | (refine simA_agg ?_))); done))) | ((with_reducible refine CallP.chk (f := 12) ?_); (refine' CallP.sf ?_ (hat) ?_); (focus first | (with_reducible exact simL_refl _) | (exact Owns.simC0 (by assumption)) | (exact Owns.simC1 (by assumption)) | (simp [simL, simA, simA_refl, simL_refl]; done) | ((repeat (first | (with_reducible exact simA_refl _) | (exact simL_nil0) | (refine simL_cons ?_ ?_) | (exact simA_nil) | (refine simA_sl0 ?_) | (refine simA_agg ?_))); done))) | ((with_reducible refine CallP.chk (f := 13) ?_); (refine' CallP.sf ?_ (recurred_a) ?_); (focus first | (with_reducible exact simL_refl _) | (exact Owns.simC0 (by assumption)) | (exact Owns.simC1 (by assumption)) | (simp [simL, simA, simA_refl, simL_refl]; done) | ((repeat (first | (with_reducible exact simA_refl _) | (exact simL_nil0) | (refine simL_cons ?_ ?_) | (exact simA_nil) | (refine simA_sl0 ?_) | (refine simA_agg ?_))); done))) | (with_reducible refine fin_r ?_ ?_ ?_) | (with_reducible exact SameB.rfl_ _ _) | (with_reducible refine SameB.upd ?_ ?_ _) | (with_reducible assumption) | (with_reducible refine newPM_of ?_) | (with_reducible refine newSM_of ?_) | (with_reducible refine newP_go ?_) | (with_reducible refine newS_go ?_) | (with_reducible refine newM_go ?_) | (with_reducible intro _g _hg) | (with_reducible refine And.intro ?_ ?_) | (with_reducible intro _hc) | omega)
      all_goals exact simA_refl _
  · have e : nextV s r m = (0, false, checkF s r) := by unfold nextV; rw [if_pos hc]
    rw [e] at hl
    generalize checkF s r = cf at *
    obtain ⟨cf1, cf2⟩ := cf
    dsimp only at hc
    refine apure_intro Tryz.func4 cmp4 rfl fun n H hH => ?_
    repeat' (first | (simp -implicitDefEqProofs [c4_k1_go, c4_k2_go, c4_k3_go, c4_L4_go, c4_k5_go, c4_k6_go, c4, Z0, XN, XP, Z1, Z2, Z3, Z4, XO, XJ, XL, XK, Z5, Z6, Z7, Z8, Z9, ZA, ZB, ZC, ZD, ZE, ZF, ZG, ZH, ZI, scV, pe, ZJ, ZK, ZL, ZM, ZN, ZO, ZP, ZQ, ZR, ZS, ZT, QW, ZU, ZV, ZW, ZX, ZY, ZZ, Za, Zb, Zc, Zd, Ze, Zf, Zg, Zh, Zi, Zj, Zk, Zl, Zm, Zn, Zo, Zp, Zq, Zr, Zs, QV, Zt, Zu, Zv, Zw, Zx, Zy, Zz, Y0, Y1, Y2, Y3, Y4, Y5, Y6, Y7, Y8, Y9, YA, YB, YC, YD, YE, YF, YG, List.mem_cons, Xe, Xd, XH, QZ, QB, YH, Xy, Q8, Q4, Q6, Q7, Q5, QC, QD, Q2, YI, YJ, Q1, YK, YL, YM, YN, YO, YP, Q9, YQ, YR, YS, YT, YU, YV, QA, Xx, QE, QI, QJ, YW, YX, QK, YY, Xz, YZ, Q0, Xw, Ya, QF, QG, Yb, Yc, Yd, Ye, Yf, Yg, Yh, Yi, Xt, Xa, XY, Xs, Xv, XX, Xc, QU, XG, Yj, Xl, Xb, Xu, XS, Xp, XQ, QN, XZ, QR, QS, Xr, Xo, Xk, Xn, Xq, Xj, XT, ev, get, put, QM, Xi, Yk, Yl, Ym, Yn, Yo, Yp, XU, part, Xm, Yq, Yr, Ys, isNil, Xh, Xg, XR, Xf, QX, Yt, Yu, Yv, Yw, Yx, Yy, Yz, X0, X1, X2, X3, X4, X5, X6, X7, X8, AV.fits, AV.cells, ones, AV.one, Qb, Qc, Qd, Qe, XV, XW, X9, XA, XB, XC, QO, QP, resV, XI, XD, QT, u8e, QY, XE, XF, List.getElem?_cons_zero, List.getElem?_cons_succ, -getElem?_pos, splice, hc]) | (simp (disch := omega) only [upd_ne, XD, if_pos, if_neg, IntWalk.i64_in, Int.tdiv_eq_ediv_of_nonneg, Int.tmod_eq_emod_of_nonneg]) | ((with_reducible refine CallP.chk (f := 16) ?_); (refine' CallP.sf ?_ (hl) ?_); (focus first | (with_reducible exact simL_refl _) | (exact Owns.simC0 (by assumption)) | (exact Owns.simC1 (by assumption)) | (simp [simL, simA, simA_refl, simL_refl]; done) | ((repeat (first | (with_reducible exact simA_refl _) | (exact simL_nil0) | (refine simL_cons ?_ ?_) | (exact simA_nil) | (refine simA_sl0 ?_) | (refine simA_agg ?_))); done))) | ((with_reducible refine CallP.chk (f := 10) ?_); (refine' CallP.sf ?_ (hsf) ?_); (focus first | (with_reducible exact simL_refl _) | (exact Owns.simC0 (by assumption)) | (exact Owns.simC1 (by assumption)) | (simp [simL, simA, simA_refl, simL_refl]; done) | ((repeat (first | (with_reducible exact simA_refl _) | (exact simL_nil0) | (refine simL_cons ?_ ?_) | (exact simA_nil) | (refine simA_sl0 ?_) | (refine simA_agg ?_))); done))) | ((with_reducible refine CallP.chk (f := 13) ?_); (refine' CallP.sf ?_ (recurred_a) ?_); (focus first | (with_reducible exact simL_refl _) | (exact Owns.simC0 (by assumption)) | (exact Owns.simC1 (by assumption)) | (simp [simL, simA, simA_refl, simL_refl]; done) | ((repeat (first | (with_reducible exact simA_refl _) | (exact simL_nil0) | (refine simL_cons ?_ ?_) | (exact simA_nil) | (refine simA_sl0 ?_) | (refine simA_agg ?_))); done))) | (with_reducible refine fin_r ?_ ?_ ?_) | (with_reducible exact SameB.rfl_ _ _) | (with_reducible refine SameB.upd ?_ ?_ _) | (with_reducible assumption) | (with_reducible refine newPM_of ?_) | (with_reducible refine newSM_of ?_) | (with_reducible refine newP_go ?_) | (with_reducible refine newS_go ?_) | (with_reducible refine newM_go ?_) | (with_reducible intro _g _hg) | (with_reducible refine And.intro ?_ ?_) | (with_reducible intro _hc) | omega)
    all_goals exact simA_refl _
end Go.Proofs.YtecpfmhminkalaaGreatDoor
