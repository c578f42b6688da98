/- The code of some functions on plain data, by program, and that it is what the program's text gives; no condition. -/
import Derived.Test.YtecpfmhminkalaaDoorAdA
import Derived.Test.YtecpfmhminkalaaDoorProg
import Derived.KernelRfl
import Derived.Test.YtecpfmhminkalaaDoorMrI
set_option linter.all false
set_option linter.unusedSimpArgs false
set_option linter.unusedVariables false
namespace Go.Proofs.YtecpfmhminkalaaDoor
def c3_k1 : ACode := .kp [0, 4, 6, 11] (.seq (.regD [] [⟨some 126, .mv (.t 0), none⟩,
    ⟨some 127, .load (some 8) (.t 6), none⟩,
    ⟨some 128, .mv (.t 11), none⟩,
    ⟨some 129, .mv (.t 4), none⟩,
    ⟨some 130, .iaddr 1 none (.t 128) (.t 129), none⟩,
    ⟨some 131, .load none (.t 130), none⟩,
    ⟨some 132, .callp 12 [(.t 126), (.t 127), (.t 131)], none⟩,
    ⟨some 125, .mv (.t 132), none⟩,
    ⟨some 133, .extr (.t 125) 0, none⟩,
    ⟨some 134, .extr (.t 125) 1, none⟩,
    ⟨some 135, .extr (.t 125) 2, none⟩,
    ⟨some 18, .alloc 27 [(.int .i64 0), (.int .i64 0)], none⟩,
    ⟨some 16, .mv (.t 133), none⟩,
    ⟨some 17, .mv (.t 134), none⟩,
    ⟨none, .store (some 2) (.t 18) (.t 135), none⟩]) (.kp [4, 11, 16, 17, 18] (.seq (.segs [⟨none, [⟨some 136, .faddr (.t 18) 0 none, none⟩,
      ⟨some 137, .load none (.t 136), none⟩,
      ⟨some 138, .bin .eql (.t 137) (.c (.int .i64 0)), none⟩,
      ⟨some 139, .mv (.t 138), none⟩], none⟩,
    ⟨some (139, true), [⟨some 140, .mv (.t 17), none⟩], some (141, 140)⟩,
    ⟨none, [⟨some 142, .mv (.t 141), none⟩], none⟩,
    ⟨some (142, true), [⟨some 143, .mv (.t 16), none⟩,
      ⟨some 144, .mv (.t 11), none⟩,
      ⟨some 145, .mv (.t 4), none⟩,
      ⟨some 146, .bin .add (.t 145) (.c (.int .i64 1)), none⟩,
      ⟨some 147, .iaddr 1 none (.t 144) (.t 146), none⟩,
      ⟨some 148, .load none (.t 147), none⟩,
      ⟨some 149, .bin .eql (.t 143) (.t 148), none⟩], some (150, 149)⟩,
    ⟨none, [⟨some 151, .mv (.t 150), none⟩], none⟩,
    ⟨some (151, true), [⟨some 152, .callp 9 [], none⟩], none⟩,
    ⟨none, [⟨some 153, .pick (.t 151) (.t 152) (.c (.bool false)), none⟩,
      ⟨some 10, .mv (.t 153), none⟩], none⟩]) (.ret))))
theorem c3_k1_go {Q : AExit → AS → Prop} {e : AEnv} {n : Nat} {H : AHeap} : aw Tryd.prog c3_k1 Q ⟨e, n, H⟩ = aw Tryd.prog (.kp [0, 4, 6, 11] (.seq (.regD [] [⟨some 126, .mv (.t 0), none⟩,
    ⟨some 127, .load (some 8) (.t 6), none⟩,
    ⟨some 128, .mv (.t 11), none⟩,
    ⟨some 129, .mv (.t 4), none⟩,
    ⟨some 130, .iaddr 1 none (.t 128) (.t 129), none⟩,
    ⟨some 131, .load none (.t 130), none⟩,
    ⟨some 132, .callp 12 [(.t 126), (.t 127), (.t 131)], none⟩,
    ⟨some 125, .mv (.t 132), none⟩,
    ⟨some 133, .extr (.t 125) 0, none⟩,
    ⟨some 134, .extr (.t 125) 1, none⟩,
    ⟨some 135, .extr (.t 125) 2, none⟩,
    ⟨some 18, .alloc 27 [(.int .i64 0), (.int .i64 0)], none⟩,
    ⟨some 16, .mv (.t 133), none⟩,
    ⟨some 17, .mv (.t 134), none⟩,
    ⟨none, .store (some 2) (.t 18) (.t 135), none⟩]) (.kp [4, 11, 16, 17, 18] (.seq (.segs [⟨none, [⟨some 136, .faddr (.t 18) 0 none, none⟩,
      ⟨some 137, .load none (.t 136), none⟩,
      ⟨some 138, .bin .eql (.t 137) (.c (.int .i64 0)), none⟩,
      ⟨some 139, .mv (.t 138), none⟩], none⟩,
    ⟨some (139, true), [⟨some 140, .mv (.t 17), none⟩], some (141, 140)⟩,
    ⟨none, [⟨some 142, .mv (.t 141), none⟩], none⟩,
    ⟨some (142, true), [⟨some 143, .mv (.t 16), none⟩,
      ⟨some 144, .mv (.t 11), none⟩,
      ⟨some 145, .mv (.t 4), none⟩,
      ⟨some 146, .bin .add (.t 145) (.c (.int .i64 1)), none⟩,
      ⟨some 147, .iaddr 1 none (.t 144) (.t 146), none⟩,
      ⟨some 148, .load none (.t 147), none⟩,
      ⟨some 149, .bin .eql (.t 143) (.t 148), none⟩], some (150, 149)⟩,
    ⟨none, [⟨some 151, .mv (.t 150), none⟩], none⟩,
    ⟨some (151, true), [⟨some 152, .callp 9 [], none⟩], none⟩,
    ⟨none, [⟨some 153, .pick (.t 151) (.t 152) (.c (.bool false)), none⟩,
      ⟨some 10, .mv (.t 153), none⟩], none⟩]) (.ret))))) Q ⟨e, n, H⟩ := rfl
def c3_k2 : ACode := .kp [0, 4, 6, 11] (.seq (.seq (.segs [⟨none, [⟨some 115, .mv (.t 4), none⟩,
      ⟨some 116, .bin .lss (.t 115) (.c (.int .i64 0)), none⟩,
      ⟨some 117, .mv (.t 116), none⟩], none⟩,
    ⟨some (117, false), [⟨some 118, .mv (.t 4), none⟩,
      ⟨some 119, .mv (.t 11), none⟩,
      ⟨some 120, .len (.t 119), none⟩,
      ⟨some 121, .bin .sub (.t 120) (.c (.int .i64 2)), none⟩,
      ⟨some 122, .bin .gtr (.t 118) (.t 121), none⟩], some (123, 122)⟩]) (.kp [0, 4, 6, 11, 123] (.cond (.t 123) (.seq (.reg [⟨some 124, .callp 9 [], none⟩,
    ⟨some 10, .mv (.t 124), none⟩]) (.ret)) (.skip)))) (c3_k1))
theorem c3_k2_go {Q : AExit → AS → Prop} {e : AEnv} {n : Nat} {H : AHeap} : aw Tryd.prog c3_k2 Q ⟨e, n, H⟩ = aw Tryd.prog (.kp [0, 4, 6, 11] (.seq (.seq (.segs [⟨none, [⟨some 115, .mv (.t 4), none⟩,
      ⟨some 116, .bin .lss (.t 115) (.c (.int .i64 0)), none⟩,
      ⟨some 117, .mv (.t 116), none⟩], none⟩,
    ⟨some (117, false), [⟨some 118, .mv (.t 4), none⟩,
      ⟨some 119, .mv (.t 11), none⟩,
      ⟨some 120, .len (.t 119), none⟩,
      ⟨some 121, .bin .sub (.t 120) (.c (.int .i64 2)), none⟩,
      ⟨some 122, .bin .gtr (.t 118) (.t 121), none⟩], some (123, 122)⟩]) (.kp [0, 4, 6, 11, 123] (.cond (.t 123) (.seq (.reg [⟨some 124, .callp 9 [], none⟩,
    ⟨some 10, .mv (.t 124), none⟩]) (.ret)) (.skip)))) (c3_k1))) Q ⟨e, n, H⟩ := rfl
def c3_k3 : ACode := .kp [0, 4, 6, 11, 15] (.reg [⟨some 103, .mv (.t 15), none⟩,
    ⟨some 104, .bin .add (.t 103) (.c (.int .i64 1)), none⟩,
    ⟨some 15, .mv (.t 104), none⟩])
theorem c3_k3_go {Q : AExit → AS → Prop} {e : AEnv} {n : Nat} {H : AHeap} : aw Tryd.prog c3_k3 Q ⟨e, n, H⟩ = aw Tryd.prog (.kp [0, 4, 6, 11, 15] (.reg [⟨some 103, .mv (.t 15), none⟩,
    ⟨some 104, .bin .add (.t 103) (.c (.int .i64 1)), none⟩,
    ⟨some 15, .mv (.t 104), none⟩])) Q ⟨e, n, H⟩ := rfl
def c3_k4 : ACode := .kp [0, 4, 6, 11, 15] (.seq (.block 1 (.seq (.reg [⟨some 105, .mv (.t 11), none⟩,
    ⟨some 106, .mv (.t 15), none⟩,
    ⟨some 107, .iaddr 1 none (.t 105) (.t 106), none⟩,
    ⟨some 108, .load none (.t 107), none⟩,
    ⟨some 109, .mv (.t 11), none⟩,
    ⟨some 110, .mv (.t 15), none⟩,
    ⟨some 111, .bin .sub (.t 110) (.c (.int .i64 1)), none⟩,
    ⟨some 112, .iaddr 1 none (.t 109) (.t 111), none⟩,
    ⟨some 113, .load none (.t 112), none⟩,
    ⟨some 114, .bin .leq (.t 108) (.t 113), none⟩]) (.kp [0, 4, 6, 11, 15, 114] (.cond (.t 114) (.seq (.reg [⟨some 10, .mv (.c (.bool false)), none⟩]) (.ret)) (.skip))))) (c3_k3))
theorem c3_k4_go {Q : AExit → AS → Prop} {e : AEnv} {n : Nat} {H : AHeap} : aw Tryd.prog c3_k4 Q ⟨e, n, H⟩ = aw Tryd.prog (.kp [0, 4, 6, 11, 15] (.seq (.block 1 (.seq (.reg [⟨some 105, .mv (.t 11), none⟩,
    ⟨some 106, .mv (.t 15), none⟩,
    ⟨some 107, .iaddr 1 none (.t 105) (.t 106), none⟩,
    ⟨some 108, .load none (.t 107), none⟩,
    ⟨some 109, .mv (.t 11), none⟩,
    ⟨some 110, .mv (.t 15), none⟩,
    ⟨some 111, .bin .sub (.t 110) (.c (.int .i64 1)), none⟩,
    ⟨some 112, .iaddr 1 none (.t 109) (.t 111), none⟩,
    ⟨some 113, .load none (.t 112), none⟩,
    ⟨some 114, .bin .leq (.t 108) (.t 113), none⟩]) (.kp [0, 4, 6, 11, 15, 114] (.cond (.t 114) (.seq (.reg [⟨some 10, .mv (.c (.bool false)), none⟩]) (.ret)) (.skip))))) (c3_k3))) Q ⟨e, n, H⟩ := rfl
def c3_L5 : ACode := .ke [0, 4, 6, 11, 15] (.seq (.seq (.reg [⟨some 99, .mv (.t 15), none⟩,
    ⟨some 100, .mv (.t 11), none⟩,
    ⟨some 101, .len (.t 100), none⟩,
    ⟨some 102, .bin .lss (.t 99) (.t 101), none⟩]) (.kp [0, 4, 6, 11, 15, 102] (.cond (.t 102) (.skip) (.exit 0)))) (c3_k4))
theorem c3_L5_go {Q : AExit → AS → Prop} {e : AEnv} {n : Nat} {H : AHeap} : aw Tryd.prog c3_L5 Q ⟨e, n, H⟩ = aw Tryd.prog (.ke [0, 4, 6, 11, 15] (.seq (.seq (.reg [⟨some 99, .mv (.t 15), none⟩,
    ⟨some 100, .mv (.t 11), none⟩,
    ⟨some 101, .len (.t 100), none⟩,
    ⟨some 102, .bin .lss (.t 99) (.t 101), none⟩]) (.kp [0, 4, 6, 11, 15, 102] (.cond (.t 102) (.skip) (.exit 0)))) (c3_k4))) Q ⟨e, n, H⟩ := rfl
def c3_k6 : ACode := .kp [0, 4, 6, 11] (.seq (.seq (.reg [⟨some 15, .mv (.c (.int .i64 1)), none⟩]) (.kp [0, 4, 6, 11, 15] (.block 0 (.kp [0, 4, 6, 11, 15] (.loop c3_L5))))) (c3_k2))
theorem c3_k6_go {Q : AExit → AS → Prop} {e : AEnv} {n : Nat} {H : AHeap} : aw Tryd.prog c3_k6 Q ⟨e, n, H⟩ = aw Tryd.prog (.kp [0, 4, 6, 11] (.seq (.seq (.reg [⟨some 15, .mv (.c (.int .i64 1)), none⟩]) (.kp [0, 4, 6, 11, 15] (.block 0 (.kp [0, 4, 6, 11, 15] (.loop c3_L5))))) (c3_k2))) Q ⟨e, n, H⟩ := rfl
def c3_k7 : ACode := .kp [0, 2, 3, 4, 6] (.seq (.reg [⟨some 37, .mv (.t 0), none⟩,
    ⟨some 38, .load (some 8) (.t 6), none⟩,
    ⟨some 39, .mv (.t 2), none⟩,
    ⟨some 40, .callp 10 [(.t 37), (.t 38), (.t 39)], none⟩,
    ⟨some 36, .mv (.t 40), none⟩,
    ⟨some 41, .extr (.t 36) 0, none⟩,
    ⟨some 42, .extr (.t 36) 1, none⟩,
    ⟨some 12, .alloc 27 [(.int .i64 0), (.int .i64 0)], none⟩,
    ⟨some 11, .mv (.t 41), none⟩,
    ⟨none, .store (some 2) (.t 12) (.t 42), none⟩]) (.kp [0, 2, 3, 4, 6, 11, 12] (.seq (.reg [⟨some 44, .mv (.t 0), none⟩,
    ⟨some 45, .load (some 8) (.t 6), none⟩,
    ⟨some 46, .mv (.t 3), none⟩,
    ⟨some 47, .callp 10 [(.t 44), (.t 45), (.t 46)], none⟩,
    ⟨some 43, .mv (.t 47), none⟩,
    ⟨some 48, .extr (.t 43) 0, none⟩,
    ⟨some 49, .extr (.t 43) 1, none⟩,
    ⟨some 14, .alloc 27 [(.int .i64 0), (.int .i64 0)], none⟩,
    ⟨some 13, .mv (.t 48), none⟩,
    ⟨none, .store (some 2) (.t 14) (.t 49), none⟩]) (.kp [0, 2, 3, 4, 6, 11, 12, 13, 14] (.seq (.seq (.segs [⟨none, [⟨some 50, .faddr (.t 12) 0 none, none⟩,
      ⟨some 51, .load none (.t 50), none⟩,
      ⟨some 52, .bin .neq (.t 51) (.c (.int .i64 0)), none⟩,
      ⟨some 53, .mv (.t 52), none⟩], none⟩,
    ⟨some (53, false), [⟨some 54, .faddr (.t 14) 0 none, none⟩,
      ⟨some 55, .load none (.t 54), none⟩,
      ⟨some 56, .bin .neq (.t 55) (.c (.int .i64 0)), none⟩], some (57, 56)⟩,
    ⟨none, [⟨some 58, .mv (.t 57), none⟩], none⟩,
    ⟨some (58, false), [⟨some 59, .mv (.t 11), none⟩,
      ⟨some 60, .len (.t 59), none⟩,
      ⟨some 61, .mv (.t 2), none⟩,
      ⟨some 62, .bin .gtr (.t 60) (.t 61), none⟩], some (63, 62)⟩,
    ⟨none, [⟨some 64, .mv (.t 63), none⟩], none⟩,
    ⟨some (64, false), [⟨some 65, .mv (.t 13), none⟩,
      ⟨some 66, .len (.t 65), none⟩,
      ⟨some 67, .mv (.t 3), none⟩,
      ⟨some 68, .bin .gtr (.t 66) (.t 67), none⟩], some (69, 68)⟩,
    ⟨none, [⟨some 70, .mv (.t 69), none⟩], none⟩,
    ⟨some (70, false), [⟨some 71, .mv (.t 13), none⟩,
      ⟨some 72, .len (.t 71), none⟩,
      ⟨some 73, .mv (.t 3), none⟩,
      ⟨some 74, .bin .lss (.t 72) (.t 73), none⟩,
      ⟨some 75, .mv (.t 74), none⟩], none⟩,
    ⟨some (75, true), [⟨some 76, .mv (.t 13), none⟩,
      ⟨some 77, .len (.t 76), none⟩,
      ⟨some 78, .mv (.t 11), none⟩,
      ⟨some 79, .len (.t 78), none⟩,
      ⟨some 80, .bin .neq (.t 77) (.t 79), none⟩], none⟩,
    ⟨some (70, false), [⟨some 81, .pick (.t 75) (.t 80) (.c (.bool false)), none⟩], some (82, 81)⟩,
    ⟨none, [⟨some 83, .mv (.t 82), none⟩], none⟩,
    ⟨some (83, false), [⟨some 84, .mv (.t 13), none⟩,
      ⟨some 85, .len (.t 84), none⟩,
      ⟨some 86, .mv (.t 11), none⟩,
      ⟨some 87, .len (.t 86), none⟩,
      ⟨some 88, .bin .gtr (.t 85) (.t 87), none⟩], some (89, 88)⟩,
    ⟨none, [⟨some 90, .mv (.t 89), none⟩], none⟩,
    ⟨some (90, false), [⟨some 91, .mv (.t 13), none⟩,
      ⟨some 92, .mv (.t 11), none⟩,
      ⟨some 93, .mv (.t 13), none⟩,
      ⟨some 94, .len (.t 93), none⟩,
      ⟨some 95, .cut 1 (.t 92) none (some (.t 94)), none⟩,
      ⟨some 96, .callp 11 [(.t 91), (.t 95)], none⟩,
      ⟨some 97, .not (.t 96), none⟩], none⟩,
    ⟨none, [⟨some 98, .pick (.t 90) (.c (.bool true)) (.t 97), none⟩], none⟩]) (.kp [0, 4, 6, 11, 98] (.cond (.t 98) (.seq (.reg [⟨some 10, .mv (.c (.bool false)), none⟩]) (.ret)) (.skip)))) (c3_k6))))))
theorem c3_k7_go {Q : AExit → AS → Prop} {e : AEnv} {n : Nat} {H : AHeap} : aw Tryd.prog c3_k7 Q ⟨e, n, H⟩ = aw Tryd.prog (.kp [0, 2, 3, 4, 6] (.seq (.reg [⟨some 37, .mv (.t 0), none⟩,
    ⟨some 38, .load (some 8) (.t 6), none⟩,
    ⟨some 39, .mv (.t 2), none⟩,
    ⟨some 40, .callp 10 [(.t 37), (.t 38), (.t 39)], none⟩,
    ⟨some 36, .mv (.t 40), none⟩,
    ⟨some 41, .extr (.t 36) 0, none⟩,
    ⟨some 42, .extr (.t 36) 1, none⟩,
    ⟨some 12, .alloc 27 [(.int .i64 0), (.int .i64 0)], none⟩,
    ⟨some 11, .mv (.t 41), none⟩,
    ⟨none, .store (some 2) (.t 12) (.t 42), none⟩]) (.kp [0, 2, 3, 4, 6, 11, 12] (.seq (.reg [⟨some 44, .mv (.t 0), none⟩,
    ⟨some 45, .load (some 8) (.t 6), none⟩,
    ⟨some 46, .mv (.t 3), none⟩,
    ⟨some 47, .callp 10 [(.t 44), (.t 45), (.t 46)], none⟩,
    ⟨some 43, .mv (.t 47), none⟩,
    ⟨some 48, .extr (.t 43) 0, none⟩,
    ⟨some 49, .extr (.t 43) 1, none⟩,
    ⟨some 14, .alloc 27 [(.int .i64 0), (.int .i64 0)], none⟩,
    ⟨some 13, .mv (.t 48), none⟩,
    ⟨none, .store (some 2) (.t 14) (.t 49), none⟩]) (.kp [0, 2, 3, 4, 6, 11, 12, 13, 14] (.seq (.seq (.segs [⟨none, [⟨some 50, .faddr (.t 12) 0 none, none⟩,
      ⟨some 51, .load none (.t 50), none⟩,
      ⟨some 52, .bin .neq (.t 51) (.c (.int .i64 0)), none⟩,
      ⟨some 53, .mv (.t 52), none⟩], none⟩,
    ⟨some (53, false), [⟨some 54, .faddr (.t 14) 0 none, none⟩,
      ⟨some 55, .load none (.t 54), none⟩,
      ⟨some 56, .bin .neq (.t 55) (.c (.int .i64 0)), none⟩], some (57, 56)⟩,
    ⟨none, [⟨some 58, .mv (.t 57), none⟩], none⟩,
    ⟨some (58, false), [⟨some 59, .mv (.t 11), none⟩,
      ⟨some 60, .len (.t 59), none⟩,
      ⟨some 61, .mv (.t 2), none⟩,
      ⟨some 62, .bin .gtr (.t 60) (.t 61), none⟩], some (63, 62)⟩,
    ⟨none, [⟨some 64, .mv (.t 63), none⟩], none⟩,
    ⟨some (64, false), [⟨some 65, .mv (.t 13), none⟩,
      ⟨some 66, .len (.t 65), none⟩,
      ⟨some 67, .mv (.t 3), none⟩,
      ⟨some 68, .bin .gtr (.t 66) (.t 67), none⟩], some (69, 68)⟩,
    ⟨none, [⟨some 70, .mv (.t 69), none⟩], none⟩,
    ⟨some (70, false), [⟨some 71, .mv (.t 13), none⟩,
      ⟨some 72, .len (.t 71), none⟩,
      ⟨some 73, .mv (.t 3), none⟩,
      ⟨some 74, .bin .lss (.t 72) (.t 73), none⟩,
      ⟨some 75, .mv (.t 74), none⟩], none⟩,
    ⟨some (75, true), [⟨some 76, .mv (.t 13), none⟩,
      ⟨some 77, .len (.t 76), none⟩,
      ⟨some 78, .mv (.t 11), none⟩,
      ⟨some 79, .len (.t 78), none⟩,
      ⟨some 80, .bin .neq (.t 77) (.t 79), none⟩], none⟩,
    ⟨some (70, false), [⟨some 81, .pick (.t 75) (.t 80) (.c (.bool false)), none⟩], some (82, 81)⟩,
    ⟨none, [⟨some 83, .mv (.t 82), none⟩], none⟩,
    ⟨some (83, false), [⟨some 84, .mv (.t 13), none⟩,
      ⟨some 85, .len (.t 84), none⟩,
      ⟨some 86, .mv (.t 11), none⟩,
      ⟨some 87, .len (.t 86), none⟩,
      ⟨some 88, .bin .gtr (.t 85) (.t 87), none⟩], some (89, 88)⟩,
    ⟨none, [⟨some 90, .mv (.t 89), none⟩], none⟩,
    ⟨some (90, false), [⟨some 91, .mv (.t 13), none⟩,
      ⟨some 92, .mv (.t 11), none⟩,
      ⟨some 93, .mv (.t 13), none⟩,
      ⟨some 94, .len (.t 93), none⟩,
      ⟨some 95, .cut 1 (.t 92) none (some (.t 94)), none⟩,
      ⟨some 96, .callp 11 [(.t 91), (.t 95)], none⟩,
      ⟨some 97, .not (.t 96), none⟩], none⟩,
    ⟨none, [⟨some 98, .pick (.t 90) (.c (.bool true)) (.t 97), none⟩], none⟩]) (.kp [0, 4, 6, 11, 98] (.cond (.t 98) (.seq (.reg [⟨some 10, .mv (.c (.bool false)), none⟩]) (.ret)) (.skip)))) (c3_k6))))))) Q ⟨e, n, H⟩ := rfl
def c3 : AFun := { nargs := 5, nt := 154, res := [.tmp 10], code := .seq (.reg [⟨some 6, .box 25 (some 8) (.t 1), none⟩,
    ⟨some 10, .mv (.c (.bool false)), none⟩]) (.kp [0, 2, 3, 4, 6] (.seq (.seq (.segs [⟨none, [⟨some 19, .mv (.t 0), none⟩,
      ⟨some 20, .load (some 8) (.t 6), none⟩,
      ⟨some 21, .callp 7 [(.t 19), (.t 20)], none⟩,
      ⟨some 22, .field (.t 21) 0 none, none⟩,
      ⟨some 23, .bin .neq (.t 22) (.c (.int .i64 0)), none⟩,
      ⟨some 24, .mv (.t 23), none⟩], none⟩,
    ⟨some (24, false), [⟨some 25, .mv (.t 2), none⟩,
      ⟨some 26, .callp 8 [(.t 25), (.c (.int .i64 0)), (.c (.int .i64 400))], none⟩,
      ⟨some 27, .not (.t 26), none⟩], none⟩,
    ⟨none, [⟨some 28, .pick (.t 24) (.c (.bool true)) (.t 27), none⟩,
      ⟨some 29, .mv (.t 28), none⟩], none⟩,
    ⟨some (29, false), [⟨some 30, .mv (.t 3), none⟩,
      ⟨some 31, .mv (.t 2), none⟩,
      ⟨some 32, .callp 8 [(.t 30), (.c (.int .i64 0)), (.t 31)], none⟩,
      ⟨some 33, .not (.t 32), none⟩], none⟩,
    ⟨none, [⟨some 34, .pick (.t 29) (.c (.bool true)) (.t 33), none⟩], none⟩]) (.kp [0, 2, 3, 4, 6, 34] (.cond (.t 34) (.seq (.reg [⟨some 35, .callp 9 [], none⟩,
    ⟨some 10, .mv (.t 35), none⟩]) (.ret)) (.skip)))) (c3_k7))) }
theorem cmp3 : (cFun Tryd.prog efs Tryd.f3).map (fun x => (x.nargs, x.nt, x.res, x.code)) = some (c3.nargs, c3.nt, c3.res, bare c3.code) := by kernel_rfl
end Go.Proofs.YtecpfmhminkalaaDoor
namespace Go.Proofs.YtecpfmhminkalaaDoor
theorem listV_ok {s : Int} {r : Rule} {most : Int} (h : (checkF s r).1 = 0) (h1 : 0 ≤ most) (h2 : most ≤ 20001) : listV s r most = (listF r s most, (0, 0)) := by
  unfold listV; rw [if_neg (by simp [h]), if_neg (by omega)]
theorem list_take (r : Rule) (s most : Int) : listF r s most = (cutF r (allF r s)).take most.toNat := rfl
theorem list_sub (r : Rule) (s most : Int) : (listF r s most).Sublist (cutF r (allF r s)) := List.take_sublist _ _
theorem list_sorted (r : Rule) (s most : Int) : (listF r s most).Pairwise (· < ·) := (cut_sorted r s).sublist (list_sub r s most)
theorem list_mem {r : Rule} {s most n : Int} (h : n ∈ listF r s most) : s ≤ n ∧ n ≤ 3652059 := by
  have := all_mem ((cut_sub r _).subset ((list_sub r s most).subset h)); omega
theorem next_at {r : Rule} {s most : Int} {i : Nat} (hc : (checkF s r).1 = 0) (hs : 1 ≤ s) (h : i + 1 < (listF r s most).length) : ∃ a b, (listF r s most)[i]? = some a ∧ (listF r s most)[i + 1]? = some b ∧ nextV s r a = (b, true, (0, 0)) := by
  obtain ⟨a, ha⟩ : ∃ a, (listF r s most)[i]? = some a := ⟨_, List.getElem?_eq_getElem (by omega)⟩
  obtain ⟨b, hb⟩ : ∃ b, (listF r s most)[i + 1]? = some b := ⟨_, List.getElem?_eq_getElem h⟩
  refine ⟨a, b, ha, hb, ?_⟩
  have ma := list_mem (List.mem_of_getElem? ha)
  have mb := list_mem (List.mem_of_getElem? hb)
  have hL : ∀ {j : Nat} {x : Int}, (listF r s most)[j]? = some x → (cutF r (allF r s))[j]? = some x := fun {j x} hx => by
    rw [list_take, List.getElem?_take] at hx
    split at hx
    · exact hx
    · cases hx
  have hf := find_next (cut_sorted r s) (hL ha) (hL hb)
  have hn : nextF r s a = b := by unfold nextF; rw [hf]; rfl
  unfold nextV
  rw [if_neg (by simp [hc]), if_neg (by omega), hn]
  simp; omega
set_option maxHeartbeats 8000000 in
theorem prefixes_a (s : Int) (r : Rule) (most less pl : Int) : APure Tryd.prog 3 [aI s, aR r, aI most, aI less, aI pl] (.bool true) := by
  have hsf := startFault_a s r
  by_cases hc : (checkF s r).1 = 0 ∧ 0 ≤ most ∧ most ≤ 400 ∧ 0 ≤ less ∧ less ≤ most
  · obtain ⟨hc, m0, m1, l0, l1⟩ := hc
    obtain ⟨hr, hs1, hs2, he⟩ := check_ok hc
    have h1 := list_a s r most
    have h2 := list_a s r less
    rw [listV_ok hc m0 (by omega)] at h1
    rw [listV_ok hc l0 (by omega)] at h2
    rw [he] at hsf
    have hnx := fun i => next_at (i := i) (most := most) hc hs1
    have hna := fun a => next_a s r a
    have hso := list_sorted r s most
    have hl : ((listF r s most).length : Int) ≤ most := by rw [list_take, List.length_take]; omega
    have hm : ((listF r s less).length : Int) ≤ less := by rw [list_take, List.length_take]; omega
    have hml : (listF r s less).length ≤ (listF r s most).length := by rw [list_take, list_take, List.length_take, List.length_take]; omega
    have hmd : ((listF r s less).length : Int) < less → (listF r s less).length = (listF r s most).length := by rw [list_take, list_take, List.length_take, List.length_take]; omega
    have hmt : listF r s less = (listF r s most).take (listF r s less).length := by
      have hl2 := List.length_take (i := less.toNat) (l := cutF r (allF r s))
      rw [list_take r s most, list_take r s less, List.take_take, hl2]
      rw [show min (min less.toNat (cutF r (allF r s)).length) most.toNat = min less.toNat (cutF r (allF r s)).length by omega]
      conv => lhs; rw [List.take_eq_take_min]
    generalize listF r s most = l at *
    generalize listF r s less = m at *
    have hi := ints_a m (l.take m.length) (by omega)
    rw [← hmt] at hi
    simp only [decide_true] at hi
    have hi2 : APure Tryd.prog 11 [aL m, .sl 1 (List.take m.length (List.map aI l)) .ro] (.bool true) := by rw [← List.map_take, ← hmt]; exact hi
    have f1 : ¬ most < (l.length : Int) := by omega
    have f2 : ¬ less < (m.length : Int) := by omega
    have f3 : ¬ l.length < m.length := by omega
    refine apure_intro Tryd.func3 cmp3 rfl fun n H hH => ?_
    repeat' (first | (simp -implicitDefEqProofs [c3_k1_go, c3_k2_go, c3_k3_go, c3_k4_go, c3_L5_go, c3_k6_go, c3_k7_go, c3, xz00, aw_reg, aw_seq, xz01, xz02, xz03, xz04, aw_ret, aw_bad, aw_kp, aw_ke, xz05, xz06, xz07, xz08, xz09, xz0a, xz0b, xz0c, xz0d, xz0e, xz0f, xz0g, xz0h, xz0i, scV, pe, xz0j, xz0k, xz0l, xz0m, xz0n, xz0o, xz0p, xz0q, xz0r, xz0s, xz0t, spm_mv, xz0u, xz0v, xz0w, xz0x, xz0y, xz0z, xz10, xz11, xz12, xz13, xz14, xz15, xz16, xz17, xz18, xz19, xz1a, xz1b, xz1c, xz1d, xz1e, xz1f, xz1g, xz1h, spm_mm, xz1i, xz1j, xz1k, xz1l, xz1m, xz1n, xz1o, xz1p, xz1q, xz1r, xz1s, xz1t, xz1u, xz1v, xz1w, xz1x, xz1y, xz1z, xz20, xz21, xz22, xz23, xz24, xz25, List.mem_cons, guardK, guardJ, anyE, undE, op_mv, xz26, op_bin, op_eqs, op_eqb, op_eqn, op_eqp, op_neg, op_not, op_cvi, xz27, xz28, op_cut, xz29, xz2a, xz2b, xz2c, xz2d, xz2e, op_len, xz2f, xz2g, xz2h, xz2i, xz2j, xz2k, op_mm, op_b2s, op_r2s, op_upc, op_usd, xz2l, xz2m, op_ust, xz2n, op_box, xz2o, op_bsl, op_app, xz2p, op_s2b, op_s2s, xz2q, xz2r, xz2s, xz2t, xz2u, xz2v, xz2w, xz2x, ngV, eqsV, eqbV, negV, notV, cviV, fieldV, sidxV, aidxV, xz2y, lenSV, extrV, nilckV, buildV, mmV, b2sV, r2sV, eqppV, s2bK, s2sK, msetS, mgetV, keyOkK, mfind, msetL, keyEq, callvK, ev, get, put, putO, keepE, xz2z, xz30, xz31, xz32, xz33, xz34, condK, part, loadAV, xz35, xz36, xz37, isNil, isNilP, binAV, intBin, strBin, xz38, xz39, xz3a, xz3b, xz3c, xz3d, xz3e, xz3f, xz3g, xz3h, xz3i, xz3j, xz3k, xz3l, xz3m, xz3n, AV.fits, AV.cells, ones, AV.one, upcAV, updnAV, usdAV, ustAV, cutB, cutSV, xz3o, xz3p, xz3q, xz3r, resOf, resVs, resV, argE, xz3s, shpSz, u8e, u8lit, xz3t, xz3u, List.getElem?_cons_zero, List.getElem?_cons_succ, -getElem?_pos, splice, m0, m1, l0, l1, f1, f2, f3]) | (simp (disch := omega) only [upd_ne, xz3s, if_pos, if_neg, IntWalk.i64_in, Int.tdiv_eq_ediv_of_nonneg, Int.tmod_eq_emod_of_nonneg]) | ((with_reducible refine CallP.chk (f := 7) ?_); (refine' CallP.sf ?_ (hsf) ?_); (focus first | (with_reducible exact simL_refl _) | (exact Owns.simC0 (by assumption)) | (exact Owns.simC1 (by assumption)) | (simp [simL, simA, simA_refl, simL_refl]; done))) | ((with_reducible refine CallP.chk (f := 8) ?_); (refine' CallP.sf ?_ (in_a _ _ _) ?_); (focus first | (with_reducible exact simL_refl _) | (exact Owns.simC0 (by assumption)) | (exact Owns.simC1 (by assumption)) | (simp [simL, simA, simA_refl, simL_refl]; done))) | ((with_reducible refine CallP.chk (f := 10) ?_); (refine' CallP.sf ?_ (h1) ?_); (focus first | (with_reducible exact simL_refl _) | (exact Owns.simC0 (by assumption)) | (exact Owns.simC1 (by assumption)) | (simp [simL, simA, simA_refl, simL_refl]; done))) | ((with_reducible refine CallP.chk (f := 10) ?_); (refine' CallP.sf ?_ (h2) ?_); (focus first | (with_reducible exact simL_refl _) | (exact Owns.simC0 (by assumption)) | (exact Owns.simC1 (by assumption)) | (simp [simL, simA, simA_refl, simL_refl]; done))) | ((with_reducible refine CallP.chk (f := 11) ?_); (refine' CallP.sf ?_ (hi2) ?_); (focus first | (with_reducible exact simL_refl _) | (exact Owns.simC0 (by assumption)) | (exact Owns.simC1 (by assumption)) | (simp [simL, simA, simA_refl, simL_refl]; done))) | ((with_reducible refine CallP.chk (f := 9) ?_); (refine' CallP.sf ?_ (recurred_a) ?_); (focus first | (with_reducible exact simL_refl _) | (exact Owns.simC0 (by assumption)) | (exact Owns.simC1 (by assumption)) | (simp [simL, simA, simA_refl, simL_refl]; done))) | (with_reducible refine fin_r ?_ ?_ ?_) | (with_reducible exact SameB.rfl_ _ _) | (with_reducible refine SameB.upd ?_ ?_ _) | (with_reducible assumption) | (with_reducible refine newPM_of ?_) | (with_reducible refine newSM_of ?_) | (with_reducible refine newP_go ?_) | (with_reducible refine newS_go ?_) | (with_reducible refine newM_go ?_) | (with_reducible intro _g _hg) | (with_reducible refine And.intro ?_ ?_) | (with_reducible intro _hc) | omega)
    all_goals
      refine LoopK.go (fun q st => ∃ k : Nat, 1 ≤ k ∧ k + q = l.length + 1 ∧ st = ⟨[(0, aI s), (4, aI pl), (6, _), (11, aL l), (15, aI k)], _, _⟩) l.length ⟨1, by omega, by omega, rfl⟩ ?_
      rintro q st ⟨k, hk1, hkq, rfl⟩ J hJ
      by_cases hk : k < l.length
      · obtain ⟨y, hy⟩ : ∃ y, l[k]? = some y := ⟨_, List.getElem?_eq_getElem hk⟩
        obtain ⟨z, hz⟩ : ∃ z, l[k - 1]? = some z := ⟨_, List.getElem?_eq_getElem (by omega)⟩
        have hzy : z < y := by
          obtain ⟨h5, rfl⟩ := List.getElem?_eq_some_iff.1 hz
          obtain ⟨h6, rfl⟩ := List.getElem?_eq_some_iff.1 hy
          exact List.pairwise_iff_getElem.1 hso (k - 1) k h5 h6 (by omega)
        have hz2 : l[((k : Int) - 1).toNat]? = some z := by rw [show ((k : Int) - 1).toNat = k - 1 by omega]; exact hz
        
        repeat' (first | (simp -implicitDefEqProofs [c3_k1_go, c3_k2_go, c3_k3_go, c3_k4_go, c3_L5_go, c3_k6_go, c3_k7_go, c3, xz00, aw_reg, aw_seq, xz01, xz02, xz03, xz04, aw_ret, aw_bad, aw_kp, aw_ke, xz05, xz06, xz07, xz08, xz09, xz0a, xz0b, xz0c, xz0d, xz0e, xz0f, xz0g, xz0h, xz0i, scV, pe, xz0j, xz0k, xz0l, xz0m, xz0n, xz0o, xz0p, xz0q, xz0r, xz0s, xz0t, spm_mv, xz0u, xz0v, xz0w, xz0x, xz0y, xz0z, xz10, xz11, xz12, xz13, xz14, xz15, xz16, xz17, xz18, xz19, xz1a, xz1b, xz1c, xz1d, xz1e, xz1f, xz1g, xz1h, spm_mm, xz1i, xz1j, xz1k, xz1l, xz1m, xz1n, xz1o, xz1p, xz1q, xz1r, xz1s, xz1t, xz1u, xz1v, xz1w, xz1x, xz1y, xz1z, xz20, xz21, xz22, xz23, xz24, xz25, List.mem_cons, guardK, guardJ, anyE, undE, op_mv, xz26, op_bin, op_eqs, op_eqb, op_eqn, op_eqp, op_neg, op_not, op_cvi, xz27, xz28, op_cut, xz29, xz2a, xz2b, xz2c, xz2d, xz2e, op_len, xz2f, xz2g, xz2h, xz2i, xz2j, xz2k, op_mm, op_b2s, op_r2s, op_upc, op_usd, xz2l, xz2m, op_ust, xz2n, op_box, xz2o, op_bsl, op_app, xz2p, op_s2b, op_s2s, xz2q, xz2r, xz2s, xz2t, xz2u, xz2v, xz2w, xz2x, ngV, eqsV, eqbV, negV, notV, cviV, fieldV, sidxV, aidxV, xz2y, lenSV, extrV, nilckV, buildV, mmV, b2sV, r2sV, eqppV, s2bK, s2sK, msetS, mgetV, keyOkK, mfind, msetL, keyEq, callvK, ev, get, put, putO, keepE, xz2z, xz30, xz31, xz32, xz33, xz34, condK, part, loadAV, xz35, xz36, xz37, isNil, isNilP, binAV, intBin, strBin, xz38, xz39, xz3a, xz3b, xz3c, xz3d, xz3e, xz3f, xz3g, xz3h, xz3i, xz3j, xz3k, xz3l, xz3m, xz3n, AV.fits, AV.cells, ones, AV.one, upcAV, updnAV, usdAV, ustAV, cutB, cutSV, xz3o, xz3p, xz3q, xz3r, resOf, resVs, resV, argE, xz3s, shpSz, u8e, u8lit, xz3t, xz3u, List.getElem?_cons_zero, List.getElem?_cons_succ, -getElem?_pos, simA, hy, hz, hz2, hzy, hk1]) | (simp (disch := omega) only [upd_ne, xz3s, if_pos, if_neg, IntWalk.i64_in, Int.tdiv_eq_ediv_of_nonneg, Int.tmod_eq_emod_of_nonneg]) | (with_reducible refine fin_r ?_ ?_ ?_) | (with_reducible exact SameB.rfl_ _ _) | (with_reducible refine SameB.upd ?_ ?_ _) | (with_reducible assumption) | (with_reducible refine newPM_of ?_) | (with_reducible refine newSM_of ?_) | (with_reducible refine newP_go ?_) | (with_reducible refine newS_go ?_) | (with_reducible refine newM_go ?_) | (with_reducible intro _g _hg) | (with_reducible refine And.intro ?_ ?_) | (with_reducible intro _hc) | omega)
        all_goals first
          | exact hJ (q - 1) _ (by omega) ⟨k + 1, by omega, by omega, rfl⟩
          | (exfalso; omega)
      · by_cases hp : 0 ≤ pl ∧ pl ≤ (l.length : Int) - 2
        · obtain ⟨i, rfl⟩ : ∃ i : Nat, pl = i := ⟨pl.toNat, by omega⟩
          obtain ⟨a, b, ha, hb, hab⟩ := hnx i (by omega)
          have h3 := hna a
          rw [hab] at h3
          
          repeat' (first | (simp -implicitDefEqProofs [c3_k1_go, c3_k2_go, c3_k3_go, c3_k4_go, c3_L5_go, c3_k6_go, c3_k7_go, c3, xz00, aw_reg, aw_seq, xz01, xz02, xz03, xz04, aw_ret, aw_bad, aw_kp, aw_ke, xz05, xz06, xz07, xz08, xz09, xz0a, xz0b, xz0c, xz0d, xz0e, xz0f, xz0g, xz0h, xz0i, scV, pe, xz0j, xz0k, xz0l, xz0m, xz0n, xz0o, xz0p, xz0q, xz0r, xz0s, xz0t, spm_mv, xz0u, xz0v, xz0w, xz0x, xz0y, xz0z, xz10, xz11, xz12, xz13, xz14, xz15, xz16, xz17, xz18, xz19, xz1a, xz1b, xz1c, xz1d, xz1e, xz1f, xz1g, xz1h, spm_mm, xz1i, xz1j, xz1k, xz1l, xz1m, xz1n, xz1o, xz1p, xz1q, xz1r, xz1s, xz1t, xz1u, xz1v, xz1w, xz1x, xz1y, xz1z, xz20, xz21, xz22, xz23, xz24, xz25, List.mem_cons, guardK, guardJ, anyE, undE, op_mv, xz26, op_bin, op_eqs, op_eqb, op_eqn, op_eqp, op_neg, op_not, op_cvi, xz27, xz28, op_cut, xz29, xz2a, xz2b, xz2c, xz2d, xz2e, op_len, xz2f, xz2g, xz2h, xz2i, xz2j, xz2k, op_mm, op_b2s, op_r2s, op_upc, op_usd, xz2l, xz2m, op_ust, xz2n, op_box, xz2o, op_bsl, op_app, xz2p, op_s2b, op_s2s, xz2q, xz2r, xz2s, xz2t, xz2u, xz2v, xz2w, xz2x, ngV, eqsV, eqbV, negV, notV, cviV, fieldV, sidxV, aidxV, xz2y, lenSV, extrV, nilckV, buildV, mmV, b2sV, r2sV, eqppV, s2bK, s2sK, msetS, mgetV, keyOkK, mfind, msetL, keyEq, callvK, ev, get, put, putO, keepE, xz2z, xz30, xz31, xz32, xz33, xz34, condK, part, loadAV, xz35, xz36, xz37, isNil, isNilP, binAV, intBin, strBin, xz38, xz39, xz3a, xz3b, xz3c, xz3d, xz3e, xz3f, xz3g, xz3h, xz3i, xz3j, xz3k, xz3l, xz3m, xz3n, AV.fits, AV.cells, ones, AV.one, upcAV, updnAV, usdAV, ustAV, cutB, cutSV, xz3o, xz3p, xz3q, xz3r, resOf, resVs, resV, argE, xz3s, shpSz, u8e, u8lit, xz3t, xz3u, List.getElem?_cons_zero, List.getElem?_cons_succ, -getElem?_pos, simA, splice, ha, hb, hp.1, hp.2]) | (simp (disch := omega) only [upd_ne, xz3s, if_pos, if_neg, IntWalk.i64_in, Int.tdiv_eq_ediv_of_nonneg, Int.tmod_eq_emod_of_nonneg]) | ((with_reducible refine CallP.chk (f := 12) ?_); (refine' CallP.sf ?_ (h3) ?_); (focus first | (with_reducible exact simL_refl _) | (exact Owns.simC0 (by assumption)) | (exact Owns.simC1 (by assumption)) | (simp [simL, simA, simA_refl, simL_refl]; done))) | ((with_reducible refine CallP.chk (f := 9) ?_); (refine' CallP.sf ?_ (recurred_a) ?_); (focus first | (with_reducible exact simL_refl _) | (exact Owns.simC0 (by assumption)) | (exact Owns.simC1 (by assumption)) | (simp [simL, simA, simA_refl, simL_refl]; done))) | (with_reducible refine fin_r ?_ ?_ ?_) | (with_reducible exact SameB.rfl_ _ _) | (with_reducible refine SameB.upd ?_ ?_ _) | (with_reducible assumption) | (with_reducible refine newPM_of ?_) | (with_reducible refine newSM_of ?_) | (with_reducible refine newP_go ?_) | (with_reducible refine newS_go ?_) | (with_reducible refine newM_go ?_) | (with_reducible intro _g _hg) | (with_reducible refine And.intro ?_ ?_) | (with_reducible intro _hc) | omega)
          all_goals first | exact simA_refl _ | (exfalso; omega)
        · 
          repeat' (first | (simp -implicitDefEqProofs [c3_k1_go, c3_k2_go, c3_k3_go, c3_k4_go, c3_L5_go, c3_k6_go, c3_k7_go, c3, xz00, aw_reg, aw_seq, xz01, xz02, xz03, xz04, aw_ret, aw_bad, aw_kp, aw_ke, xz05, xz06, xz07, xz08, xz09, xz0a, xz0b, xz0c, xz0d, xz0e, xz0f, xz0g, xz0h, xz0i, scV, pe, xz0j, xz0k, xz0l, xz0m, xz0n, xz0o, xz0p, xz0q, xz0r, xz0s, xz0t, spm_mv, xz0u, xz0v, xz0w, xz0x, xz0y, xz0z, xz10, xz11, xz12, xz13, xz14, xz15, xz16, xz17, xz18, xz19, xz1a, xz1b, xz1c, xz1d, xz1e, xz1f, xz1g, xz1h, spm_mm, xz1i, xz1j, xz1k, xz1l, xz1m, xz1n, xz1o, xz1p, xz1q, xz1r, xz1s, xz1t, xz1u, xz1v, xz1w, xz1x, xz1y, xz1z, xz20, xz21, xz22, xz23, xz24, xz25, List.mem_cons, guardK, guardJ, anyE, undE, op_mv, xz26, op_bin, op_eqs, op_eqb, op_eqn, op_eqp, op_neg, op_not, op_cvi, xz27, xz28, op_cut, xz29, xz2a, xz2b, xz2c, xz2d, xz2e, op_len, xz2f, xz2g, xz2h, xz2i, xz2j, xz2k, op_mm, op_b2s, op_r2s, op_upc, op_usd, xz2l, xz2m, op_ust, xz2n, op_box, xz2o, op_bsl, op_app, xz2p, op_s2b, op_s2s, xz2q, xz2r, xz2s, xz2t, xz2u, xz2v, xz2w, xz2x, ngV, eqsV, eqbV, negV, notV, cviV, fieldV, sidxV, aidxV, xz2y, lenSV, extrV, nilckV, buildV, mmV, b2sV, r2sV, eqppV, s2bK, s2sK, msetS, mgetV, keyOkK, mfind, msetL, keyEq, callvK, ev, get, put, putO, keepE, xz2z, xz30, xz31, xz32, xz33, xz34, condK, part, loadAV, xz35, xz36, xz37, isNil, isNilP, binAV, intBin, strBin, xz38, xz39, xz3a, xz3b, xz3c, xz3d, xz3e, xz3f, xz3g, xz3h, xz3i, xz3j, xz3k, xz3l, xz3m, xz3n, AV.fits, AV.cells, ones, AV.one, upcAV, updnAV, usdAV, ustAV, cutB, cutSV, xz3o, xz3p, xz3q, xz3r, resOf, resVs, resV, argE, xz3s, shpSz, u8e, u8lit, xz3t, xz3u, List.getElem?_cons_zero, List.getElem?_cons_succ, -getElem?_pos, simA, splice]) | (simp (disch := omega) only [upd_ne, xz3s, if_pos, if_neg, IntWalk.i64_in, Int.tdiv_eq_ediv_of_nonneg, Int.tmod_eq_emod_of_nonneg]) | ((with_reducible refine CallP.chk (f := 9) ?_); (refine' CallP.sf ?_ (recurred_a) ?_); (focus first | (with_reducible exact simL_refl _) | (exact Owns.simC0 (by assumption)) | (exact Owns.simC1 (by assumption)) | (simp [simL, simA, simA_refl, simL_refl]; done))) | (with_reducible refine fin_r ?_ ?_ ?_) | (with_reducible exact SameB.rfl_ _ _) | (with_reducible refine SameB.upd ?_ ?_ _) | (with_reducible assumption) | (with_reducible refine newPM_of ?_) | (with_reducible refine newSM_of ?_) | (with_reducible refine newP_go ?_) | (with_reducible refine newS_go ?_) | (with_reducible refine newM_go ?_) | (with_reducible intro _g _hg) | (with_reducible refine And.intro ?_ ?_) | (with_reducible intro _hc) | omega)
          all_goals first | exact simA_refl _ | (exfalso; omega)
  · refine apure_intro Tryd.func3 cmp3 rfl fun n H hH => ?_
    repeat' (first | (simp -implicitDefEqProofs [c3_k1_go, c3_k2_go, c3_k3_go, c3_k4_go, c3_L5_go, c3_k6_go, c3_k7_go, c3, xz00, aw_reg, aw_seq, xz01, xz02, xz03, xz04, aw_ret, aw_bad, aw_kp, aw_ke, xz05, xz06, xz07, xz08, xz09, xz0a, xz0b, xz0c, xz0d, xz0e, xz0f, xz0g, xz0h, xz0i, scV, pe, xz0j, xz0k, xz0l, xz0m, xz0n, xz0o, xz0p, xz0q, xz0r, xz0s, xz0t, spm_mv, xz0u, xz0v, xz0w, xz0x, xz0y, xz0z, xz10, xz11, xz12, xz13, xz14, xz15, xz16, xz17, xz18, xz19, xz1a, xz1b, xz1c, xz1d, xz1e, xz1f, xz1g, xz1h, spm_mm, xz1i, xz1j, xz1k, xz1l, xz1m, xz1n, xz1o, xz1p, xz1q, xz1r, xz1s, xz1t, xz1u, xz1v, xz1w, xz1x, xz1y, xz1z, xz20, xz21, xz22, xz23, xz24, xz25, List.mem_cons, guardK, guardJ, anyE, undE, op_mv, xz26, op_bin, op_eqs, op_eqb, op_eqn, op_eqp, op_neg, op_not, op_cvi, xz27, xz28, op_cut, xz29, xz2a, xz2b, xz2c, xz2d, xz2e, op_len, xz2f, xz2g, xz2h, xz2i, xz2j, xz2k, op_mm, op_b2s, op_r2s, op_upc, op_usd, xz2l, xz2m, op_ust, xz2n, op_box, xz2o, op_bsl, op_app, xz2p, op_s2b, op_s2s, xz2q, xz2r, xz2s, xz2t, xz2u, xz2v, xz2w, xz2x, ngV, eqsV, eqbV, negV, notV, cviV, fieldV, sidxV, aidxV, xz2y, lenSV, extrV, nilckV, buildV, mmV, b2sV, r2sV, eqppV, s2bK, s2sK, msetS, mgetV, keyOkK, mfind, msetL, keyEq, callvK, ev, get, put, putO, keepE, xz2z, xz30, xz31, xz32, xz33, xz34, condK, part, loadAV, xz35, xz36, xz37, isNil, isNilP, binAV, intBin, strBin, xz38, xz39, xz3a, xz3b, xz3c, xz3d, xz3e, xz3f, xz3g, xz3h, xz3i, xz3j, xz3k, xz3l, xz3m, xz3n, AV.fits, AV.cells, ones, AV.one, upcAV, updnAV, usdAV, ustAV, cutB, cutSV, xz3o, xz3p, xz3q, xz3r, resOf, resVs, resV, argE, xz3s, shpSz, u8e, u8lit, xz3t, xz3u, List.getElem?_cons_zero, List.getElem?_cons_succ, -getElem?_pos, splice]) | (simp (disch := omega) only [upd_ne, xz3s, if_pos, if_neg, IntWalk.i64_in, Int.tdiv_eq_ediv_of_nonneg, Int.tmod_eq_emod_of_nonneg]) | ((with_reducible refine CallP.chk (f := 7) ?_); (refine' CallP.sf ?_ (hsf) ?_); (focus first | (with_reducible exact simL_refl _) | (exact Owns.simC0 (by assumption)) | (exact Owns.simC1 (by assumption)) | (simp [simL, simA, simA_refl, simL_refl]; done))) | ((with_reducible refine CallP.chk (f := 8) ?_); (refine' CallP.sf ?_ (in_a _ _ _) ?_); (focus first | (with_reducible exact simL_refl _) | (exact Owns.simC0 (by assumption)) | (exact Owns.simC1 (by assumption)) | (simp [simL, simA, simA_refl, simL_refl]; done))) | ((with_reducible refine CallP.chk (f := 9) ?_); (refine' CallP.sf ?_ (recurred_a) ?_); (focus first | (with_reducible exact simL_refl _) | (exact Owns.simC0 (by assumption)) | (exact Owns.simC1 (by assumption)) | (simp [simL, simA, simA_refl, simL_refl]; done))) | (with_reducible refine fin_r ?_ ?_ ?_) | (with_reducible exact SameB.rfl_ _ _) | (with_reducible refine SameB.upd ?_ ?_ _) | (with_reducible assumption) | (with_reducible refine newPM_of ?_) | (with_reducible refine newSM_of ?_) | (with_reducible refine newP_go ?_) | (with_reducible refine newS_go ?_) | (with_reducible refine newM_go ?_) | (with_reducible intro _g _hg) | (with_reducible refine And.intro ?_ ?_) | (with_reducible intro _hc) | omega)
    all_goals first | exact simA_refl _ | (exfalso; omega)
end Go.Proofs.YtecpfmhminkalaaDoor
namespace Go.Proofs.YtecpfmhminkalaaDoor
def c4_k1 : ACode := .kp [2, 9, 11, 13, 15] (.seq (.segs [⟨none, [⟨some 95, .mv (.t 11), none⟩,
      ⟨some 96, .mv (.t 9), none⟩,
      ⟨some 97, .mv (.t 2), none⟩,
      ⟨some 98, .cut 1 (.t 96) none (some (.t 97)), none⟩,
      ⟨some 99, .callp 11 [(.t 95), (.t 98)], none⟩,
      ⟨some 100, .mv (.t 99), none⟩], none⟩,
    ⟨some (100, true), [⟨some 101, .mv (.t 13), none⟩,
      ⟨some 102, .mv (.t 9), none⟩,
      ⟨some 103, .mv (.t 15), none⟩,
      ⟨some 104, .cut 1 (.t 102) none (some (.t 103)), none⟩,
      ⟨some 105, .callp 11 [(.t 101), (.t 104)], none⟩], none⟩,
    ⟨none, [⟨some 106, .pick (.t 100) (.t 105) (.c (.bool false)), none⟩,
      ⟨some 107, .mv (.t 106), none⟩], none⟩,
    ⟨some (107, true), [⟨some 108, .callp 9 [], none⟩], none⟩,
    ⟨none, [⟨some 109, .pick (.t 107) (.t 108) (.c (.bool false)), none⟩,
      ⟨some 8, .mv (.t 109), none⟩], none⟩]) (.ret))
def c4_k2 : ACode := .kp [2, 9, 11, 13, 15] (.seq (.seq (.reg [⟨some 89, .mv (.t 2), none⟩,
    ⟨some 90, .mv (.t 9), none⟩,
    ⟨some 91, .len (.t 90), none⟩,
    ⟨some 92, .bin .gtr (.t 89) (.t 91), none⟩]) (.kp [2, 9, 11, 13, 15, 92] (.cond (.t 92) (.reg [⟨some 93, .mv (.t 9), none⟩,
    ⟨some 94, .len (.t 93), none⟩,
    ⟨some 2, .mv (.t 94), none⟩]) (.skip)))) (c4_k1))
def c4_k3 : ACode := .kp [2, 3, 9, 11, 13, 15] (.block 1 (.reg [⟨some 87, .mv (.t 15), none⟩,
    ⟨some 88, .bin .add (.t 87) (.c (.int .i64 1)), none⟩,
    ⟨some 15, .mv (.t 88), none⟩]))
def c4_L4 : ACode := .ke [2, 3, 9, 11, 13, 15] (.seq (.seq (.segs [⟨none, [⟨some 75, .mv (.t 15), none⟩,
      ⟨some 76, .mv (.t 9), none⟩,
      ⟨some 77, .len (.t 76), none⟩,
      ⟨some 78, .bin .lss (.t 75) (.t 77), none⟩,
      ⟨some 79, .mv (.t 78), none⟩], none⟩,
    ⟨some (79, true), [⟨some 80, .mv (.t 9), none⟩,
      ⟨some 81, .mv (.t 15), none⟩,
      ⟨some 82, .iaddr 1 none (.t 80) (.t 81), none⟩,
      ⟨some 83, .load none (.t 82), none⟩,
      ⟨some 84, .mv (.t 3), none⟩,
      ⟨some 85, .bin .leq (.t 83) (.t 84), none⟩], some (86, 85)⟩]) (.kp [2, 3, 9, 11, 13, 15, 86] (.cond (.t 86) (.skip) (.exit 0)))) (c4_k3))
def c4_k5 : ACode := .kp [2, 3, 9, 11, 13] (.seq (.reg [⟨some 15, .mv (.c (.int .i64 0)), none⟩]) (.kp [2, 3, 9, 11, 13, 15] (.seq (.block 0 (.kp [2, 3, 9, 11, 13, 15] (.loop c4_L4))) (c4_k2))))
def c4_k6 : ACode := .kp [0, 2, 3, 5] (.seq (.reg [⟨some 35, .mv (.t 0), none⟩,
    ⟨some 36, .load (some 8) (.t 5), none⟩,
    ⟨some 37, .callp 10 [(.t 35), (.t 36), (.c (.int .i64 300))], none⟩,
    ⟨some 34, .mv (.t 37), none⟩,
    ⟨some 38, .extr (.t 34) 0, none⟩,
    ⟨some 39, .extr (.t 34) 1, none⟩,
    ⟨some 10, .alloc 27 [(.int .i64 0), (.int .i64 0)], none⟩,
    ⟨some 9, .mv (.t 38), none⟩,
    ⟨none, .store (some 2) (.t 10) (.t 39), none⟩]) (.kp [0, 2, 3, 5, 9, 10] (.seq (.reg [⟨some 40, .mv (.t 2), none⟩,
    ⟨some 41, .faddr (.t 5) 6 none, none⟩,
    ⟨none, .store none (.t 41) (.t 40), none⟩]) (.kp [0, 2, 3, 5, 9, 10] (.seq (.reg [⟨some 43, .mv (.t 0), none⟩,
    ⟨some 44, .load (some 8) (.t 5), none⟩,
    ⟨some 45, .callp 10 [(.t 43), (.t 44), (.c (.int .i64 300))], none⟩,
    ⟨some 42, .mv (.t 45), none⟩,
    ⟨some 46, .extr (.t 42) 0, none⟩,
    ⟨some 47, .extr (.t 42) 1, none⟩,
    ⟨some 12, .alloc 27 [(.int .i64 0), (.int .i64 0)], none⟩,
    ⟨some 11, .mv (.t 46), none⟩,
    ⟨none, .store (some 2) (.t 12) (.t 47), none⟩]) (.kp [0, 2, 3, 5, 9, 10, 11, 12] (.seq (.reg [⟨some 48, .faddr (.t 5) 6 none, none⟩,
    ⟨none, .store none (.t 48) (.c (.int .i64 0)), none⟩]) (.kp [0, 2, 3, 5, 9, 10, 11, 12] (.seq (.reg [⟨some 49, .mv (.t 3), none⟩,
    ⟨some 50, .faddr (.t 5) 7 none, none⟩,
    ⟨none, .store none (.t 50) (.t 49), none⟩]) (.kp [0, 2, 3, 5, 9, 10, 11, 12] (.seq (.reg [⟨some 52, .mv (.t 0), none⟩,
    ⟨some 53, .load (some 8) (.t 5), none⟩,
    ⟨some 54, .callp 10 [(.t 52), (.t 53), (.c (.int .i64 300))], none⟩,
    ⟨some 51, .mv (.t 54), none⟩,
    ⟨some 55, .extr (.t 51) 0, none⟩,
    ⟨some 56, .extr (.t 51) 1, none⟩,
    ⟨some 14, .alloc 27 [(.int .i64 0), (.int .i64 0)], none⟩,
    ⟨some 13, .mv (.t 55), none⟩,
    ⟨none, .store (some 2) (.t 14) (.t 56), none⟩]) (.kp [2, 3, 9, 10, 11, 12, 13, 14] (.seq (.seq (.segs [⟨none, [⟨some 57, .faddr (.t 10) 0 none, none⟩,
      ⟨some 58, .load none (.t 57), none⟩,
      ⟨some 59, .bin .neq (.t 58) (.c (.int .i64 0)), none⟩,
      ⟨some 60, .mv (.t 59), none⟩], none⟩,
    ⟨some (60, false), [⟨some 61, .faddr (.t 12) 0 none, none⟩,
      ⟨some 62, .load none (.t 61), none⟩,
      ⟨some 63, .bin .neq (.t 62) (.c (.int .i64 0)), none⟩], some (64, 63)⟩,
    ⟨none, [⟨some 65, .mv (.t 64), none⟩], none⟩,
    ⟨some (65, false), [⟨some 66, .faddr (.t 14) 0 none, none⟩,
      ⟨some 67, .load none (.t 66), none⟩,
      ⟨some 68, .bin .neq (.t 67) (.c (.int .i64 0)), none⟩], some (69, 68)⟩,
    ⟨none, [⟨some 70, .mv (.t 69), none⟩], none⟩,
    ⟨some (70, false), [⟨some 71, .mv (.t 9), none⟩,
      ⟨some 72, .len (.t 71), none⟩,
      ⟨some 73, .bin .gtr (.t 72) (.c (.int .i64 300)), none⟩], some (74, 73)⟩]) (.kp [2, 3, 9, 11, 13, 74] (.cond (.t 74) (.seq (.reg [⟨some 8, .mv (.c (.bool false)), none⟩]) (.ret)) (.skip)))) (c4_k5))))))))))))))
def c4 : AFun := { nargs := 4, nt := 110, res := [.tmp 8], code := .seq (.reg [⟨some 5, .box 25 (some 8) (.t 1), none⟩,
    ⟨some 8, .mv (.c (.bool false)), none⟩]) (.kp [0, 2, 3, 5] (.seq (.reg [⟨some 16, .faddr (.t 5) 6 none, none⟩,
    ⟨none, .store none (.t 16) (.c (.int .i64 0)), none⟩]) (.kp [0, 2, 3, 5] (.seq (.reg [⟨some 17, .faddr (.t 5) 7 none, none⟩,
    ⟨none, .store none (.t 17) (.c (.int .i64 0)), none⟩]) (.kp [0, 2, 3, 5] (.seq (.seq (.segs [⟨none, [⟨some 18, .mv (.t 0), none⟩,
      ⟨some 19, .load (some 8) (.t 5), none⟩,
      ⟨some 20, .callp 7 [(.t 18), (.t 19)], none⟩,
      ⟨some 21, .field (.t 20) 0 none, none⟩,
      ⟨some 22, .bin .neq (.t 21) (.c (.int .i64 0)), none⟩,
      ⟨some 23, .mv (.t 22), none⟩], none⟩,
    ⟨some (23, false), [⟨some 24, .mv (.t 2), none⟩,
      ⟨some 25, .callp 8 [(.t 24), (.c (.int .i64 1)), (.c (.int .i64 300))], none⟩,
      ⟨some 26, .not (.t 25), none⟩], none⟩,
    ⟨none, [⟨some 27, .pick (.t 23) (.c (.bool true)) (.t 26), none⟩,
      ⟨some 28, .mv (.t 27), none⟩], none⟩,
    ⟨some (28, false), [⟨some 29, .mv (.t 3), none⟩,
      ⟨some 30, .callp 8 [(.t 29), (.c (.int .i64 1)), (.c (.int .i64 3652059))], none⟩,
      ⟨some 31, .not (.t 30), none⟩], none⟩,
    ⟨none, [⟨some 32, .pick (.t 28) (.c (.bool true)) (.t 31), none⟩], none⟩]) (.kp [0, 2, 3, 5, 32] (.cond (.t 32) (.seq (.reg [⟨some 33, .callp 9 [], none⟩,
    ⟨some 8, .mv (.t 33), none⟩]) (.ret)) (.skip)))) (c4_k6))))))) }
end Go.Proofs.YtecpfmhminkalaaDoor
namespace Go.Proofs.YtecpfmhminkalaaDoor
def c5_k1 : ACode := .kp [] (.seq (.reg [⟨some 95, .callp 9 [], none⟩,
    ⟨some 6, .mv (.t 95), none⟩]) (.ret))
def c5_k2 : ACode := .kp [7, 9, 11, 12] (.reg [⟨some 61, .mv (.t 12), none⟩,
    ⟨some 62, .bin .add (.t 61) (.c (.int .i64 1)), none⟩,
    ⟨some 12, .mv (.t 62), none⟩])
def c5_k3 : ACode := .kp [7, 9, 11, 12] (.seq (.segs [⟨none, [⟨some 80, .mv (.t 11), none⟩,
      ⟨some 81, .mv (.t 7), none⟩,
      ⟨some 82, .len (.t 81), none⟩,
      ⟨some 83, .bin .eql (.t 80) (.t 82), none⟩,
      ⟨some 84, .mv (.t 83), none⟩], none⟩,
    ⟨some (84, false), [⟨some 85, .mv (.t 7), none⟩,
      ⟨some 86, .mv (.t 11), none⟩,
      ⟨some 87, .iaddr 1 none (.t 85) (.t 86), none⟩,
      ⟨some 88, .load none (.t 87), none⟩,
      ⟨some 89, .mv (.t 9), none⟩,
      ⟨some 90, .mv (.t 12), none⟩,
      ⟨some 91, .iaddr 1 none (.t 89) (.t 90), none⟩,
      ⟨some 92, .load none (.t 91), none⟩,
      ⟨some 93, .bin .neq (.t 88) (.t 92), none⟩], some (94, 93)⟩]) (.kp [7, 9, 11, 12, 94] (.cond (.t 94) (.seq (.reg [⟨some 6, .mv (.c (.bool false)), none⟩]) (.ret)) (.skip))))
def c5_k4 : ACode := .kp [7, 9, 11, 12] (.block 3 (.reg [⟨some 78, .mv (.t 11), none⟩,
    ⟨some 79, .bin .add (.t 78) (.c (.int .i64 1)), none⟩,
    ⟨some 11, .mv (.t 79), none⟩]))
def c5_L5 : ACode := .ke [7, 9, 11, 12] (.seq (.seq (.segs [⟨none, [⟨some 63, .mv (.t 11), none⟩,
      ⟨some 64, .mv (.t 7), none⟩,
      ⟨some 65, .len (.t 64), none⟩,
      ⟨some 66, .bin .lss (.t 63) (.t 65), none⟩,
      ⟨some 67, .mv (.t 66), none⟩], none⟩,
    ⟨some (67, true), [⟨some 68, .mv (.t 7), none⟩,
      ⟨some 69, .mv (.t 11), none⟩,
      ⟨some 70, .iaddr 1 none (.t 68) (.t 69), none⟩,
      ⟨some 71, .load none (.t 70), none⟩,
      ⟨some 72, .mv (.t 9), none⟩,
      ⟨some 73, .mv (.t 12), none⟩,
      ⟨some 74, .iaddr 1 none (.t 72) (.t 73), none⟩,
      ⟨some 75, .load none (.t 74), none⟩,
      ⟨some 76, .bin .lss (.t 71) (.t 75), none⟩], some (77, 76)⟩]) (.kp [7, 9, 11, 12, 77] (.cond (.t 77) (.skip) (.exit 2)))) (c5_k4))
def c5_k6 : ACode := .kp [7, 9, 11, 12] (.seq (.block 1 (.seq (.block 2 (.kp [7, 9, 11, 12] (.loop c5_L5))) (c5_k3))) (c5_k2))
def c5_L7 : ACode := .ke [7, 9, 11, 12] (.seq (.seq (.reg [⟨some 57, .mv (.t 12), none⟩,
    ⟨some 58, .mv (.t 9), none⟩,
    ⟨some 59, .len (.t 58), none⟩,
    ⟨some 60, .bin .lss (.t 57) (.t 59), none⟩]) (.kp [7, 9, 11, 12, 60] (.cond (.t 60) (.skip) (.exit 0)))) (c5_k6))
def c5_k8 : ACode := .kp [7, 9] (.seq (.reg [⟨some 11, .mv (.c (.int .i64 0)), none⟩]) (.kp [7, 9, 11] (.seq (.seq (.reg [⟨some 12, .mv (.c (.int .i64 0)), none⟩]) (.kp [7, 9, 11, 12] (.block 0 (.kp [7, 9, 11, 12] (.loop c5_L7))))) (c5_k1))))
def c5_k9 : ACode := .kp [0, 2, 4] (.seq (.reg [⟨some 33, .mv (.t 0), none⟩,
    ⟨some 34, .load (some 8) (.t 4), none⟩,
    ⟨some 35, .callp 10 [(.t 33), (.t 34), (.c (.int .i64 20001))], none⟩,
    ⟨some 32, .mv (.t 35), none⟩,
    ⟨some 36, .extr (.t 32) 0, none⟩,
    ⟨some 37, .extr (.t 32) 1, none⟩,
    ⟨some 8, .alloc 27 [(.int .i64 0), (.int .i64 0)], none⟩,
    ⟨some 7, .mv (.t 36), none⟩,
    ⟨none, .store (some 2) (.t 8) (.t 37), none⟩]) (.kp [0, 2, 4, 7, 8] (.seq (.reg [⟨some 38, .faddr (.t 4) 1 none, none⟩,
    ⟨some 39, .load none (.t 38), none⟩,
    ⟨some 40, .mv (.t 2), none⟩,
    ⟨some 41, .bin .mul (.t 39) (.t 40), none⟩,
    ⟨some 42, .faddr (.t 4) 1 none, none⟩,
    ⟨none, .store none (.t 42) (.t 41), none⟩]) (.kp [0, 4, 7, 8] (.seq (.reg [⟨some 44, .mv (.t 0), none⟩,
    ⟨some 45, .load (some 8) (.t 4), none⟩,
    ⟨some 46, .callp 10 [(.t 44), (.t 45), (.c (.int .i64 20001))], none⟩,
    ⟨some 43, .mv (.t 46), none⟩,
    ⟨some 47, .extr (.t 43) 0, none⟩,
    ⟨some 48, .extr (.t 43) 1, none⟩,
    ⟨some 10, .alloc 27 [(.int .i64 0), (.int .i64 0)], none⟩,
    ⟨some 9, .mv (.t 47), none⟩,
    ⟨none, .store (some 2) (.t 10) (.t 48), none⟩]) (.kp [7, 8, 9, 10] (.seq (.seq (.segs [⟨none, [⟨some 49, .faddr (.t 8) 0 none, none⟩,
      ⟨some 50, .load none (.t 49), none⟩,
      ⟨some 51, .bin .neq (.t 50) (.c (.int .i64 0)), none⟩,
      ⟨some 52, .mv (.t 51), none⟩], none⟩,
    ⟨some (52, false), [⟨some 53, .faddr (.t 10) 0 none, none⟩,
      ⟨some 54, .load none (.t 53), none⟩,
      ⟨some 55, .bin .neq (.t 54) (.c (.int .i64 0)), none⟩], some (56, 55)⟩]) (.kp [7, 9, 56] (.cond (.t 56) (.seq (.reg [⟨some 6, .mv (.c (.bool false)), none⟩]) (.ret)) (.skip)))) (c5_k8))))))))
def c5 : AFun := { nargs := 3, nt := 96, res := [.tmp 6], code := .seq (.reg [⟨some 4, .box 25 (some 8) (.t 1), none⟩,
    ⟨some 6, .mv (.c (.bool false)), none⟩]) (.kp [0, 2, 4] (.seq (.reg [⟨some 13, .faddr (.t 4) 6 none, none⟩,
    ⟨none, .store none (.t 13) (.c (.int .i64 0)), none⟩]) (.kp [0, 2, 4] (.seq (.seq (.segs [⟨none, [⟨some 14, .mv (.t 0), none⟩,
      ⟨some 15, .load (some 8) (.t 4), none⟩,
      ⟨some 16, .callp 7 [(.t 14), (.t 15)], none⟩,
      ⟨some 17, .field (.t 16) 0 none, none⟩,
      ⟨some 18, .bin .neq (.t 17) (.c (.int .i64 0)), none⟩,
      ⟨some 19, .mv (.t 18), none⟩], none⟩,
    ⟨some (19, false), [⟨some 20, .mv (.t 2), none⟩,
      ⟨some 21, .callp 8 [(.t 20), (.c (.int .i64 1)), (.c (.int .i64 12))], none⟩,
      ⟨some 22, .not (.t 21), none⟩], none⟩,
    ⟨none, [⟨some 23, .pick (.t 19) (.c (.bool true)) (.t 22), none⟩,
      ⟨some 24, .mv (.t 23), none⟩], none⟩,
    ⟨some (24, false), [⟨some 25, .faddr (.t 4) 1 none, none⟩,
      ⟨some 26, .load none (.t 25), none⟩,
      ⟨some 27, .mv (.t 2), none⟩,
      ⟨some 28, .bin .mul (.t 26) (.t 27), none⟩,
      ⟨some 29, .bin .gtr (.t 28) (.c (.int .i64 1000)), none⟩], some (30, 29)⟩]) (.kp [0, 2, 4, 30] (.cond (.t 30) (.seq (.reg [⟨some 31, .callp 9 [], none⟩,
    ⟨some 6, .mv (.t 31), none⟩]) (.ret)) (.skip)))) (c5_k9))))) }
end Go.Proofs.YtecpfmhminkalaaDoor
namespace Go.Proofs.YtecpfmhminkalaaDoor
def c6_k1 : ACode := .kp [5, 10] (.seq (.segs [⟨none, [⟨some 91, .mv (.t 5), none⟩,
      ⟨some 92, .mv (.t 10), none⟩,
      ⟨some 93, .callp 11 [(.t 91), (.t 92)], none⟩,
      ⟨some 94, .mv (.t 93), none⟩], none⟩,
    ⟨some (94, true), [⟨some 95, .callp 9 [], none⟩], none⟩,
    ⟨none, [⟨some 96, .pick (.t 94) (.t 95) (.c (.bool false)), none⟩,
      ⟨some 4, .mv (.t 96), none⟩], none⟩]) (.ret))
def c6_k2 : ACode := .kp [5, 7, 8, 10, 11] (.reg [⟨some 65, .mv (.t 11), none⟩,
    ⟨some 66, .bin .add (.t 65) (.c (.int .i64 1)), none⟩,
    ⟨some 11, .mv (.t 66), none⟩])
def c6_k3 : ACode := .kp [5, 7, 8, 10, 11, 12] (.seq (.reg [⟨some 80, .mv (.t 7), none⟩,
    ⟨some 81, .faddr (.t 12) 1 none, none⟩,
    ⟨some 82, .load none (.t 81), none⟩,
    ⟨some 83, .callp 14 [(.t 80), (.t 82)], none⟩]) (.kp [5, 7, 8, 10, 11, 83] (.cond (.t 83) (.reg [⟨some 84, .mv (.t 10), none⟩,
    ⟨some 85, .mv (.t 8), none⟩,
    ⟨some 86, .mv (.t 11), none⟩,
    ⟨some 87, .iaddr 1 none (.t 85) (.t 86), none⟩,
    ⟨some 88, .load none (.t 87), none⟩,
    ⟨some 89, .bsl 3 none [(.t 88)], none⟩,
    ⟨some 90, .app 3 1 8 (.t 84) (.t 89), none⟩,
    ⟨some 10, .mv (.t 90), none⟩]) (.skip))))
def c6_k4 : ACode := .kp [5, 7, 8, 10, 11] (.seq (.block 1 (.seq (.reg [⟨some 68, .mv (.t 8), none⟩,
    ⟨some 69, .mv (.t 11), none⟩,
    ⟨some 70, .iaddr 1 none (.t 68) (.t 69), none⟩,
    ⟨some 71, .load none (.t 70), none⟩,
    ⟨some 72, .bin .sub (.t 71) (.c (.int .i64 1)), none⟩,
    ⟨some 73, .bin .mul (.t 72) (.c (.int .i64 86400)), none⟩,
    ⟨some 74, .callp 13 [(.t 73)], none⟩,
    ⟨some 67, .mv (.t 74), none⟩,
    ⟨some 75, .extr (.t 67) 0, none⟩,
    ⟨some 76, .extr (.t 67) 1, none⟩,
    ⟨some 12, .alloc 40 [(.int .i64 0), (.int .i64 0), (.int .i64 0), (.int .i64 0), (.int .i64 0), (.int .i64 0)], none⟩,
    ⟨some 13, .alloc 27 [(.int .i64 0), (.int .i64 0)], none⟩,
    ⟨none, .store (some 6) (.t 12) (.t 75), none⟩,
    ⟨none, .store (some 2) (.t 13) (.t 76), none⟩]) (.kp [5, 7, 8, 10, 11, 12, 13] (.seq (.seq (.reg [⟨some 77, .faddr (.t 13) 0 none, none⟩,
    ⟨some 78, .load none (.t 77), none⟩,
    ⟨some 79, .bin .neq (.t 78) (.c (.int .i64 0)), none⟩]) (.kp [5, 7, 8, 10, 11, 12, 79] (.cond (.t 79) (.seq (.reg [⟨some 4, .mv (.c (.bool false)), none⟩]) (.ret)) (.skip)))) (c6_k3))))) (c6_k2))
def c6_L5 : ACode := .ke [5, 7, 8, 10, 11] (.seq (.seq (.reg [⟨some 61, .mv (.t 11), none⟩,
    ⟨some 62, .mv (.t 8), none⟩,
    ⟨some 63, .len (.t 62), none⟩,
    ⟨some 64, .bin .lss (.t 61) (.t 63), none⟩]) (.kp [5, 7, 8, 10, 11, 64] (.cond (.t 64) (.skip) (.exit 0)))) (c6_k4))
def c6_k6 : ACode := .kp [5, 7, 8] (.seq (.reg [⟨some 10, .mv (.c (.sl 0 [] .nil)), none⟩]) (.kp [5, 7, 8, 10] (.seq (.seq (.reg [⟨some 11, .mv (.c (.int .i64 0)), none⟩]) (.kp [5, 7, 8, 10, 11] (.block 0 (.kp [5, 7, 8, 10, 11] (.loop c6_L5))))) (c6_k1))))
def c6_k7 : ACode := .kp [0, 3] (.seq (.reg [⟨some 39, .mv (.t 0), none⟩,
    ⟨some 40, .load (some 8) (.t 3), none⟩,
    ⟨some 41, .callp 10 [(.t 39), (.t 40), (.c (.int .i64 20001))], none⟩,
    ⟨some 38, .mv (.t 41), none⟩,
    ⟨some 42, .extr (.t 38) 0, none⟩,
    ⟨some 43, .extr (.t 38) 1, none⟩,
    ⟨some 6, .alloc 27 [(.int .i64 0), (.int .i64 0)], none⟩,
    ⟨some 5, .mv (.t 42), none⟩,
    ⟨none, .store (some 2) (.t 6) (.t 43), none⟩]) (.kp [0, 3, 5, 6] (.seq (.reg [⟨some 44, .faddr (.t 3) 2 none, none⟩,
    ⟨some 45, .load none (.t 44), none⟩,
    ⟨some 7, .mv (.t 45), none⟩]) (.kp [0, 3, 5, 6, 7] (.seq (.reg [⟨some 46, .faddr (.t 3) 2 none, none⟩,
    ⟨none, .store none (.t 46) (.c (.sl 0 [] .nil)), none⟩]) (.kp [0, 3, 5, 6, 7] (.seq (.reg [⟨some 48, .mv (.t 0), none⟩,
    ⟨some 49, .load (some 8) (.t 3), none⟩,
    ⟨some 50, .callp 10 [(.t 48), (.t 49), (.c (.int .i64 20001))], none⟩,
    ⟨some 47, .mv (.t 50), none⟩,
    ⟨some 51, .extr (.t 47) 0, none⟩,
    ⟨some 52, .extr (.t 47) 1, none⟩,
    ⟨some 9, .alloc 27 [(.int .i64 0), (.int .i64 0)], none⟩,
    ⟨some 8, .mv (.t 51), none⟩,
    ⟨none, .store (some 2) (.t 9) (.t 52), none⟩]) (.kp [5, 6, 7, 8, 9] (.seq (.seq (.segs [⟨none, [⟨some 53, .faddr (.t 6) 0 none, none⟩,
      ⟨some 54, .load none (.t 53), none⟩,
      ⟨some 55, .bin .neq (.t 54) (.c (.int .i64 0)), none⟩,
      ⟨some 56, .mv (.t 55), none⟩], none⟩,
    ⟨some (56, false), [⟨some 57, .faddr (.t 9) 0 none, none⟩,
      ⟨some 58, .load none (.t 57), none⟩,
      ⟨some 59, .bin .neq (.t 58) (.c (.int .i64 0)), none⟩], some (60, 59)⟩]) (.kp [5, 7, 8, 60] (.cond (.t 60) (.seq (.reg [⟨some 4, .mv (.c (.bool false)), none⟩]) (.ret)) (.skip)))) (c6_k6))))))))))
def c6 : AFun := { nargs := 2, nt := 97, res := [.tmp 4], code := .seq (.reg [⟨some 3, .box 25 (some 8) (.t 1), none⟩,
    ⟨some 4, .mv (.c (.bool false)), none⟩]) (.kp [0, 3] (.seq (.reg [⟨some 14, .faddr (.t 3) 6 none, none⟩,
    ⟨none, .store none (.t 14) (.c (.int .i64 0)), none⟩]) (.kp [0, 3] (.seq (.reg [⟨some 15, .faddr (.t 3) 5 none, none⟩,
    ⟨none, .store none (.t 15) (.c (.sl 0 [] .nil)), none⟩]) (.kp [0, 3] (.seq (.seq (.segs [⟨none, [⟨some 16, .mv (.t 0), none⟩,
      ⟨some 17, .load (some 8) (.t 3), none⟩,
      ⟨some 18, .callp 7 [(.t 16), (.t 17)], none⟩,
      ⟨some 19, .field (.t 18) 0 none, none⟩,
      ⟨some 20, .bin .neq (.t 19) (.c (.int .i64 0)), none⟩,
      ⟨some 21, .mv (.t 20), none⟩], none⟩,
    ⟨some (21, false), [⟨some 22, .faddr (.t 3) 2 none, none⟩,
      ⟨some 23, .load none (.t 22), none⟩,
      ⟨some 24, .len (.t 23), none⟩,
      ⟨some 25, .bin .eql (.t 24) (.c (.int .i64 0)), none⟩], some (26, 25)⟩,
    ⟨none, [⟨some 27, .mv (.t 26), none⟩], none⟩,
    ⟨some (27, false), [⟨some 28, .faddr (.t 3) 3 none, none⟩,
      ⟨some 29, .load none (.t 28), none⟩,
      ⟨some 30, .len (.t 29), none⟩,
      ⟨some 31, .faddr (.t 3) 4 none, none⟩,
      ⟨some 32, .load none (.t 31), none⟩,
      ⟨some 33, .len (.t 32), none⟩,
      ⟨some 34, .bin .add (.t 30) (.t 33), none⟩,
      ⟨some 35, .bin .eql (.t 34) (.c (.int .i64 0)), none⟩], some (36, 35)⟩]) (.kp [0, 3, 36] (.cond (.t 36) (.seq (.reg [⟨some 37, .callp 9 [], none⟩,
    ⟨some 4, .mv (.t 37), none⟩]) (.ret)) (.skip)))) (c6_k7))))))) }
end Go.Proofs.YtecpfmhminkalaaDoor
namespace Go.Proofs.YtecpfmhminkalaaDoor
theorem Owns.fresh {n0 n1 n2 : Nat} {H0 H1 H2 : AHeap} {el sz : Nat} {x : AV} {l : List AV} (h : Owns n0 H0 [] [⟨el, sz, x, l⟩] n1 H1) (hle : n1 ≤ n2) (hs : ∀ k, n2 ≤ k → H2 k = none) (hk : ∀ k, k < n1 → H2 k = H1 k) : Owns n0 H0 [] [⟨el, sz, x, l⟩] n2 H2 := by
  have := h.le
  refine ⟨⟨by omega, hs, fun k hkn => (hk k (by omega)).trans (h.same k hkn)⟩, (fun b hb => by cases hb), fun o ho => ?_, h.apart⟩
  refine (h.row o ho).keep fun k e m hkk => ?_
  rw [hk k (h.mem.lt hkk)]; exact hkk
end Go.Proofs.YtecpfmhminkalaaDoor
