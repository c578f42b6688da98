/- The code of some functions on plain data, by program, and that it is what the program's text gives; no condition. -/
import Derived.Test.YtecpfmhminkalaaDoorMgB
import Derived.Test.YtecpfmhminkalaaDoorProg
import Derived.KernelRfl
set_option linter.all false
set_option linter.unusedSimpArgs false
set_option linter.unusedVariables false
namespace Go.Proofs.YtecpfmhminkalaaDoor
/-- the functions that turn memory of their caller's -/
def efs : List Nat := [19, 20, 21, 35, 27, 38, 40, 62, 63, 64, 76, 77, 89, 117]
def c7_k1 : ACode := .kp [4, 5] (.seq (.reg [⟨some 17, .load (some 2) (.t 5), none⟩,
    ⟨none, .store (some 2) (.t 4) (.t 17), none⟩]) (.ret))
theorem c7_k1_go {Q : AExit → AS → Prop} {e : AEnv} {n : Nat} {H : AHeap} : aw Tryd.prog c7_k1 Q ⟨e, n, H⟩ = aw Tryd.prog (.kp [4, 5] (.seq (.reg [⟨some 17, .load (some 2) (.t 5), none⟩,
    ⟨none, .store (some 2) (.t 4) (.t 17), none⟩]) (.ret))) Q ⟨e, n, H⟩ := rfl
def c7 : AFun := { nargs := 2, nt := 18, res := [.cell 4 (some 2)], code := .seq (.reg [⟨some 3, .box 25 (some 8) (.t 1), none⟩,
    ⟨some 4, .alloc 27 [(.int .i64 0), (.int .i64 0)], none⟩]) (.kp [0, 3, 4] (.seq (.reg [⟨some 6, .load (some 8) (.t 3), none⟩,
    ⟨some 7, .callp 15 [(.t 6)], none⟩,
    ⟨some 5, .alloc 27 [(.int .i64 0), (.int .i64 0)], none⟩,
    ⟨none, .store (some 2) (.t 5) (.t 7), none⟩]) (.kp [0, 4, 5] (.seq (.seq (.segs [⟨none, [⟨some 8, .faddr (.t 5) 0 none, none⟩,
      ⟨some 9, .load none (.t 8), none⟩,
      ⟨some 10, .bin .eql (.t 9) (.c (.int .i64 0)), none⟩,
      ⟨some 11, .mv (.t 10), none⟩], none⟩,
    ⟨some (11, true), [⟨some 12, .mv (.t 0), none⟩,
      ⟨some 13, .callp 8 [(.t 12), (.c (.int .i64 1)), (.c (.int .i64 3652059))], none⟩,
      ⟨some 14, .not (.t 13), none⟩], none⟩,
    ⟨none, [⟨some 15, .pick (.t 11) (.t 14) (.c (.bool false)), none⟩], none⟩]) (.kp [4, 5, 15] (.cond (.t 15) (.reg [⟨some 16, .callp 16 [(.c (.int .i64 4)), (.c (.int .i64 (-1)))], none⟩,
    ⟨none, .store (some 2) (.t 5) (.t 16), none⟩]) (.skip)))) (c7_k1))))) }
theorem cmp7 : (cFun Tryd.prog efs Tryd.f7).map (fun x => (x.nargs, x.nt, x.res, x.code)) = some (c7.nargs, c7.nt, c7.res, bare c7.code) := by kernel_rfl
def c8 : AFun := { nargs := 3, nt := 15, res := [.tmp 6], code := .seq (.reg [⟨some 6, .mv (.c (.bool false)), none⟩]) (.kp [0, 1, 2] (.seq (.segs [⟨none, [⟨some 7, .mv (.t 1), none⟩,
      ⟨some 8, .mv (.t 0), none⟩,
      ⟨some 9, .bin .leq (.t 7) (.t 8), none⟩,
      ⟨some 10, .mv (.t 9), none⟩], none⟩,
    ⟨some (10, true), [⟨some 11, .mv (.t 0), none⟩,
      ⟨some 12, .mv (.t 2), none⟩,
      ⟨some 13, .bin .leq (.t 11) (.t 12), none⟩], some (14, 13)⟩,
    ⟨none, [⟨some 6, .mv (.t 14), none⟩], none⟩]) (.ret))) }
theorem cmp8 : (cFun Tryd.prog efs Tryd.f8).map (fun x => (x.nargs, x.nt, x.res, x.code)) = some (c8.nargs, c8.nt, c8.res, bare c8.code) := by kernel_rfl
def c11_k1 : ACode := .kp [] (.seq (.reg [⟨some 4, .mv (.c (.bool true)), none⟩]) (.ret))
theorem c11_k1_go {Q : AExit → AS → Prop} {e : AEnv} {n : Nat} {H : AHeap} : aw Tryd.prog c11_k1 Q ⟨e, n, H⟩ = aw Tryd.prog (.kp [] (.seq (.reg [⟨some 4, .mv (.c (.bool true)), none⟩]) (.ret))) Q ⟨e, n, H⟩ := rfl
def c11_k2 : ACode := .kp [0, 1, 5] (.reg [⟨some 15, .mv (.t 5), none⟩,
    ⟨some 16, .bin .add (.t 15) (.c (.int .i64 1)), none⟩,
    ⟨some 5, .mv (.t 16), none⟩])
theorem c11_k2_go {Q : AExit → AS → Prop} {e : AEnv} {n : Nat} {H : AHeap} : aw Tryd.prog c11_k2 Q ⟨e, n, H⟩ = aw Tryd.prog (.kp [0, 1, 5] (.reg [⟨some 15, .mv (.t 5), none⟩,
    ⟨some 16, .bin .add (.t 15) (.c (.int .i64 1)), none⟩,
    ⟨some 5, .mv (.t 16), none⟩])) Q ⟨e, n, H⟩ := rfl
def c11_k3 : ACode := .kp [0, 1, 5] (.seq (.block 1 (.seq (.reg [⟨some 17, .mv (.t 0), none⟩,
    ⟨some 18, .mv (.t 5), none⟩,
    ⟨some 19, .iaddr 1 none (.t 17) (.t 18), none⟩,
    ⟨some 20, .load none (.t 19), none⟩,
    ⟨some 21, .mv (.t 1), none⟩,
    ⟨some 22, .mv (.t 5), none⟩,
    ⟨some 23, .iaddr 1 none (.t 21) (.t 22), none⟩,
    ⟨some 24, .load none (.t 23), none⟩,
    ⟨some 25, .bin .neq (.t 20) (.t 24), none⟩]) (.kp [0, 1, 5, 25] (.cond (.t 25) (.seq (.reg [⟨some 4, .mv (.c (.bool false)), none⟩]) (.ret)) (.skip))))) (c11_k2))
theorem c11_k3_go {Q : AExit → AS → Prop} {e : AEnv} {n : Nat} {H : AHeap} : aw Tryd.prog c11_k3 Q ⟨e, n, H⟩ = aw Tryd.prog (.kp [0, 1, 5] (.seq (.block 1 (.seq (.reg [⟨some 17, .mv (.t 0), none⟩,
    ⟨some 18, .mv (.t 5), none⟩,
    ⟨some 19, .iaddr 1 none (.t 17) (.t 18), none⟩,
    ⟨some 20, .load none (.t 19), none⟩,
    ⟨some 21, .mv (.t 1), none⟩,
    ⟨some 22, .mv (.t 5), none⟩,
    ⟨some 23, .iaddr 1 none (.t 21) (.t 22), none⟩,
    ⟨some 24, .load none (.t 23), none⟩,
    ⟨some 25, .bin .neq (.t 20) (.t 24), none⟩]) (.kp [0, 1, 5, 25] (.cond (.t 25) (.seq (.reg [⟨some 4, .mv (.c (.bool false)), none⟩]) (.ret)) (.skip))))) (c11_k2))) Q ⟨e, n, H⟩ := rfl
def c11_L4 : ACode := .ke [0, 1, 5] (.seq (.seq (.reg [⟨some 11, .mv (.t 5), none⟩,
    ⟨some 12, .mv (.t 0), none⟩,
    ⟨some 13, .len (.t 12), none⟩,
    ⟨some 14, .bin .lss (.t 11) (.t 13), none⟩]) (.kp [0, 1, 5, 14] (.cond (.t 14) (.skip) (.exit 0)))) (c11_k3))
theorem c11_L4_go {Q : AExit → AS → Prop} {e : AEnv} {n : Nat} {H : AHeap} : aw Tryd.prog c11_L4 Q ⟨e, n, H⟩ = aw Tryd.prog (.ke [0, 1, 5] (.seq (.seq (.reg [⟨some 11, .mv (.t 5), none⟩,
    ⟨some 12, .mv (.t 0), none⟩,
    ⟨some 13, .len (.t 12), none⟩,
    ⟨some 14, .bin .lss (.t 11) (.t 13), none⟩]) (.kp [0, 1, 5, 14] (.cond (.t 14) (.skip) (.exit 0)))) (c11_k3))) Q ⟨e, n, H⟩ := rfl
def c11_k5 : ACode := .kp [0, 1] (.seq (.seq (.reg [⟨some 5, .mv (.c (.int .i64 0)), none⟩]) (.kp [0, 1, 5] (.block 0 (.kp [0, 1, 5] (.loop c11_L4))))) (c11_k1))
theorem c11_k5_go {Q : AExit → AS → Prop} {e : AEnv} {n : Nat} {H : AHeap} : aw Tryd.prog c11_k5 Q ⟨e, n, H⟩ = aw Tryd.prog (.kp [0, 1] (.seq (.seq (.reg [⟨some 5, .mv (.c (.int .i64 0)), none⟩]) (.kp [0, 1, 5] (.block 0 (.kp [0, 1, 5] (.loop c11_L4))))) (c11_k1))) Q ⟨e, n, H⟩ := rfl
def c11 : AFun := { nargs := 2, nt := 26, res := [.tmp 4], code := .seq (.reg [⟨some 4, .mv (.c (.bool false)), none⟩]) (.kp [0, 1] (.seq (.seq (.reg [⟨some 6, .mv (.t 0), none⟩,
    ⟨some 7, .len (.t 6), none⟩,
    ⟨some 8, .mv (.t 1), none⟩,
    ⟨some 9, .len (.t 8), none⟩,
    ⟨some 10, .bin .neq (.t 7) (.t 9), none⟩]) (.kp [0, 1, 10] (.cond (.t 10) (.seq (.reg [⟨some 4, .mv (.c (.bool false)), none⟩]) (.ret)) (.skip)))) (c11_k5))) }
theorem cmp11 : (cFun Tryd.prog efs Tryd.f11).map (fun x => (x.nargs, x.nt, x.res, x.code)) = some (c11.nargs, c11.nt, c11.res, bare c11.code) := by kernel_rfl
def c13_k1 : ACode := .kp [0, 2, 3] (.seq (.reg [⟨some 12, .mv (.t 0), none⟩,
    ⟨some 13, .callp 22 [(.t 12)], none⟩,
    ⟨some 14, .build [(.int .i64 0), (.int .i64 0)] [], none⟩,
    ⟨none, .store (some 6) (.t 2) (.t 13), none⟩,
    ⟨none, .store (some 2) (.t 3) (.t 14), none⟩]) (.ret))
theorem c13_k1_go {Q : AExit → AS → Prop} {e : AEnv} {n : Nat} {H : AHeap} : aw Tryd.prog c13_k1 Q ⟨e, n, H⟩ = aw Tryd.prog (.kp [0, 2, 3] (.seq (.reg [⟨some 12, .mv (.t 0), none⟩,
    ⟨some 13, .callp 22 [(.t 12)], none⟩,
    ⟨some 14, .build [(.int .i64 0), (.int .i64 0)] [], none⟩,
    ⟨none, .store (some 6) (.t 2) (.t 13), none⟩,
    ⟨none, .store (some 2) (.t 3) (.t 14), none⟩]) (.ret))) Q ⟨e, n, H⟩ := rfl
def c13 : AFun := { nargs := 1, nt := 15, res := [.cell 2 (some 6), .cell 3 (some 2)], code := .seq (.reg [⟨some 2, .alloc 40 [(.int .i64 0), (.int .i64 0), (.int .i64 0), (.int .i64 0), (.int .i64 0), (.int .i64 0)], none⟩,
    ⟨some 3, .alloc 27 [(.int .i64 0), (.int .i64 0)], none⟩]) (.kp [0, 2, 3] (.seq (.seq (.segs [⟨none, [⟨some 4, .mv (.t 0), none⟩,
      ⟨some 5, .bin .lss (.t 4) (.c (.int .i64 0)), none⟩,
      ⟨some 6, .mv (.t 5), none⟩], none⟩,
    ⟨some (6, false), [⟨some 7, .mv (.t 0), none⟩,
      ⟨some 8, .bin .gtr (.t 7) (.c (.int .i64 315537897599)), none⟩], some (9, 8)⟩]) (.kp [0, 2, 3, 9] (.cond (.t 9) (.seq (.reg [⟨some 10, .build [(.int .i64 0), (.int .i64 0), (.int .i64 0), (.int .i64 0), (.int .i64 0), (.int .i64 0)] [], none⟩,
    ⟨some 11, .build [(.int .i64 0), (.int .i64 0)] [(0, none, (.c (.int .i64 4))), (1, none, (.c (.int .i64 (-1))))], none⟩,
    ⟨none, .store (some 6) (.t 2) (.t 10), none⟩,
    ⟨none, .store (some 2) (.t 3) (.t 11), none⟩]) (.ret)) (.skip)))) (c13_k1))) }
theorem cmp13 : (cFun Tryd.prog efs Tryd.f13).map (fun x => (x.nargs, x.nt, x.res, x.code)) = some (c13.nargs, c13.nt, c13.res, bare c13.code) := by kernel_rfl
def c14_k1 : ACode := .kp [] (.seq (.reg [⟨some 4, .mv (.c (.bool false)), none⟩]) (.ret))
theorem c14_k1_go {Q : AExit → AS → Prop} {e : AEnv} {n : Nat} {H : AHeap} : aw Tryd.prog c14_k1 Q ⟨e, n, H⟩ = aw Tryd.prog (.kp [] (.seq (.reg [⟨some 4, .mv (.c (.bool false)), none⟩]) (.ret))) Q ⟨e, n, H⟩ := rfl
def c14_k2 : ACode := .kp [0, 1, 5] (.reg [⟨some 10, .mv (.t 5), none⟩,
    ⟨some 11, .bin .add (.t 10) (.c (.int .i64 1)), none⟩,
    ⟨some 5, .mv (.t 11), none⟩])
theorem c14_k2_go {Q : AExit → AS → Prop} {e : AEnv} {n : Nat} {H : AHeap} : aw Tryd.prog c14_k2 Q ⟨e, n, H⟩ = aw Tryd.prog (.kp [0, 1, 5] (.reg [⟨some 10, .mv (.t 5), none⟩,
    ⟨some 11, .bin .add (.t 10) (.c (.int .i64 1)), none⟩,
    ⟨some 5, .mv (.t 11), none⟩])) Q ⟨e, n, H⟩ := rfl
def c14_k3 : ACode := .kp [0, 1, 5] (.seq (.block 1 (.seq (.reg [⟨some 12, .mv (.t 0), none⟩,
    ⟨some 13, .mv (.t 5), none⟩,
    ⟨some 14, .iaddr 1 none (.t 12) (.t 13), none⟩,
    ⟨some 15, .load none (.t 14), none⟩,
    ⟨some 16, .mv (.t 1), none⟩,
    ⟨some 17, .bin .eql (.t 15) (.t 16), none⟩]) (.kp [0, 1, 5, 17] (.cond (.t 17) (.seq (.reg [⟨some 4, .mv (.c (.bool true)), none⟩]) (.ret)) (.skip))))) (c14_k2))
theorem c14_k3_go {Q : AExit → AS → Prop} {e : AEnv} {n : Nat} {H : AHeap} : aw Tryd.prog c14_k3 Q ⟨e, n, H⟩ = aw Tryd.prog (.kp [0, 1, 5] (.seq (.block 1 (.seq (.reg [⟨some 12, .mv (.t 0), none⟩,
    ⟨some 13, .mv (.t 5), none⟩,
    ⟨some 14, .iaddr 1 none (.t 12) (.t 13), none⟩,
    ⟨some 15, .load none (.t 14), none⟩,
    ⟨some 16, .mv (.t 1), none⟩,
    ⟨some 17, .bin .eql (.t 15) (.t 16), none⟩]) (.kp [0, 1, 5, 17] (.cond (.t 17) (.seq (.reg [⟨some 4, .mv (.c (.bool true)), none⟩]) (.ret)) (.skip))))) (c14_k2))) Q ⟨e, n, H⟩ := rfl
def c14_L4 : ACode := .ke [0, 1, 5] (.seq (.seq (.reg [⟨some 6, .mv (.t 5), none⟩,
    ⟨some 7, .mv (.t 0), none⟩,
    ⟨some 8, .len (.t 7), none⟩,
    ⟨some 9, .bin .lss (.t 6) (.t 8), none⟩]) (.kp [0, 1, 5, 9] (.cond (.t 9) (.skip) (.exit 0)))) (c14_k3))
theorem c14_L4_go {Q : AExit → AS → Prop} {e : AEnv} {n : Nat} {H : AHeap} : aw Tryd.prog c14_L4 Q ⟨e, n, H⟩ = aw Tryd.prog (.ke [0, 1, 5] (.seq (.seq (.reg [⟨some 6, .mv (.t 5), none⟩,
    ⟨some 7, .mv (.t 0), none⟩,
    ⟨some 8, .len (.t 7), none⟩,
    ⟨some 9, .bin .lss (.t 6) (.t 8), none⟩]) (.kp [0, 1, 5, 9] (.cond (.t 9) (.skip) (.exit 0)))) (c14_k3))) Q ⟨e, n, H⟩ := rfl
def c14 : AFun := { nargs := 2, nt := 18, res := [.tmp 4], code := .seq (.reg [⟨some 4, .mv (.c (.bool false)), none⟩]) (.kp [0, 1] (.seq (.seq (.reg [⟨some 5, .mv (.c (.int .i64 0)), none⟩]) (.kp [0, 1, 5] (.block 0 (.kp [0, 1, 5] (.loop c14_L4))))) (c14_k1))) }
theorem cmp14 : (cFun Tryd.prog efs Tryd.f14).map (fun x => (x.nargs, x.nt, x.res, x.code)) = some (c14.nargs, c14.nt, c14.res, bare c14.code) := by kernel_rfl
def c15_k1 : ACode := .kp [2] (.seq (.reg [⟨some 97, .callp 16 [(.c (.int .i64 0)), (.c (.int .i64 0))], none⟩,
    ⟨none, .store (some 2) (.t 2) (.t 97), none⟩]) (.ret))
theorem c15_k1_go {Q : AExit → AS → Prop} {e : AEnv} {n : Nat} {H : AHeap} : aw Tryd.prog c15_k1 Q ⟨e, n, H⟩ = aw Tryd.prog (.kp [2] (.seq (.reg [⟨some 97, .callp 16 [(.c (.int .i64 0)), (.c (.int .i64 0))], none⟩,
    ⟨none, .store (some 2) (.t 2) (.t 97), none⟩]) (.ret))) Q ⟨e, n, H⟩ := rfl
def c15_k2 : ACode := .kp [1, 2] (.seq (.seq (.reg [⟨some 92, .faddr (.t 1) 7 none, none⟩,
    ⟨some 93, .load none (.t 92), none⟩,
    ⟨some 94, .callp 8 [(.t 93), (.c (.int .i64 0)), (.c (.int .i64 3652059))], none⟩,
    ⟨some 95, .not (.t 94), none⟩]) (.kp [2, 95] (.cond (.t 95) (.seq (.reg [⟨some 96, .callp 16 [(.c (.int .i64 4)), (.c (.int .i64 7))], none⟩,
    ⟨none, .store (some 2) (.t 2) (.t 96), none⟩]) (.ret)) (.skip)))) (c15_k1))
theorem c15_k2_go {Q : AExit → AS → Prop} {e : AEnv} {n : Nat} {H : AHeap} : aw Tryd.prog c15_k2 Q ⟨e, n, H⟩ = aw Tryd.prog (.kp [1, 2] (.seq (.seq (.reg [⟨some 92, .faddr (.t 1) 7 none, none⟩,
    ⟨some 93, .load none (.t 92), none⟩,
    ⟨some 94, .callp 8 [(.t 93), (.c (.int .i64 0)), (.c (.int .i64 3652059))], none⟩,
    ⟨some 95, .not (.t 94), none⟩]) (.kp [2, 95] (.cond (.t 95) (.seq (.reg [⟨some 96, .callp 16 [(.c (.int .i64 4)), (.c (.int .i64 7))], none⟩,
    ⟨none, .store (some 2) (.t 2) (.t 96), none⟩]) (.ret)) (.skip)))) (c15_k1))) Q ⟨e, n, H⟩ := rfl
def c15_k3 : ACode := .kp [1, 2] (.seq (.seq (.reg [⟨some 87, .faddr (.t 1) 6 none, none⟩,
    ⟨some 88, .load none (.t 87), none⟩,
    ⟨some 89, .callp 8 [(.t 88), (.c (.int .i64 0)), (.c (.int .i64 20001))], none⟩,
    ⟨some 90, .not (.t 89), none⟩]) (.kp [1, 2, 90] (.cond (.t 90) (.seq (.reg [⟨some 91, .callp 16 [(.c (.int .i64 4)), (.c (.int .i64 6))], none⟩,
    ⟨none, .store (some 2) (.t 2) (.t 91), none⟩]) (.ret)) (.skip)))) (c15_k2))
theorem c15_k3_go {Q : AExit → AS → Prop} {e : AEnv} {n : Nat} {H : AHeap} : aw Tryd.prog c15_k3 Q ⟨e, n, H⟩ = aw Tryd.prog (.kp [1, 2] (.seq (.seq (.reg [⟨some 87, .faddr (.t 1) 6 none, none⟩,
    ⟨some 88, .load none (.t 87), none⟩,
    ⟨some 89, .callp 8 [(.t 88), (.c (.int .i64 0)), (.c (.int .i64 20001))], none⟩,
    ⟨some 90, .not (.t 89), none⟩]) (.kp [1, 2, 90] (.cond (.t 90) (.seq (.reg [⟨some 91, .callp 16 [(.c (.int .i64 4)), (.c (.int .i64 6))], none⟩,
    ⟨none, .store (some 2) (.t 2) (.t 91), none⟩]) (.ret)) (.skip)))) (c15_k2))) Q ⟨e, n, H⟩ := rfl
def c15_k4 : ACode := .kp [1, 2] (.seq (.seq (.reg [⟨some 80, .faddr (.t 1) 5 none, none⟩,
    ⟨some 81, .load none (.t 80), none⟩,
    ⟨some 82, .callp 23 [(.t 81), (.c (.int .i64 (-366))), (.c (.int .i64 366))], none⟩,
    ⟨some 7, .mv (.t 82), none⟩]) (.kp [1, 2, 7] (.seq (.reg [⟨some 83, .mv (.t 7), none⟩,
    ⟨some 84, .bin .neq (.t 83) (.c (.int .i64 0)), none⟩]) (.kp [1, 2, 7, 84] (.cond (.t 84) (.seq (.reg [⟨some 85, .mv (.t 7), none⟩,
    ⟨some 86, .callp 16 [(.t 85), (.c (.int .i64 5))], none⟩,
    ⟨none, .store (some 2) (.t 2) (.t 86), none⟩]) (.ret)) (.skip)))))) (c15_k3))
theorem c15_k4_go {Q : AExit → AS → Prop} {e : AEnv} {n : Nat} {H : AHeap} : aw Tryd.prog c15_k4 Q ⟨e, n, H⟩ = aw Tryd.prog (.kp [1, 2] (.seq (.seq (.reg [⟨some 80, .faddr (.t 1) 5 none, none⟩,
    ⟨some 81, .load none (.t 80), none⟩,
    ⟨some 82, .callp 23 [(.t 81), (.c (.int .i64 (-366))), (.c (.int .i64 366))], none⟩,
    ⟨some 7, .mv (.t 82), none⟩]) (.kp [1, 2, 7] (.seq (.reg [⟨some 83, .mv (.t 7), none⟩,
    ⟨some 84, .bin .neq (.t 83) (.c (.int .i64 0)), none⟩]) (.kp [1, 2, 7, 84] (.cond (.t 84) (.seq (.reg [⟨some 85, .mv (.t 7), none⟩,
    ⟨some 86, .callp 16 [(.t 85), (.c (.int .i64 5))], none⟩,
    ⟨none, .store (some 2) (.t 2) (.t 86), none⟩]) (.ret)) (.skip)))))) (c15_k3))) Q ⟨e, n, H⟩ := rfl
def c15_k5 : ACode := .kp [1, 2, 5] (.reg [⟨some 42, .mv (.t 5), none⟩,
    ⟨some 43, .bin .add (.t 42) (.c (.int .i64 1)), none⟩,
    ⟨some 5, .mv (.t 43), none⟩])
theorem c15_k5_go {Q : AExit → AS → Prop} {e : AEnv} {n : Nat} {H : AHeap} : aw Tryd.prog c15_k5 Q ⟨e, n, H⟩ = aw Tryd.prog (.kp [1, 2, 5] (.reg [⟨some 42, .mv (.t 5), none⟩,
    ⟨some 43, .bin .add (.t 42) (.c (.int .i64 1)), none⟩,
    ⟨some 5, .mv (.t 43), none⟩])) Q ⟨e, n, H⟩ := rfl
def c15_k6 : ACode := .kp [1, 2, 5, 6] (.reg [⟨some 66, .mv (.t 6), none⟩,
    ⟨some 67, .bin .add (.t 66) (.c (.int .i64 1)), none⟩,
    ⟨some 6, .mv (.t 67), none⟩])
theorem c15_k6_go {Q : AExit → AS → Prop} {e : AEnv} {n : Nat} {H : AHeap} : aw Tryd.prog c15_k6 Q ⟨e, n, H⟩ = aw Tryd.prog (.kp [1, 2, 5, 6] (.reg [⟨some 66, .mv (.t 6), none⟩,
    ⟨some 67, .bin .add (.t 66) (.c (.int .i64 1)), none⟩,
    ⟨some 6, .mv (.t 67), none⟩])) Q ⟨e, n, H⟩ := rfl
def c15_k7 : ACode := .kp [1, 2, 5, 6] (.seq (.block 3 (.seq (.reg [⟨some 68, .faddr (.t 1) 4 none, none⟩,
    ⟨some 69, .load none (.t 68), none⟩,
    ⟨some 70, .mv (.t 6), none⟩,
    ⟨some 71, .iaddr 2 (some 2) (.t 69) (.t 70), none⟩,
    ⟨some 72, .load (some 2) (.t 71), none⟩,
    ⟨some 73, .faddr (.t 1) 4 none, none⟩,
    ⟨some 74, .load none (.t 73), none⟩,
    ⟨some 75, .mv (.t 5), none⟩,
    ⟨some 76, .iaddr 2 (some 2) (.t 74) (.t 75), none⟩,
    ⟨some 77, .load (some 2) (.t 76), none⟩,
    ⟨some 78, .eqs [.i, .i] false (.t 72) (.t 77), none⟩]) (.kp [1, 2, 5, 6, 78] (.cond (.t 78) (.seq (.reg [⟨some 79, .callp 16 [(.c (.int .i64 8)), (.c (.int .i64 4))], none⟩,
    ⟨none, .store (some 2) (.t 2) (.t 79), none⟩]) (.ret)) (.skip))))) (c15_k6))
theorem c15_k7_go {Q : AExit → AS → Prop} {e : AEnv} {n : Nat} {H : AHeap} : aw Tryd.prog c15_k7 Q ⟨e, n, H⟩ = aw Tryd.prog (.kp [1, 2, 5, 6] (.seq (.block 3 (.seq (.reg [⟨some 68, .faddr (.t 1) 4 none, none⟩,
    ⟨some 69, .load none (.t 68), none⟩,
    ⟨some 70, .mv (.t 6), none⟩,
    ⟨some 71, .iaddr 2 (some 2) (.t 69) (.t 70), none⟩,
    ⟨some 72, .load (some 2) (.t 71), none⟩,
    ⟨some 73, .faddr (.t 1) 4 none, none⟩,
    ⟨some 74, .load none (.t 73), none⟩,
    ⟨some 75, .mv (.t 5), none⟩,
    ⟨some 76, .iaddr 2 (some 2) (.t 74) (.t 75), none⟩,
    ⟨some 77, .load (some 2) (.t 76), none⟩,
    ⟨some 78, .eqs [.i, .i] false (.t 72) (.t 77), none⟩]) (.kp [1, 2, 5, 6, 78] (.cond (.t 78) (.seq (.reg [⟨some 79, .callp 16 [(.c (.int .i64 8)), (.c (.int .i64 4))], none⟩,
    ⟨none, .store (some 2) (.t 2) (.t 79), none⟩]) (.ret)) (.skip))))) (c15_k6))) Q ⟨e, n, H⟩ := rfl
def c15_L8 : ACode := .ke [1, 2, 5, 6] (.seq (.seq (.reg [⟨some 63, .mv (.t 6), none⟩,
    ⟨some 64, .mv (.t 5), none⟩,
    ⟨some 65, .bin .lss (.t 63) (.t 64), none⟩]) (.kp [1, 2, 5, 6, 65] (.cond (.t 65) (.skip) (.exit 2)))) (c15_k7))
theorem c15_L8_go {Q : AExit → AS → Prop} {e : AEnv} {n : Nat} {H : AHeap} : aw Tryd.prog c15_L8 Q ⟨e, n, H⟩ = aw Tryd.prog (.ke [1, 2, 5, 6] (.seq (.seq (.reg [⟨some 63, .mv (.t 6), none⟩,
    ⟨some 64, .mv (.t 5), none⟩,
    ⟨some 65, .bin .lss (.t 63) (.t 64), none⟩]) (.kp [1, 2, 5, 6, 65] (.cond (.t 65) (.skip) (.exit 2)))) (c15_k7))) Q ⟨e, n, H⟩ := rfl
def c15_k9 : ACode := .kp [1, 2, 5] (.seq (.reg [⟨some 6, .mv (.c (.int .i64 0)), none⟩]) (.kp [1, 2, 5, 6] (.block 2 (.kp [1, 2, 5, 6] (.loop c15_L8)))))
theorem c15_k9_go {Q : AExit → AS → Prop} {e : AEnv} {n : Nat} {H : AHeap} : aw Tryd.prog c15_k9 Q ⟨e, n, H⟩ = aw Tryd.prog (.kp [1, 2, 5] (.seq (.reg [⟨some 6, .mv (.c (.int .i64 0)), none⟩]) (.kp [1, 2, 5, 6] (.block 2 (.kp [1, 2, 5, 6] (.loop c15_L8)))))) Q ⟨e, n, H⟩ := rfl
def c15_k10 : ACode := .kp [1, 2, 5] (.seq (.block 1 (.seq (.seq (.segs [⟨none, [⟨some 44, .faddr (.t 1) 4 none, none⟩,
      ⟨some 45, .load none (.t 44), none⟩,
      ⟨some 46, .mv (.t 5), none⟩,
      ⟨some 47, .iaddr 2 (some 2) (.t 45) (.t 46), none⟩,
      ⟨some 48, .faddr (.t 47) 0 none, none⟩,
      ⟨some 49, .load none (.t 48), none⟩,
      ⟨some 50, .callp 8 [(.t 49), (.c (.int .i64 0)), (.c (.int .i64 6))], none⟩,
      ⟨some 51, .not (.t 50), none⟩,
      ⟨some 52, .mv (.t 51), none⟩], none⟩,
    ⟨some (52, false), [⟨some 53, .faddr (.t 1) 4 none, none⟩,
      ⟨some 54, .load none (.t 53), none⟩,
      ⟨some 55, .mv (.t 5), none⟩,
      ⟨some 56, .iaddr 2 (some 2) (.t 54) (.t 55), none⟩,
      ⟨some 57, .faddr (.t 56) 1 none, none⟩,
      ⟨some 58, .load none (.t 57), none⟩,
      ⟨some 59, .callp 8 [(.t 58), (.c (.int .i64 (-5))), (.c (.int .i64 5))], none⟩,
      ⟨some 60, .not (.t 59), none⟩], none⟩,
    ⟨none, [⟨some 61, .pick (.t 52) (.c (.bool true)) (.t 60), none⟩], none⟩]) (.kp [1, 2, 5, 61] (.cond (.t 61) (.seq (.reg [⟨some 62, .callp 16 [(.c (.int .i64 4)), (.c (.int .i64 4))], none⟩,
    ⟨none, .store (some 2) (.t 2) (.t 62), none⟩]) (.ret)) (.skip)))) (c15_k9))) (c15_k5))
theorem c15_k10_go {Q : AExit → AS → Prop} {e : AEnv} {n : Nat} {H : AHeap} : aw Tryd.prog c15_k10 Q ⟨e, n, H⟩ = aw Tryd.prog (.kp [1, 2, 5] (.seq (.block 1 (.seq (.seq (.segs [⟨none, [⟨some 44, .faddr (.t 1) 4 none, none⟩,
      ⟨some 45, .load none (.t 44), none⟩,
      ⟨some 46, .mv (.t 5), none⟩,
      ⟨some 47, .iaddr 2 (some 2) (.t 45) (.t 46), none⟩,
      ⟨some 48, .faddr (.t 47) 0 none, none⟩,
      ⟨some 49, .load none (.t 48), none⟩,
      ⟨some 50, .callp 8 [(.t 49), (.c (.int .i64 0)), (.c (.int .i64 6))], none⟩,
      ⟨some 51, .not (.t 50), none⟩,
      ⟨some 52, .mv (.t 51), none⟩], none⟩,
    ⟨some (52, false), [⟨some 53, .faddr (.t 1) 4 none, none⟩,
      ⟨some 54, .load none (.t 53), none⟩,
      ⟨some 55, .mv (.t 5), none⟩,
      ⟨some 56, .iaddr 2 (some 2) (.t 54) (.t 55), none⟩,
      ⟨some 57, .faddr (.t 56) 1 none, none⟩,
      ⟨some 58, .load none (.t 57), none⟩,
      ⟨some 59, .callp 8 [(.t 58), (.c (.int .i64 (-5))), (.c (.int .i64 5))], none⟩,
      ⟨some 60, .not (.t 59), none⟩], none⟩,
    ⟨none, [⟨some 61, .pick (.t 52) (.c (.bool true)) (.t 60), none⟩], none⟩]) (.kp [1, 2, 5, 61] (.cond (.t 61) (.seq (.reg [⟨some 62, .callp 16 [(.c (.int .i64 4)), (.c (.int .i64 4))], none⟩,
    ⟨none, .store (some 2) (.t 2) (.t 62), none⟩]) (.ret)) (.skip)))) (c15_k9))) (c15_k5))) Q ⟨e, n, H⟩ := rfl
def c15_L11 : ACode := .ke [1, 2, 5] (.seq (.seq (.reg [⟨some 37, .mv (.t 5), none⟩,
    ⟨some 38, .faddr (.t 1) 4 none, none⟩,
    ⟨some 39, .load none (.t 38), none⟩,
    ⟨some 40, .len (.t 39), none⟩,
    ⟨some 41, .bin .lss (.t 37) (.t 40), none⟩]) (.kp [1, 2, 5, 41] (.cond (.t 41) (.skip) (.exit 0)))) (c15_k10))
theorem c15_L11_go {Q : AExit → AS → Prop} {e : AEnv} {n : Nat} {H : AHeap} : aw Tryd.prog c15_L11 Q ⟨e, n, H⟩ = aw Tryd.prog (.ke [1, 2, 5] (.seq (.seq (.reg [⟨some 37, .mv (.t 5), none⟩,
    ⟨some 38, .faddr (.t 1) 4 none, none⟩,
    ⟨some 39, .load none (.t 38), none⟩,
    ⟨some 40, .len (.t 39), none⟩,
    ⟨some 41, .bin .lss (.t 37) (.t 40), none⟩]) (.kp [1, 2, 5, 41] (.cond (.t 41) (.skip) (.exit 0)))) (c15_k10))) Q ⟨e, n, H⟩ := rfl
def c15_k12 : ACode := .kp [1, 2] (.seq (.seq (.reg [⟨some 5, .mv (.c (.int .i64 0)), none⟩]) (.kp [1, 2, 5] (.block 0 (.kp [1, 2, 5] (.loop c15_L11))))) (c15_k4))
theorem c15_k12_go {Q : AExit → AS → Prop} {e : AEnv} {n : Nat} {H : AHeap} : aw Tryd.prog c15_k12 Q ⟨e, n, H⟩ = aw Tryd.prog (.kp [1, 2] (.seq (.seq (.reg [⟨some 5, .mv (.c (.int .i64 0)), none⟩]) (.kp [1, 2, 5] (.block 0 (.kp [1, 2, 5] (.loop c15_L11))))) (c15_k4))) Q ⟨e, n, H⟩ := rfl
def c15_k13 : ACode := .kp [1, 2] (.seq (.seq (.reg [⟨some 32, .faddr (.t 1) 4 none, none⟩,
    ⟨some 33, .load none (.t 32), none⟩,
    ⟨some 34, .len (.t 33), none⟩,
    ⟨some 35, .bin .gtr (.t 34) (.c (.int .i64 12)), none⟩]) (.kp [1, 2, 35] (.cond (.t 35) (.seq (.reg [⟨some 36, .callp 16 [(.c (.int .i64 2)), (.c (.int .i64 4))], none⟩,
    ⟨none, .store (some 2) (.t 2) (.t 36), none⟩]) (.ret)) (.skip)))) (c15_k12))
theorem c15_k13_go {Q : AExit → AS → Prop} {e : AEnv} {n : Nat} {H : AHeap} : aw Tryd.prog c15_k13 Q ⟨e, n, H⟩ = aw Tryd.prog (.kp [1, 2] (.seq (.seq (.reg [⟨some 32, .faddr (.t 1) 4 none, none⟩,
    ⟨some 33, .load none (.t 32), none⟩,
    ⟨some 34, .len (.t 33), none⟩,
    ⟨some 35, .bin .gtr (.t 34) (.c (.int .i64 12)), none⟩]) (.kp [1, 2, 35] (.cond (.t 35) (.seq (.reg [⟨some 36, .callp 16 [(.c (.int .i64 2)), (.c (.int .i64 4))], none⟩,
    ⟨none, .store (some 2) (.t 2) (.t 36), none⟩]) (.ret)) (.skip)))) (c15_k12))) Q ⟨e, n, H⟩ := rfl
def c15_k14 : ACode := .kp [1, 2] (.seq (.seq (.reg [⟨some 25, .faddr (.t 1) 3 none, none⟩,
    ⟨some 26, .load none (.t 25), none⟩,
    ⟨some 27, .callp 23 [(.t 26), (.c (.int .i64 (-31))), (.c (.int .i64 31))], none⟩,
    ⟨some 4, .mv (.t 27), none⟩]) (.kp [1, 2, 4] (.seq (.reg [⟨some 28, .mv (.t 4), none⟩,
    ⟨some 29, .bin .neq (.t 28) (.c (.int .i64 0)), none⟩]) (.kp [1, 2, 4, 29] (.cond (.t 29) (.seq (.reg [⟨some 30, .mv (.t 4), none⟩,
    ⟨some 31, .callp 16 [(.t 30), (.c (.int .i64 3))], none⟩,
    ⟨none, .store (some 2) (.t 2) (.t 31), none⟩]) (.ret)) (.skip)))))) (c15_k13))
theorem c15_k14_go {Q : AExit → AS → Prop} {e : AEnv} {n : Nat} {H : AHeap} : aw Tryd.prog c15_k14 Q ⟨e, n, H⟩ = aw Tryd.prog (.kp [1, 2] (.seq (.seq (.reg [⟨some 25, .faddr (.t 1) 3 none, none⟩,
    ⟨some 26, .load none (.t 25), none⟩,
    ⟨some 27, .callp 23 [(.t 26), (.c (.int .i64 (-31))), (.c (.int .i64 31))], none⟩,
    ⟨some 4, .mv (.t 27), none⟩]) (.kp [1, 2, 4] (.seq (.reg [⟨some 28, .mv (.t 4), none⟩,
    ⟨some 29, .bin .neq (.t 28) (.c (.int .i64 0)), none⟩]) (.kp [1, 2, 4, 29] (.cond (.t 29) (.seq (.reg [⟨some 30, .mv (.t 4), none⟩,
    ⟨some 31, .callp 16 [(.t 30), (.c (.int .i64 3))], none⟩,
    ⟨none, .store (some 2) (.t 2) (.t 31), none⟩]) (.ret)) (.skip)))))) (c15_k13))) Q ⟨e, n, H⟩ := rfl
def c15_k15 : ACode := .kp [1, 2] (.seq (.seq (.reg [⟨some 18, .faddr (.t 1) 2 none, none⟩,
    ⟨some 19, .load none (.t 18), none⟩,
    ⟨some 20, .callp 23 [(.t 19), (.c (.int .i64 1)), (.c (.int .i64 12))], none⟩,
    ⟨some 3, .mv (.t 20), none⟩]) (.kp [1, 2, 3] (.seq (.reg [⟨some 21, .mv (.t 3), none⟩,
    ⟨some 22, .bin .neq (.t 21) (.c (.int .i64 0)), none⟩]) (.kp [1, 2, 3, 22] (.cond (.t 22) (.seq (.reg [⟨some 23, .mv (.t 3), none⟩,
    ⟨some 24, .callp 16 [(.t 23), (.c (.int .i64 2))], none⟩,
    ⟨none, .store (some 2) (.t 2) (.t 24), none⟩]) (.ret)) (.skip)))))) (c15_k14))
theorem c15_k15_go {Q : AExit → AS → Prop} {e : AEnv} {n : Nat} {H : AHeap} : aw Tryd.prog c15_k15 Q ⟨e, n, H⟩ = aw Tryd.prog (.kp [1, 2] (.seq (.seq (.reg [⟨some 18, .faddr (.t 1) 2 none, none⟩,
    ⟨some 19, .load none (.t 18), none⟩,
    ⟨some 20, .callp 23 [(.t 19), (.c (.int .i64 1)), (.c (.int .i64 12))], none⟩,
    ⟨some 3, .mv (.t 20), none⟩]) (.kp [1, 2, 3] (.seq (.reg [⟨some 21, .mv (.t 3), none⟩,
    ⟨some 22, .bin .neq (.t 21) (.c (.int .i64 0)), none⟩]) (.kp [1, 2, 3, 22] (.cond (.t 22) (.seq (.reg [⟨some 23, .mv (.t 3), none⟩,
    ⟨some 24, .callp 16 [(.t 23), (.c (.int .i64 2))], none⟩,
    ⟨none, .store (some 2) (.t 2) (.t 24), none⟩]) (.ret)) (.skip)))))) (c15_k14))) Q ⟨e, n, H⟩ := rfl
def c15_k16 : ACode := .kp [1, 2] (.seq (.seq (.reg [⟨some 13, .faddr (.t 1) 1 none, none⟩,
    ⟨some 14, .load none (.t 13), none⟩,
    ⟨some 15, .callp 8 [(.t 14), (.c (.int .i64 1)), (.c (.int .i64 1000))], none⟩,
    ⟨some 16, .not (.t 15), none⟩]) (.kp [1, 2, 16] (.cond (.t 16) (.seq (.reg [⟨some 17, .callp 16 [(.c (.int .i64 4)), (.c (.int .i64 1))], none⟩,
    ⟨none, .store (some 2) (.t 2) (.t 17), none⟩]) (.ret)) (.skip)))) (c15_k15))
theorem c15_k16_go {Q : AExit → AS → Prop} {e : AEnv} {n : Nat} {H : AHeap} : aw Tryd.prog c15_k16 Q ⟨e, n, H⟩ = aw Tryd.prog (.kp [1, 2] (.seq (.seq (.reg [⟨some 13, .faddr (.t 1) 1 none, none⟩,
    ⟨some 14, .load none (.t 13), none⟩,
    ⟨some 15, .callp 8 [(.t 14), (.c (.int .i64 1)), (.c (.int .i64 1000))], none⟩,
    ⟨some 16, .not (.t 15), none⟩]) (.kp [1, 2, 16] (.cond (.t 16) (.seq (.reg [⟨some 17, .callp 16 [(.c (.int .i64 4)), (.c (.int .i64 1))], none⟩,
    ⟨none, .store (some 2) (.t 2) (.t 17), none⟩]) (.ret)) (.skip)))) (c15_k15))) Q ⟨e, n, H⟩ := rfl
def c15 : AFun := { nargs := 1, nt := 98, res := [.cell 2 (some 2)], code := .seq (.reg [⟨some 1, .box 25 (some 8) (.t 0), none⟩,
    ⟨some 2, .alloc 27 [(.int .i64 0), (.int .i64 0)], none⟩]) (.kp [1, 2] (.seq (.seq (.reg [⟨some 8, .faddr (.t 1) 0 none, none⟩,
    ⟨some 9, .load none (.t 8), none⟩,
    ⟨some 10, .callp 8 [(.t 9), (.c (.int .i64 1)), (.c (.int .i64 4))], none⟩,
    ⟨some 11, .not (.t 10), none⟩]) (.kp [1, 2, 11] (.cond (.t 11) (.seq (.reg [⟨some 12, .callp 16 [(.c (.int .i64 5)), (.c (.int .i64 0))], none⟩,
    ⟨none, .store (some 2) (.t 2) (.t 12), none⟩]) (.ret)) (.skip)))) (c15_k16))) }
theorem cmp15 : (cFun Tryd.prog efs Tryd.f15).map (fun x => (x.nargs, x.nt, x.res, x.code)) = some (c15.nargs, c15.nt, c15.res, bare c15.code) := by kernel_rfl
def c16 : AFun := { nargs := 2, nt := 8, res := [.cell 4 (some 2)], code := .seq (.reg [⟨some 4, .alloc 27 [(.int .i64 0), (.int .i64 0)], none⟩]) (.kp [0, 1, 4] (.seq (.reg [⟨some 5, .mv (.t 0), none⟩,
    ⟨some 6, .mv (.t 1), none⟩,
    ⟨some 7, .build [(.int .i64 0), (.int .i64 0)] [(0, none, (.t 5)), (1, none, (.t 6))], none⟩,
    ⟨none, .store (some 2) (.t 4) (.t 7), none⟩]) (.ret))) }
theorem cmp16 : (cFun Tryd.prog efs Tryd.f16).map (fun x => (x.nargs, x.nt, x.res, x.code)) = some (c16.nargs, c16.nt, c16.res, bare c16.code) := by kernel_rfl
def c18_k1 : ACode := .kp [4] (.seq (.reg [⟨some 19, .build [(.int .i64 0), (.int .i64 0)] [], none⟩,
    ⟨none, .store (some 2) (.t 4) (.t 19), none⟩]) (.ret))
theorem c18_k1_go {Q : AExit → AS → Prop} {e : AEnv} {n : Nat} {H : AHeap} : aw Tryd.prog c18_k1 Q ⟨e, n, H⟩ = aw Tryd.prog (.kp [4] (.seq (.reg [⟨some 19, .build [(.int .i64 0), (.int .i64 0)] [], none⟩,
    ⟨none, .store (some 2) (.t 4) (.t 19), none⟩]) (.ret))) Q ⟨e, n, H⟩ := rfl
def c18_k2 : ACode := .kp [0, 4] (.seq (.seq (.segs [⟨none, [⟨some 12, .mv (.t 0), none⟩,
      ⟨some 13, .bin .lss (.t 12) (.c (.int .i64 1)), none⟩,
      ⟨some 14, .mv (.t 13), none⟩], none⟩,
    ⟨some (14, false), [⟨some 15, .mv (.t 0), none⟩,
      ⟨some 16, .bin .gtr (.t 15) (.c (.int .i64 3652059)), none⟩], some (17, 16)⟩]) (.kp [4, 17] (.cond (.t 17) (.seq (.reg [⟨some 18, .build [(.int .i64 0), (.int .i64 0)] [(0, none, (.c (.int .i64 4))), (1, none, (.c (.int .i64 (-1))))], none⟩,
    ⟨none, .store (some 2) (.t 4) (.t 18), none⟩]) (.ret)) (.skip)))) (c18_k1))
theorem c18_k2_go {Q : AExit → AS → Prop} {e : AEnv} {n : Nat} {H : AHeap} : aw Tryd.prog c18_k2 Q ⟨e, n, H⟩ = aw Tryd.prog (.kp [0, 4] (.seq (.seq (.segs [⟨none, [⟨some 12, .mv (.t 0), none⟩,
      ⟨some 13, .bin .lss (.t 12) (.c (.int .i64 1)), none⟩,
      ⟨some 14, .mv (.t 13), none⟩], none⟩,
    ⟨some (14, false), [⟨some 15, .mv (.t 0), none⟩,
      ⟨some 16, .bin .gtr (.t 15) (.c (.int .i64 3652059)), none⟩], some (17, 16)⟩]) (.kp [4, 17] (.cond (.t 17) (.seq (.reg [⟨some 18, .build [(.int .i64 0), (.int .i64 0)] [(0, none, (.c (.int .i64 4))), (1, none, (.c (.int .i64 (-1))))], none⟩,
    ⟨none, .store (some 2) (.t 4) (.t 18), none⟩]) (.ret)) (.skip)))) (c18_k1))) Q ⟨e, n, H⟩ := rfl
def c18 : AFun := { nargs := 2, nt := 20, res := [.cell 4 (some 2)], code := .seq (.reg [⟨some 3, .box 25 (some 8) (.t 1), none⟩,
    ⟨some 4, .alloc 27 [(.int .i64 0), (.int .i64 0)], none⟩]) (.kp [0, 3, 4] (.seq (.seq (.reg [⟨some 6, .load (some 8) (.t 3), none⟩,
    ⟨some 7, .callp 24 [(.t 6)], none⟩,
    ⟨some 5, .alloc 27 [(.int .i64 0), (.int .i64 0)], none⟩,
    ⟨none, .store (some 2) (.t 5) (.t 7), none⟩]) (.kp [0, 4, 5] (.seq (.reg [⟨some 8, .faddr (.t 5) 0 none, none⟩,
    ⟨some 9, .load none (.t 8), none⟩,
    ⟨some 10, .bin .neq (.t 9) (.c (.int .i64 0)), none⟩]) (.kp [0, 4, 5, 10] (.cond (.t 10) (.seq (.reg [⟨some 11, .load (some 2) (.t 5), none⟩,
    ⟨none, .store (some 2) (.t 4) (.t 11), none⟩]) (.ret)) (.skip)))))) (c18_k2))) }
theorem cmp18 : (cFun Tryd.prog efs Tryd.f18).map (fun x => (x.nargs, x.nt, x.res, x.code)) = some (c18.nargs, c18.nt, c18.res, bare c18.code) := by kernel_rfl
def c22 : AFun := { nargs := 1, nt := 22, res := [.cell 2 (some 6)], code := .seq (.reg [⟨some 2, .alloc 40 [(.int .i64 0), (.int .i64 0), (.int .i64 0), (.int .i64 0), (.int .i64 0), (.int .i64 0)], none⟩]) (.kp [0, 2] (.seq (.reg [⟨some 5, .mv (.t 0), none⟩,
    ⟨some 6, .bin .quo (.t 5) (.c (.int .i64 86400)), none⟩,
    ⟨some 7, .bin .add (.t 6) (.c (.int .i64 1)), none⟩,
    ⟨some 8, .callp 42 [(.t 7)], none⟩,
    ⟨some 3, .alloc 40 [(.int .i64 0), (.int .i64 0), (.int .i64 0), (.int .i64 0), (.int .i64 0), (.int .i64 0)], none⟩,
    ⟨none, .store (some 6) (.t 3) (.t 8), none⟩]) (.kp [0, 2, 3] (.seq (.reg [⟨some 9, .mv (.t 0), none⟩,
    ⟨some 10, .bin .rem (.t 9) (.c (.int .i64 86400)), none⟩,
    ⟨some 4, .mv (.t 10), none⟩]) (.kp [2, 3, 4] (.seq (.reg [⟨some 11, .mv (.t 4), none⟩,
    ⟨some 12, .bin .quo (.t 11) (.c (.int .i64 3600)), none⟩,
    ⟨some 13, .mv (.t 4), none⟩,
    ⟨some 14, .bin .quo (.t 13) (.c (.int .i64 60)), none⟩,
    ⟨some 15, .bin .rem (.t 14) (.c (.int .i64 60)), none⟩,
    ⟨some 16, .mv (.t 4), none⟩,
    ⟨some 17, .bin .rem (.t 16) (.c (.int .i64 60)), none⟩,
    ⟨some 18, .faddr (.t 3) 3 none, none⟩,
    ⟨none, .store none (.t 18) (.t 12), none⟩,
    ⟨some 19, .faddr (.t 3) 4 none, none⟩,
    ⟨none, .store none (.t 19) (.t 15), none⟩,
    ⟨some 20, .faddr (.t 3) 5 none, none⟩,
    ⟨none, .store none (.t 20) (.t 17), none⟩]) (.kp [2, 3] (.seq (.reg [⟨some 21, .load (some 6) (.t 3), none⟩,
    ⟨none, .store (some 6) (.t 2) (.t 21), none⟩]) (.ret))))))))) }
theorem cmp22 : (cFun Tryd.prog efs Tryd.f22).map (fun x => (x.nargs, x.nt, x.res, x.code)) = some (c22.nargs, c22.nt, c22.res, bare c22.code) := by kernel_rfl
def c23_k1 : ACode := .kp [] (.seq (.reg [⟨some 6, .mv (.c (.int .i64 0)), none⟩]) (.ret))
theorem c23_k1_go {Q : AExit → AS → Prop} {e : AEnv} {n : Nat} {H : AHeap} : aw Tryd.prog c23_k1 Q ⟨e, n, H⟩ = aw Tryd.prog (.kp [] (.seq (.reg [⟨some 6, .mv (.c (.int .i64 0)), none⟩]) (.ret))) Q ⟨e, n, H⟩ := rfl
def c23_k2 : ACode := .kp [0, 1, 2, 7] (.reg [⟨some 16, .mv (.t 7), none⟩,
    ⟨some 17, .bin .add (.t 16) (.c (.int .i64 1)), none⟩,
    ⟨some 7, .mv (.t 17), none⟩])
theorem c23_k2_go {Q : AExit → AS → Prop} {e : AEnv} {n : Nat} {H : AHeap} : aw Tryd.prog c23_k2 Q ⟨e, n, H⟩ = aw Tryd.prog (.kp [0, 1, 2, 7] (.reg [⟨some 16, .mv (.t 7), none⟩,
    ⟨some 17, .bin .add (.t 16) (.c (.int .i64 1)), none⟩,
    ⟨some 7, .mv (.t 17), none⟩])) Q ⟨e, n, H⟩ := rfl
def c23_k3 : ACode := .kp [0, 1, 2, 7] (.seq (.block 1 (.seq (.reg [⟨some 18, .mv (.t 0), none⟩,
    ⟨some 19, .mv (.t 7), none⟩,
    ⟨some 20, .mv (.t 1), none⟩,
    ⟨some 21, .mv (.t 2), none⟩,
    ⟨some 22, .callp 43 [(.t 18), (.t 19), (.t 20), (.t 21)], none⟩,
    ⟨some 8, .mv (.t 22), none⟩]) (.kp [0, 1, 2, 7, 8] (.seq (.reg [⟨some 23, .mv (.t 8), none⟩,
    ⟨some 24, .bin .neq (.t 23) (.c (.int .i64 0)), none⟩]) (.kp [0, 1, 2, 7, 8, 24] (.cond (.t 24) (.seq (.reg [⟨some 25, .mv (.t 8), none⟩,
    ⟨some 6, .mv (.t 25), none⟩]) (.ret)) (.skip))))))) (c23_k2))
theorem c23_k3_go {Q : AExit → AS → Prop} {e : AEnv} {n : Nat} {H : AHeap} : aw Tryd.prog c23_k3 Q ⟨e, n, H⟩ = aw Tryd.prog (.kp [0, 1, 2, 7] (.seq (.block 1 (.seq (.reg [⟨some 18, .mv (.t 0), none⟩,
    ⟨some 19, .mv (.t 7), none⟩,
    ⟨some 20, .mv (.t 1), none⟩,
    ⟨some 21, .mv (.t 2), none⟩,
    ⟨some 22, .callp 43 [(.t 18), (.t 19), (.t 20), (.t 21)], none⟩,
    ⟨some 8, .mv (.t 22), none⟩]) (.kp [0, 1, 2, 7, 8] (.seq (.reg [⟨some 23, .mv (.t 8), none⟩,
    ⟨some 24, .bin .neq (.t 23) (.c (.int .i64 0)), none⟩]) (.kp [0, 1, 2, 7, 8, 24] (.cond (.t 24) (.seq (.reg [⟨some 25, .mv (.t 8), none⟩,
    ⟨some 6, .mv (.t 25), none⟩]) (.ret)) (.skip))))))) (c23_k2))) Q ⟨e, n, H⟩ := rfl
def c23_L4 : ACode := .ke [0, 1, 2, 7] (.seq (.seq (.reg [⟨some 12, .mv (.t 7), none⟩,
    ⟨some 13, .mv (.t 0), none⟩,
    ⟨some 14, .len (.t 13), none⟩,
    ⟨some 15, .bin .lss (.t 12) (.t 14), none⟩]) (.kp [0, 1, 2, 7, 15] (.cond (.t 15) (.skip) (.exit 0)))) (c23_k3))
theorem c23_L4_go {Q : AExit → AS → Prop} {e : AEnv} {n : Nat} {H : AHeap} : aw Tryd.prog c23_L4 Q ⟨e, n, H⟩ = aw Tryd.prog (.ke [0, 1, 2, 7] (.seq (.seq (.reg [⟨some 12, .mv (.t 7), none⟩,
    ⟨some 13, .mv (.t 0), none⟩,
    ⟨some 14, .len (.t 13), none⟩,
    ⟨some 15, .bin .lss (.t 12) (.t 14), none⟩]) (.kp [0, 1, 2, 7, 15] (.cond (.t 15) (.skip) (.exit 0)))) (c23_k3))) Q ⟨e, n, H⟩ := rfl
def c23_k5 : ACode := .kp [0, 1, 2] (.seq (.seq (.reg [⟨some 7, .mv (.c (.int .i64 0)), none⟩]) (.kp [0, 1, 2, 7] (.block 0 (.kp [0, 1, 2, 7] (.loop c23_L4))))) (c23_k1))
theorem c23_k5_go {Q : AExit → AS → Prop} {e : AEnv} {n : Nat} {H : AHeap} : aw Tryd.prog c23_k5 Q ⟨e, n, H⟩ = aw Tryd.prog (.kp [0, 1, 2] (.seq (.seq (.reg [⟨some 7, .mv (.c (.int .i64 0)), none⟩]) (.kp [0, 1, 2, 7] (.block 0 (.kp [0, 1, 2, 7] (.loop c23_L4))))) (c23_k1))) Q ⟨e, n, H⟩ := rfl
def c23 : AFun := { nargs := 3, nt := 26, res := [.tmp 6], code := .seq (.reg [⟨some 6, .mv (.c (.int .i64 0)), none⟩]) (.kp [0, 1, 2] (.seq (.seq (.reg [⟨some 9, .mv (.t 0), none⟩,
    ⟨some 10, .len (.t 9), none⟩,
    ⟨some 11, .bin .gtr (.t 10) (.c (.int .i64 12)), none⟩]) (.kp [0, 1, 2, 11] (.cond (.t 11) (.seq (.reg [⟨some 6, .mv (.c (.int .i64 2)), none⟩]) (.ret)) (.skip)))) (c23_k5))) }
theorem cmp23 : (cFun Tryd.prog efs Tryd.f23).map (fun x => (x.nargs, x.nt, x.res, x.code)) = some (c23.nargs, c23.nt, c23.res, bare c23.code) := by kernel_rfl
def c42_k1 : ACode := .kp [2, 3, 4, 5] (.seq (.reg [⟨some 32, .mv (.t 3), none⟩,
    ⟨some 33, .mv (.t 5), none⟩,
    ⟨some 34, .mv (.t 4), none⟩,
    ⟨some 35, .build [(.int .i64 0), (.int .i64 0), (.int .i64 0), (.int .i64 0), (.int .i64 0), (.int .i64 0)] [(0, none, (.t 32)), (1, none, (.t 33)), (2, none, (.t 34))], none⟩,
    ⟨none, .store (some 6) (.t 2) (.t 35), none⟩]) (.ret))
theorem c42_k1_go {Q : AExit → AS → Prop} {e : AEnv} {n : Nat} {H : AHeap} : aw Tryd.prog c42_k1 Q ⟨e, n, H⟩ = aw Tryd.prog (.kp [2, 3, 4, 5] (.seq (.reg [⟨some 32, .mv (.t 3), none⟩,
    ⟨some 33, .mv (.t 5), none⟩,
    ⟨some 34, .mv (.t 4), none⟩,
    ⟨some 35, .build [(.int .i64 0), (.int .i64 0), (.int .i64 0), (.int .i64 0), (.int .i64 0), (.int .i64 0)] [(0, none, (.t 32)), (1, none, (.t 33)), (2, none, (.t 34))], none⟩,
    ⟨none, .store (some 6) (.t 2) (.t 35), none⟩]) (.ret))) Q ⟨e, n, H⟩ := rfl
def c42_k2 : ACode := .kp [2, 3, 4, 5] (.block 3 (.seq (.reg [⟨some 25, .mv (.t 4), none⟩,
    ⟨some 26, .mv (.t 3), none⟩,
    ⟨some 27, .mv (.t 5), none⟩,
    ⟨some 28, .callp 71 [(.t 26), (.t 27)], none⟩,
    ⟨some 29, .bin .sub (.t 25) (.t 28), none⟩,
    ⟨some 4, .mv (.t 29), none⟩]) (.kp [2, 3, 4, 5] (.reg [⟨some 30, .mv (.t 5), none⟩,
    ⟨some 31, .bin .add (.t 30) (.c (.int .i64 1)), none⟩,
    ⟨some 5, .mv (.t 31), none⟩]))))
theorem c42_k2_go {Q : AExit → AS → Prop} {e : AEnv} {n : Nat} {H : AHeap} : aw Tryd.prog c42_k2 Q ⟨e, n, H⟩ = aw Tryd.prog (.kp [2, 3, 4, 5] (.block 3 (.seq (.reg [⟨some 25, .mv (.t 4), none⟩,
    ⟨some 26, .mv (.t 3), none⟩,
    ⟨some 27, .mv (.t 5), none⟩,
    ⟨some 28, .callp 71 [(.t 26), (.t 27)], none⟩,
    ⟨some 29, .bin .sub (.t 25) (.t 28), none⟩,
    ⟨some 4, .mv (.t 29), none⟩]) (.kp [2, 3, 4, 5] (.reg [⟨some 30, .mv (.t 5), none⟩,
    ⟨some 31, .bin .add (.t 30) (.c (.int .i64 1)), none⟩,
    ⟨some 5, .mv (.t 31), none⟩]))))) Q ⟨e, n, H⟩ := rfl
def c42_L3 : ACode := .ke [2, 3, 4, 5] (.seq (.seq (.reg [⟨some 20, .mv (.t 4), none⟩,
    ⟨some 21, .mv (.t 3), none⟩,
    ⟨some 22, .mv (.t 5), none⟩,
    ⟨some 23, .callp 71 [(.t 21), (.t 22)], none⟩,
    ⟨some 24, .bin .gtr (.t 20) (.t 23), none⟩]) (.kp [2, 3, 4, 5, 24] (.cond (.t 24) (.skip) (.exit 2)))) (c42_k2))
theorem c42_L3_go {Q : AExit → AS → Prop} {e : AEnv} {n : Nat} {H : AHeap} : aw Tryd.prog c42_L3 Q ⟨e, n, H⟩ = aw Tryd.prog (.ke [2, 3, 4, 5] (.seq (.seq (.reg [⟨some 20, .mv (.t 4), none⟩,
    ⟨some 21, .mv (.t 3), none⟩,
    ⟨some 22, .mv (.t 5), none⟩,
    ⟨some 23, .callp 71 [(.t 21), (.t 22)], none⟩,
    ⟨some 24, .bin .gtr (.t 20) (.t 23), none⟩]) (.kp [2, 3, 4, 5, 24] (.cond (.t 24) (.skip) (.exit 2)))) (c42_k2))) Q ⟨e, n, H⟩ := rfl
def c42_k4 : ACode := .kp [0, 2, 3] (.seq (.reg [⟨some 16, .mv (.t 0), none⟩,
    ⟨some 17, .mv (.t 3), none⟩,
    ⟨some 18, .callp 70 [(.t 17)], none⟩,
    ⟨some 19, .bin .sub (.t 16) (.t 18), none⟩,
    ⟨some 4, .mv (.t 19), none⟩]) (.kp [2, 3, 4] (.seq (.reg [⟨some 5, .mv (.c (.int .i64 1)), none⟩]) (.kp [2, 3, 4, 5] (.seq (.block 2 (.kp [2, 3, 4, 5] (.loop c42_L3))) (c42_k1))))))
theorem c42_k4_go {Q : AExit → AS → Prop} {e : AEnv} {n : Nat} {H : AHeap} : aw Tryd.prog c42_k4 Q ⟨e, n, H⟩ = aw Tryd.prog (.kp [0, 2, 3] (.seq (.reg [⟨some 16, .mv (.t 0), none⟩,
    ⟨some 17, .mv (.t 3), none⟩,
    ⟨some 18, .callp 70 [(.t 17)], none⟩,
    ⟨some 19, .bin .sub (.t 16) (.t 18), none⟩,
    ⟨some 4, .mv (.t 19), none⟩]) (.kp [2, 3, 4] (.seq (.reg [⟨some 5, .mv (.c (.int .i64 1)), none⟩]) (.kp [2, 3, 4, 5] (.seq (.block 2 (.kp [2, 3, 4, 5] (.loop c42_L3))) (c42_k1))))))) Q ⟨e, n, H⟩ := rfl
def c42_k5 : ACode := .kp [0, 2, 3] (.block 1 (.reg [⟨some 14, .mv (.t 3), none⟩,
    ⟨some 15, .bin .add (.t 14) (.c (.int .i64 1)), none⟩,
    ⟨some 3, .mv (.t 15), none⟩]))
theorem c42_k5_go {Q : AExit → AS → Prop} {e : AEnv} {n : Nat} {H : AHeap} : aw Tryd.prog c42_k5 Q ⟨e, n, H⟩ = aw Tryd.prog (.kp [0, 2, 3] (.block 1 (.reg [⟨some 14, .mv (.t 3), none⟩,
    ⟨some 15, .bin .add (.t 14) (.c (.int .i64 1)), none⟩,
    ⟨some 3, .mv (.t 15), none⟩]))) Q ⟨e, n, H⟩ := rfl
def c42_L6 : ACode := .ke [0, 2, 3] (.seq (.seq (.reg [⟨some 9, .mv (.t 3), none⟩,
    ⟨some 10, .bin .add (.t 9) (.c (.int .i64 1)), none⟩,
    ⟨some 11, .callp 70 [(.t 10)], none⟩,
    ⟨some 12, .mv (.t 0), none⟩,
    ⟨some 13, .bin .lss (.t 11) (.t 12), none⟩]) (.kp [0, 2, 3, 13] (.cond (.t 13) (.skip) (.exit 0)))) (c42_k5))
theorem c42_L6_go {Q : AExit → AS → Prop} {e : AEnv} {n : Nat} {H : AHeap} : aw Tryd.prog c42_L6 Q ⟨e, n, H⟩ = aw Tryd.prog (.ke [0, 2, 3] (.seq (.seq (.reg [⟨some 9, .mv (.t 3), none⟩,
    ⟨some 10, .bin .add (.t 9) (.c (.int .i64 1)), none⟩,
    ⟨some 11, .callp 70 [(.t 10)], none⟩,
    ⟨some 12, .mv (.t 0), none⟩,
    ⟨some 13, .bin .lss (.t 11) (.t 12), none⟩]) (.kp [0, 2, 3, 13] (.cond (.t 13) (.skip) (.exit 0)))) (c42_k5))) Q ⟨e, n, H⟩ := rfl
def c42 : AFun := { nargs := 1, nt := 36, res := [.cell 2 (some 6)], code := .seq (.reg [⟨some 2, .alloc 40 [(.int .i64 0), (.int .i64 0), (.int .i64 0), (.int .i64 0), (.int .i64 0), (.int .i64 0)], none⟩]) (.kp [0, 2] (.seq (.reg [⟨some 6, .mv (.t 0), none⟩,
    ⟨some 7, .bin .quo (.t 6) (.c (.int .i64 366)), none⟩,
    ⟨some 8, .bin .add (.t 7) (.c (.int .i64 1)), none⟩,
    ⟨some 3, .mv (.t 8), none⟩]) (.kp [0, 2, 3] (.seq (.block 0 (.kp [0, 2, 3] (.loop c42_L6))) (c42_k4))))) }
theorem cmp42 : (cFun Tryd.prog efs Tryd.f42).map (fun x => (x.nargs, x.nt, x.res, x.code)) = some (c42.nargs, c42.nt, c42.res, bare c42.code) := by kernel_rfl
def c43_k1 : ACode := .kp [] (.seq (.reg [⟨some 8, .mv (.c (.int .i64 0)), none⟩]) (.ret))
theorem c43_k1_go {Q : AExit → AS → Prop} {e : AEnv} {n : Nat} {H : AHeap} : aw Tryd.prog c43_k1 Q ⟨e, n, H⟩ = aw Tryd.prog (.kp [] (.seq (.reg [⟨some 8, .mv (.c (.int .i64 0)), none⟩]) (.ret))) Q ⟨e, n, H⟩ := rfl
def c43_k2 : ACode := .kp [0, 1, 9] (.reg [⟨some 28, .mv (.t 9), none⟩,
    ⟨some 29, .bin .add (.t 28) (.c (.int .i64 1)), none⟩,
    ⟨some 9, .mv (.t 29), none⟩])
theorem c43_k2_go {Q : AExit → AS → Prop} {e : AEnv} {n : Nat} {H : AHeap} : aw Tryd.prog c43_k2 Q ⟨e, n, H⟩ = aw Tryd.prog (.kp [0, 1, 9] (.reg [⟨some 28, .mv (.t 9), none⟩,
    ⟨some 29, .bin .add (.t 28) (.c (.int .i64 1)), none⟩,
    ⟨some 9, .mv (.t 29), none⟩])) Q ⟨e, n, H⟩ := rfl
def c43_k3 : ACode := .kp [0, 1, 9] (.seq (.block 1 (.seq (.reg [⟨some 30, .mv (.t 0), none⟩,
    ⟨some 31, .mv (.t 9), none⟩,
    ⟨some 32, .iaddr 1 none (.t 30) (.t 31), none⟩,
    ⟨some 33, .load none (.t 32), none⟩,
    ⟨some 34, .mv (.t 0), none⟩,
    ⟨some 35, .mv (.t 1), none⟩,
    ⟨some 36, .iaddr 1 none (.t 34) (.t 35), none⟩,
    ⟨some 37, .load none (.t 36), none⟩,
    ⟨some 38, .bin .eql (.t 33) (.t 37), none⟩]) (.kp [0, 1, 9, 38] (.cond (.t 38) (.seq (.reg [⟨some 8, .mv (.c (.int .i64 8)), none⟩]) (.ret)) (.skip))))) (c43_k2))
theorem c43_k3_go {Q : AExit → AS → Prop} {e : AEnv} {n : Nat} {H : AHeap} : aw Tryd.prog c43_k3 Q ⟨e, n, H⟩ = aw Tryd.prog (.kp [0, 1, 9] (.seq (.block 1 (.seq (.reg [⟨some 30, .mv (.t 0), none⟩,
    ⟨some 31, .mv (.t 9), none⟩,
    ⟨some 32, .iaddr 1 none (.t 30) (.t 31), none⟩,
    ⟨some 33, .load none (.t 32), none⟩,
    ⟨some 34, .mv (.t 0), none⟩,
    ⟨some 35, .mv (.t 1), none⟩,
    ⟨some 36, .iaddr 1 none (.t 34) (.t 35), none⟩,
    ⟨some 37, .load none (.t 36), none⟩,
    ⟨some 38, .bin .eql (.t 33) (.t 37), none⟩]) (.kp [0, 1, 9, 38] (.cond (.t 38) (.seq (.reg [⟨some 8, .mv (.c (.int .i64 8)), none⟩]) (.ret)) (.skip))))) (c43_k2))) Q ⟨e, n, H⟩ := rfl
def c43_L4 : ACode := .ke [0, 1, 9] (.seq (.seq (.reg [⟨some 25, .mv (.t 9), none⟩,
    ⟨some 26, .mv (.t 1), none⟩,
    ⟨some 27, .bin .lss (.t 25) (.t 26), none⟩]) (.kp [0, 1, 9, 27] (.cond (.t 27) (.skip) (.exit 0)))) (c43_k3))
theorem c43_L4_go {Q : AExit → AS → Prop} {e : AEnv} {n : Nat} {H : AHeap} : aw Tryd.prog c43_L4 Q ⟨e, n, H⟩ = aw Tryd.prog (.ke [0, 1, 9] (.seq (.seq (.reg [⟨some 25, .mv (.t 9), none⟩,
    ⟨some 26, .mv (.t 1), none⟩,
    ⟨some 27, .bin .lss (.t 25) (.t 26), none⟩]) (.kp [0, 1, 9, 27] (.cond (.t 27) (.skip) (.exit 0)))) (c43_k3))) Q ⟨e, n, H⟩ := rfl
def c43_k5 : ACode := .kp [0, 1] (.seq (.seq (.reg [⟨some 9, .mv (.c (.int .i64 0)), none⟩]) (.kp [0, 1, 9] (.block 0 (.kp [0, 1, 9] (.loop c43_L4))))) (c43_k1))
theorem c43_k5_go {Q : AExit → AS → Prop} {e : AEnv} {n : Nat} {H : AHeap} : aw Tryd.prog c43_k5 Q ⟨e, n, H⟩ = aw Tryd.prog (.kp [0, 1] (.seq (.seq (.reg [⟨some 9, .mv (.c (.int .i64 0)), none⟩]) (.kp [0, 1, 9] (.block 0 (.kp [0, 1, 9] (.loop c43_L4))))) (c43_k1))) Q ⟨e, n, H⟩ := rfl
def c43 : AFun := { nargs := 4, nt := 39, res := [.tmp 8], code := .seq (.reg [⟨some 8, .mv (.c (.int .i64 0)), none⟩]) (.kp [0, 1, 2, 3] (.seq (.seq (.segs [⟨none, [⟨some 10, .mv (.t 0), none⟩,
      ⟨some 11, .mv (.t 1), none⟩,
      ⟨some 12, .iaddr 1 none (.t 10) (.t 11), none⟩,
      ⟨some 13, .load none (.t 12), none⟩,
      ⟨some 14, .mv (.t 2), none⟩,
      ⟨some 15, .mv (.t 3), none⟩,
      ⟨some 16, .callp 8 [(.t 13), (.t 14), (.t 15)], none⟩,
      ⟨some 17, .not (.t 16), none⟩,
      ⟨some 18, .mv (.t 17), none⟩], none⟩,
    ⟨some (18, false), [⟨some 19, .mv (.t 0), none⟩,
      ⟨some 20, .mv (.t 1), none⟩,
      ⟨some 21, .iaddr 1 none (.t 19) (.t 20), none⟩,
      ⟨some 22, .load none (.t 21), none⟩,
      ⟨some 23, .bin .eql (.t 22) (.c (.int .i64 0)), none⟩], some (24, 23)⟩]) (.kp [0, 1, 24] (.cond (.t 24) (.seq (.reg [⟨some 8, .mv (.c (.int .i64 4)), none⟩]) (.ret)) (.skip)))) (c43_k5))) }
theorem cmp43 : (cFun Tryd.prog efs Tryd.f43).map (fun x => (x.nargs, x.nt, x.res, x.code)) = some (c43.nargs, c43.nt, c43.res, bare c43.code) := by kernel_rfl
def c44_k1 : ACode := .kp [] (.seq (.reg [⟨some 1, .mv (.c (.int .i64 0)), none⟩]) (.ret))
theorem c44_k1_go {Q : AExit → AS → Prop} {e : AEnv} {n : Nat} {H : AHeap} : aw Tryd.prog c44_k1 Q ⟨e, n, H⟩ = aw Tryd.prog (.kp [] (.seq (.reg [⟨some 1, .mv (.c (.int .i64 0)), none⟩]) (.ret))) Q ⟨e, n, H⟩ := rfl
def c44 : AFun := { nargs := 1, nt := 10, res := [.tmp 1], code := .seq (.reg [⟨some 1, .mv (.c (.int .i64 0)), none⟩]) (.kp [0] (.seq (.seq (.segs [⟨none, [⟨some 2, .faddr (.t 0) 0 none, none⟩,
      ⟨some 3, .load none (.t 2), none⟩,
      ⟨some 4, .bin .lss (.t 3) (.c (.int .i64 1)), none⟩,
      ⟨some 5, .mv (.t 4), none⟩], none⟩,
    ⟨some (5, false), [⟨some 6, .faddr (.t 0) 0 none, none⟩,
      ⟨some 7, .load none (.t 6), none⟩,
      ⟨some 8, .bin .gtr (.t 7) (.c (.int .i64 4)), none⟩], some (9, 8)⟩]) (.kp [9] (.cond (.t 9) (.seq (.reg [⟨some 1, .mv (.c (.int .i64 5)), none⟩]) (.ret)) (.skip)))) (c44_k1))) }
theorem cmp44 : (cFun Tryd.prog efs Tryd.f44).map (fun x => (x.nargs, x.nt, x.res, x.code)) = some (c44.nargs, c44.nt, c44.res, bare c44.code) := by kernel_rfl
def c45 : AFun := { nargs := 1, nt := 5, res := [.tmp 1], code := .seq (.reg [⟨some 1, .mv (.c (.int .i64 0)), none⟩]) (.kp [0] (.seq (.reg [⟨some 2, .faddr (.t 0) 1 none, none⟩,
    ⟨some 3, .load none (.t 2), none⟩,
    ⟨some 4, .callp 46 [(.t 3), (.c (.int .i64 1)), (.c (.int .i64 1000))], none⟩,
    ⟨some 1, .mv (.t 4), none⟩]) (.ret))) }
theorem cmp45 : (cFun Tryd.prog efs Tryd.f45).map (fun x => (x.nargs, x.nt, x.res, x.code)) = some (c45.nargs, c45.nt, c45.res, bare c45.code) := by kernel_rfl
def c46_k1 : ACode := .kp [] (.seq (.reg [⟨some 6, .mv (.c (.int .i64 0)), none⟩]) (.ret))
theorem c46_k1_go {Q : AExit → AS → Prop} {e : AEnv} {n : Nat} {H : AHeap} : aw Tryd.prog c46_k1 Q ⟨e, n, H⟩ = aw Tryd.prog (.kp [] (.seq (.reg [⟨some 6, .mv (.c (.int .i64 0)), none⟩]) (.ret))) Q ⟨e, n, H⟩ := rfl
def c46 : AFun := { nargs := 3, nt := 15, res := [.tmp 6], code := .seq (.reg [⟨some 6, .mv (.c (.int .i64 0)), none⟩]) (.kp [0, 1, 2] (.seq (.seq (.segs [⟨none, [⟨some 7, .mv (.t 0), none⟩,
      ⟨some 8, .mv (.t 1), none⟩,
      ⟨some 9, .bin .lss (.t 7) (.t 8), none⟩,
      ⟨some 10, .mv (.t 9), none⟩], none⟩,
    ⟨some (10, false), [⟨some 11, .mv (.t 0), none⟩,
      ⟨some 12, .mv (.t 2), none⟩,
      ⟨some 13, .bin .gtr (.t 11) (.t 12), none⟩], some (14, 13)⟩]) (.kp [14] (.cond (.t 14) (.seq (.reg [⟨some 6, .mv (.c (.int .i64 4)), none⟩]) (.ret)) (.skip)))) (c46_k1))) }
theorem cmp46 : (cFun Tryd.prog efs Tryd.f46).map (fun x => (x.nargs, x.nt, x.res, x.code)) = some (c46.nargs, c46.nt, c46.res, bare c46.code) := by kernel_rfl
def c47 : AFun := { nargs := 1, nt := 5, res := [.tmp 1], code := .seq (.reg [⟨some 1, .mv (.c (.int .i64 0)), none⟩]) (.kp [0] (.seq (.reg [⟨some 2, .faddr (.t 0) 2 none, none⟩,
    ⟨some 3, .load none (.t 2), none⟩,
    ⟨some 4, .callp 48 [(.t 3), (.c (.fn 49 [] []))], none⟩,
    ⟨some 1, .mv (.t 4), none⟩]) (.ret))) }
theorem cmp47 : (cFun Tryd.prog efs Tryd.f47).map (fun x => (x.nargs, x.nt, x.res, x.code)) = some (c47.nargs, c47.nt, c47.res, bare c47.code) := by kernel_rfl
def c48_k1 : ACode := .kp [] (.seq (.reg [⟨some 4, .mv (.c (.int .i64 0)), none⟩]) (.ret))
theorem c48_k1_go {Q : AExit → AS → Prop} {e : AEnv} {n : Nat} {H : AHeap} : aw Tryd.prog c48_k1 Q ⟨e, n, H⟩ = aw Tryd.prog (.kp [] (.seq (.reg [⟨some 4, .mv (.c (.int .i64 0)), none⟩]) (.ret))) Q ⟨e, n, H⟩ := rfl
def c48_k2 : ACode := .kp [0, 1, 10, 11, 12] (.reg [⟨some 28, .bin .add (.t 12) (.c (.int .i64 1)), none⟩,
    ⟨some 12, .mv (.t 28), none⟩])
theorem c48_k2_go {Q : AExit → AS → Prop} {e : AEnv} {n : Nat} {H : AHeap} : aw Tryd.prog c48_k2 Q ⟨e, n, H⟩ = aw Tryd.prog (.kp [0, 1, 10, 11, 12] (.reg [⟨some 28, .bin .add (.t 12) (.c (.int .i64 1)), none⟩,
    ⟨some 12, .mv (.t 28), none⟩])) Q ⟨e, n, H⟩ := rfl
def c48_e3 : ACode := .kp [0, 1, 5, 6, 10, 11, 12] (.seq (.reg [⟨some 23, .mv (.t 0), none⟩,
    ⟨some 24, .mv (.t 5), none⟩,
    ⟨some 25, .cut 1 (.t 23) none (some (.t 24)), none⟩,
    ⟨some 26, .mv (.t 6), none⟩,
    ⟨some 27, .callp 66 [(.t 25), (.t 26)], none⟩,
    ⟨some 22, .mv (.t 27), none⟩]) (.kp [0, 1, 10, 11, 12, 22] (.cond (.t 22) (.seq (.reg [⟨some 4, .mv (.c (.int .i64 8)), none⟩]) (.ret)) (.skip))))
theorem c48_e3_go {Q : AExit → AS → Prop} {e : AEnv} {n : Nat} {H : AHeap} : aw Tryd.prog c48_e3 Q ⟨e, n, H⟩ = aw Tryd.prog (.kp [0, 1, 5, 6, 10, 11, 12] (.seq (.reg [⟨some 23, .mv (.t 0), none⟩,
    ⟨some 24, .mv (.t 5), none⟩,
    ⟨some 25, .cut 1 (.t 23) none (some (.t 24)), none⟩,
    ⟨some 26, .mv (.t 6), none⟩,
    ⟨some 27, .callp 66 [(.t 25), (.t 26)], none⟩,
    ⟨some 22, .mv (.t 27), none⟩]) (.kp [0, 1, 10, 11, 12, 22] (.cond (.t 22) (.seq (.reg [⟨some 4, .mv (.c (.int .i64 8)), none⟩]) (.ret)) (.skip))))) Q ⟨e, n, H⟩ := rfl
def c48_k4 : ACode := .kp [0, 1, 10, 11, 12] (.seq (.block 1 (.seq (.reg [⟨some 14, .mv (.t 12), none⟩,
    ⟨some 15, .iaddr 1 none (.t 10) (.t 12), none⟩,
    ⟨some 16, .load none (.t 15), none⟩,
    ⟨some 5, .mv (.t 14), none⟩,
    ⟨some 6, .mv (.t 16), none⟩]) (.kp [0, 1, 5, 6, 10, 11, 12] (.block 2 (.seq (.reg [⟨some 18, .mv (.t 1), none⟩,
    ⟨some 19, .mv (.t 6), none⟩,
    ⟨some 20, .callv (.t 18) [(.t 19)], none⟩,
    ⟨some 21, .not (.t 20), none⟩,
    ⟨some 17, .mv (.t 21), none⟩]) (.kp [0, 1, 5, 6, 10, 11, 12, 17] (.cond (.t 17) (.seq (.reg [⟨some 4, .mv (.c (.int .i64 4)), none⟩]) (.ret)) (c48_e3)))))))) (c48_k2))
theorem c48_k4_go {Q : AExit → AS → Prop} {e : AEnv} {n : Nat} {H : AHeap} : aw Tryd.prog c48_k4 Q ⟨e, n, H⟩ = aw Tryd.prog (.kp [0, 1, 10, 11, 12] (.seq (.block 1 (.seq (.reg [⟨some 14, .mv (.t 12), none⟩,
    ⟨some 15, .iaddr 1 none (.t 10) (.t 12), none⟩,
    ⟨some 16, .load none (.t 15), none⟩,
    ⟨some 5, .mv (.t 14), none⟩,
    ⟨some 6, .mv (.t 16), none⟩]) (.kp [0, 1, 5, 6, 10, 11, 12] (.block 2 (.seq (.reg [⟨some 18, .mv (.t 1), none⟩,
    ⟨some 19, .mv (.t 6), none⟩,
    ⟨some 20, .callv (.t 18) [(.t 19)], none⟩,
    ⟨some 21, .not (.t 20), none⟩,
    ⟨some 17, .mv (.t 21), none⟩]) (.kp [0, 1, 5, 6, 10, 11, 12, 17] (.cond (.t 17) (.seq (.reg [⟨some 4, .mv (.c (.int .i64 4)), none⟩]) (.ret)) (c48_e3)))))))) (c48_k2))) Q ⟨e, n, H⟩ := rfl
def c48_L5 : ACode := .ke [0, 1, 10, 11, 12] (.seq (.reg [⟨some 13, .bin .lss (.t 12) (.t 11), none⟩]) (.kp [0, 1, 10, 11, 12, 13] (.seq (.cond (.t 13) (.skip) (.exit 0)) (c48_k4))))
theorem c48_L5_go {Q : AExit → AS → Prop} {e : AEnv} {n : Nat} {H : AHeap} : aw Tryd.prog c48_L5 Q ⟨e, n, H⟩ = aw Tryd.prog (.ke [0, 1, 10, 11, 12] (.seq (.reg [⟨some 13, .bin .lss (.t 12) (.t 11), none⟩]) (.kp [0, 1, 10, 11, 12, 13] (.seq (.cond (.t 13) (.skip) (.exit 0)) (c48_k4))))) Q ⟨e, n, H⟩ := rfl
def c48_k6 : ACode := .kp [0, 1] (.seq (.seq (.reg [⟨some 10, .mv (.t 0), none⟩,
    ⟨some 11, .len (.t 10), none⟩,
    ⟨some 12, .mv (.c (.int .i64 0)), none⟩]) (.kp [0, 1, 10, 11, 12] (.block 0 (.kp [0, 1, 10, 11, 12] (.loop c48_L5))))) (c48_k1))
theorem c48_k6_go {Q : AExit → AS → Prop} {e : AEnv} {n : Nat} {H : AHeap} : aw Tryd.prog c48_k6 Q ⟨e, n, H⟩ = aw Tryd.prog (.kp [0, 1] (.seq (.seq (.reg [⟨some 10, .mv (.t 0), none⟩,
    ⟨some 11, .len (.t 10), none⟩,
    ⟨some 12, .mv (.c (.int .i64 0)), none⟩]) (.kp [0, 1, 10, 11, 12] (.block 0 (.kp [0, 1, 10, 11, 12] (.loop c48_L5))))) (c48_k1))) Q ⟨e, n, H⟩ := rfl
def c48 : AFun := { nargs := 2, nt := 29, res := [.tmp 4], code := .seq (.reg [⟨some 4, .mv (.c (.int .i64 0)), none⟩]) (.kp [0, 1] (.seq (.seq (.reg [⟨some 7, .mv (.t 0), none⟩,
    ⟨some 8, .len (.t 7), none⟩,
    ⟨some 9, .bin .gtr (.t 8) (.c (.int .i64 12)), none⟩]) (.kp [0, 1, 9] (.cond (.t 9) (.seq (.reg [⟨some 4, .mv (.c (.int .i64 2)), none⟩]) (.ret)) (.skip)))) (c48_k6))) }
theorem cmp48 : (cFun Tryd.prog efs Tryd.f48).map (fun x => (x.nargs, x.nt, x.res, x.code)) = some (c48.nargs, c48.nt, c48.res, bare c48.code) := by kernel_rfl
def c49 : AFun := { nargs := 1, nt := 9, res := [.tmp 2], code := .seq (.reg [⟨some 2, .mv (.c (.bool false)), none⟩]) (.kp [0] (.seq (.segs [⟨none, [⟨some 3, .mv (.t 0), none⟩,
      ⟨some 4, .bin .geq (.t 3) (.c (.int .i64 1)), none⟩,
      ⟨some 5, .mv (.t 4), none⟩], none⟩,
    ⟨some (5, true), [⟨some 6, .mv (.t 0), none⟩,
      ⟨some 7, .bin .leq (.t 6) (.c (.int .i64 12)), none⟩], some (8, 7)⟩,
    ⟨none, [⟨some 2, .mv (.t 8), none⟩], none⟩]) (.ret))) }
theorem cmp49 : (cFun Tryd.prog efs Tryd.f49).map (fun x => (x.nargs, x.nt, x.res, x.code)) = some (c49.nargs, c49.nt, c49.res, bare c49.code) := by kernel_rfl
def c50 : AFun := { nargs := 1, nt := 5, res := [.tmp 1], code := .seq (.reg [⟨some 1, .mv (.c (.int .i64 0)), none⟩]) (.kp [0] (.seq (.reg [⟨some 2, .faddr (.t 0) 3 none, none⟩,
    ⟨some 3, .load none (.t 2), none⟩,
    ⟨some 4, .callp 48 [(.t 3), (.c (.fn 51 [] []))], none⟩,
    ⟨some 1, .mv (.t 4), none⟩]) (.ret))) }
theorem cmp50 : (cFun Tryd.prog efs Tryd.f50).map (fun x => (x.nargs, x.nt, x.res, x.code)) = some (c50.nargs, c50.nt, c50.res, bare c50.code) := by kernel_rfl
def c51 : AFun := { nargs := 1, nt := 5, res := [.tmp 2], code := .seq (.reg [⟨some 2, .mv (.c (.bool false)), none⟩]) (.kp [0] (.seq (.reg [⟨some 3, .mv (.t 0), none⟩,
    ⟨some 4, .callp 52 [(.t 3), (.c (.int .i64 31))], none⟩,
    ⟨some 2, .mv (.t 4), none⟩]) (.ret))) }
theorem cmp51 : (cFun Tryd.prog efs Tryd.f51).map (fun x => (x.nargs, x.nt, x.res, x.code)) = some (c51.nargs, c51.nt, c51.res, bare c51.code) := by kernel_rfl
def c52 : AFun := { nargs := 2, nt := 18, res := [.tmp 4], code := .seq (.reg [⟨some 4, .mv (.c (.bool false)), none⟩]) (.kp [0, 1] (.seq (.segs [⟨none, [⟨some 5, .mv (.t 0), none⟩,
      ⟨some 6, .bin .neq (.t 5) (.c (.int .i64 0)), none⟩,
      ⟨some 7, .mv (.t 6), none⟩], none⟩,
    ⟨some (7, true), [⟨some 8, .mv (.t 0), none⟩,
      ⟨some 9, .mv (.t 1), none⟩,
      ⟨some 10, .neg (.t 9), none⟩,
      ⟨some 11, .bin .geq (.t 8) (.t 10), none⟩], some (12, 11)⟩,
    ⟨none, [⟨some 13, .mv (.t 12), none⟩], none⟩,
    ⟨some (13, true), [⟨some 14, .mv (.t 0), none⟩,
      ⟨some 15, .mv (.t 1), none⟩,
      ⟨some 16, .bin .leq (.t 14) (.t 15), none⟩], some (17, 16)⟩,
    ⟨none, [⟨some 4, .mv (.t 17), none⟩], none⟩]) (.ret))) }
theorem cmp52 : (cFun Tryd.prog efs Tryd.f52).map (fun x => (x.nargs, x.nt, x.res, x.code)) = some (c52.nargs, c52.nt, c52.res, bare c52.code) := by kernel_rfl
def c53 : AFun := { nargs := 1, nt := 5, res := [.tmp 1], code := .seq (.reg [⟨some 1, .mv (.c (.int .i64 0)), none⟩]) (.kp [0] (.seq (.reg [⟨some 2, .faddr (.t 0) 4 none, none⟩,
    ⟨some 3, .load none (.t 2), none⟩,
    ⟨some 4, .callp 54 [(.t 3), (.c (.fn 55 [] []))], none⟩,
    ⟨some 1, .mv (.t 4), none⟩]) (.ret))) }
theorem cmp53 : (cFun Tryd.prog efs Tryd.f53).map (fun x => (x.nargs, x.nt, x.res, x.code)) = some (c53.nargs, c53.nt, c53.res, bare c53.code) := by kernel_rfl
def c54_k1 : ACode := .kp [] (.seq (.reg [⟨some 4, .mv (.c (.int .i64 0)), none⟩]) (.ret))
theorem c54_k1_go {Q : AExit → AS → Prop} {e : AEnv} {n : Nat} {H : AHeap} : aw Tryd.prog c54_k1 Q ⟨e, n, H⟩ = aw Tryd.prog (.kp [] (.seq (.reg [⟨some 4, .mv (.c (.int .i64 0)), none⟩]) (.ret))) Q ⟨e, n, H⟩ := rfl
def c54_k2 : ACode := .kp [0, 1, 10, 11, 12] (.reg [⟨some 28, .bin .add (.t 12) (.c (.int .i64 1)), none⟩,
    ⟨some 12, .mv (.t 28), none⟩])
theorem c54_k2_go {Q : AExit → AS → Prop} {e : AEnv} {n : Nat} {H : AHeap} : aw Tryd.prog c54_k2 Q ⟨e, n, H⟩ = aw Tryd.prog (.kp [0, 1, 10, 11, 12] (.reg [⟨some 28, .bin .add (.t 12) (.c (.int .i64 1)), none⟩,
    ⟨some 12, .mv (.t 28), none⟩])) Q ⟨e, n, H⟩ := rfl
def c54_e3 : ACode := .kp [0, 1, 5, 6, 10, 11, 12] (.seq (.reg [⟨some 23, .mv (.t 0), none⟩,
    ⟨some 24, .mv (.t 5), none⟩,
    ⟨some 25, .cut 2 (.t 23) none (some (.t 24)), none⟩,
    ⟨some 26, .load (some 2) (.t 6), none⟩,
    ⟨some 27, .callp 72 [(.t 25), (.t 26)], none⟩,
    ⟨some 22, .mv (.t 27), none⟩]) (.kp [0, 1, 10, 11, 12, 22] (.cond (.t 22) (.seq (.reg [⟨some 4, .mv (.c (.int .i64 8)), none⟩]) (.ret)) (.skip))))
theorem c54_e3_go {Q : AExit → AS → Prop} {e : AEnv} {n : Nat} {H : AHeap} : aw Tryd.prog c54_e3 Q ⟨e, n, H⟩ = aw Tryd.prog (.kp [0, 1, 5, 6, 10, 11, 12] (.seq (.reg [⟨some 23, .mv (.t 0), none⟩,
    ⟨some 24, .mv (.t 5), none⟩,
    ⟨some 25, .cut 2 (.t 23) none (some (.t 24)), none⟩,
    ⟨some 26, .load (some 2) (.t 6), none⟩,
    ⟨some 27, .callp 72 [(.t 25), (.t 26)], none⟩,
    ⟨some 22, .mv (.t 27), none⟩]) (.kp [0, 1, 10, 11, 12, 22] (.cond (.t 22) (.seq (.reg [⟨some 4, .mv (.c (.int .i64 8)), none⟩]) (.ret)) (.skip))))) Q ⟨e, n, H⟩ := rfl
def c54_k4 : ACode := .kp [0, 1, 10, 11, 12] (.seq (.block 1 (.seq (.reg [⟨some 14, .mv (.t 12), none⟩,
    ⟨some 15, .iaddr 2 (some 2) (.t 10) (.t 12), none⟩,
    ⟨some 16, .load (some 2) (.t 15), none⟩,
    ⟨some 6, .alloc 54 [(.int .i64 0), (.int .i64 0)], none⟩,
    ⟨some 5, .mv (.t 14), none⟩,
    ⟨none, .store (some 2) (.t 6) (.t 16), none⟩]) (.kp [0, 1, 5, 6, 10, 11, 12] (.block 2 (.seq (.reg [⟨some 18, .mv (.t 1), none⟩,
    ⟨some 19, .load (some 2) (.t 6), none⟩,
    ⟨some 20, .callv (.t 18) [(.t 19)], none⟩,
    ⟨some 21, .not (.t 20), none⟩,
    ⟨some 17, .mv (.t 21), none⟩]) (.kp [0, 1, 5, 6, 10, 11, 12, 17] (.cond (.t 17) (.seq (.reg [⟨some 4, .mv (.c (.int .i64 4)), none⟩]) (.ret)) (c54_e3)))))))) (c54_k2))
theorem c54_k4_go {Q : AExit → AS → Prop} {e : AEnv} {n : Nat} {H : AHeap} : aw Tryd.prog c54_k4 Q ⟨e, n, H⟩ = aw Tryd.prog (.kp [0, 1, 10, 11, 12] (.seq (.block 1 (.seq (.reg [⟨some 14, .mv (.t 12), none⟩,
    ⟨some 15, .iaddr 2 (some 2) (.t 10) (.t 12), none⟩,
    ⟨some 16, .load (some 2) (.t 15), none⟩,
    ⟨some 6, .alloc 54 [(.int .i64 0), (.int .i64 0)], none⟩,
    ⟨some 5, .mv (.t 14), none⟩,
    ⟨none, .store (some 2) (.t 6) (.t 16), none⟩]) (.kp [0, 1, 5, 6, 10, 11, 12] (.block 2 (.seq (.reg [⟨some 18, .mv (.t 1), none⟩,
    ⟨some 19, .load (some 2) (.t 6), none⟩,
    ⟨some 20, .callv (.t 18) [(.t 19)], none⟩,
    ⟨some 21, .not (.t 20), none⟩,
    ⟨some 17, .mv (.t 21), none⟩]) (.kp [0, 1, 5, 6, 10, 11, 12, 17] (.cond (.t 17) (.seq (.reg [⟨some 4, .mv (.c (.int .i64 4)), none⟩]) (.ret)) (c54_e3)))))))) (c54_k2))) Q ⟨e, n, H⟩ := rfl
def c54_L5 : ACode := .ke [0, 1, 10, 11, 12] (.seq (.reg [⟨some 13, .bin .lss (.t 12) (.t 11), none⟩]) (.kp [0, 1, 10, 11, 12, 13] (.seq (.cond (.t 13) (.skip) (.exit 0)) (c54_k4))))
theorem c54_L5_go {Q : AExit → AS → Prop} {e : AEnv} {n : Nat} {H : AHeap} : aw Tryd.prog c54_L5 Q ⟨e, n, H⟩ = aw Tryd.prog (.ke [0, 1, 10, 11, 12] (.seq (.reg [⟨some 13, .bin .lss (.t 12) (.t 11), none⟩]) (.kp [0, 1, 10, 11, 12, 13] (.seq (.cond (.t 13) (.skip) (.exit 0)) (c54_k4))))) Q ⟨e, n, H⟩ := rfl
def c54_k6 : ACode := .kp [0, 1] (.seq (.seq (.reg [⟨some 10, .mv (.t 0), none⟩,
    ⟨some 11, .len (.t 10), none⟩,
    ⟨some 12, .mv (.c (.int .i64 0)), none⟩]) (.kp [0, 1, 10, 11, 12] (.block 0 (.kp [0, 1, 10, 11, 12] (.loop c54_L5))))) (c54_k1))
theorem c54_k6_go {Q : AExit → AS → Prop} {e : AEnv} {n : Nat} {H : AHeap} : aw Tryd.prog c54_k6 Q ⟨e, n, H⟩ = aw Tryd.prog (.kp [0, 1] (.seq (.seq (.reg [⟨some 10, .mv (.t 0), none⟩,
    ⟨some 11, .len (.t 10), none⟩,
    ⟨some 12, .mv (.c (.int .i64 0)), none⟩]) (.kp [0, 1, 10, 11, 12] (.block 0 (.kp [0, 1, 10, 11, 12] (.loop c54_L5))))) (c54_k1))) Q ⟨e, n, H⟩ := rfl
def c54 : AFun := { nargs := 2, nt := 29, res := [.tmp 4], code := .seq (.reg [⟨some 4, .mv (.c (.int .i64 0)), none⟩]) (.kp [0, 1] (.seq (.seq (.reg [⟨some 7, .mv (.t 0), none⟩,
    ⟨some 8, .len (.t 7), none⟩,
    ⟨some 9, .bin .gtr (.t 8) (.c (.int .i64 12)), none⟩]) (.kp [0, 1, 9] (.cond (.t 9) (.seq (.reg [⟨some 4, .mv (.c (.int .i64 2)), none⟩]) (.ret)) (.skip)))) (c54_k6))) }
theorem cmp54 : (cFun Tryd.prog efs Tryd.f54).map (fun x => (x.nargs, x.nt, x.res, x.code)) = some (c54.nargs, c54.nt, c54.res, bare c54.code) := by kernel_rfl
def c55 : AFun := { nargs := 1, nt := 21, res := [.tmp 2], code := .seq (.reg [⟨some 1, .box 54 (some 2) (.t 0), none⟩,
    ⟨some 2, .mv (.c (.bool false)), none⟩]) (.kp [1] (.seq (.segs [⟨none, [⟨some 3, .faddr (.t 1) 0 none, none⟩,
      ⟨some 4, .load none (.t 3), none⟩,
      ⟨some 5, .bin .geq (.t 4) (.c (.int .i64 0)), none⟩,
      ⟨some 6, .mv (.t 5), none⟩], none⟩,
    ⟨some (6, true), [⟨some 7, .faddr (.t 1) 0 none, none⟩,
      ⟨some 8, .load none (.t 7), none⟩,
      ⟨some 9, .bin .leq (.t 8) (.c (.int .i64 6)), none⟩], some (10, 9)⟩,
    ⟨none, [⟨some 11, .mv (.t 10), none⟩], none⟩,
    ⟨some (11, true), [⟨some 12, .faddr (.t 1) 1 none, none⟩,
      ⟨some 13, .load none (.t 12), none⟩,
      ⟨some 14, .bin .geq (.t 13) (.c (.int .i64 (-5))), none⟩], some (15, 14)⟩,
    ⟨none, [⟨some 16, .mv (.t 15), none⟩], none⟩,
    ⟨some (16, true), [⟨some 17, .faddr (.t 1) 1 none, none⟩,
      ⟨some 18, .load none (.t 17), none⟩,
      ⟨some 19, .bin .leq (.t 18) (.c (.int .i64 5)), none⟩], some (20, 19)⟩,
    ⟨none, [⟨some 2, .mv (.t 20), none⟩], none⟩]) (.ret))) }
theorem cmp55 : (cFun Tryd.prog efs Tryd.f55).map (fun x => (x.nargs, x.nt, x.res, x.code)) = some (c55.nargs, c55.nt, c55.res, bare c55.code) := by kernel_rfl
def c56 : AFun := { nargs := 1, nt := 5, res := [.tmp 1], code := .seq (.reg [⟨some 1, .mv (.c (.int .i64 0)), none⟩]) (.kp [0] (.seq (.reg [⟨some 2, .faddr (.t 0) 5 none, none⟩,
    ⟨some 3, .load none (.t 2), none⟩,
    ⟨some 4, .callp 48 [(.t 3), (.c (.fn 57 [] []))], none⟩,
    ⟨some 1, .mv (.t 4), none⟩]) (.ret))) }
theorem cmp56 : (cFun Tryd.prog efs Tryd.f56).map (fun x => (x.nargs, x.nt, x.res, x.code)) = some (c56.nargs, c56.nt, c56.res, bare c56.code) := by kernel_rfl
def c57 : AFun := { nargs := 1, nt := 5, res := [.tmp 2], code := .seq (.reg [⟨some 2, .mv (.c (.bool false)), none⟩]) (.kp [0] (.seq (.reg [⟨some 3, .mv (.t 0), none⟩,
    ⟨some 4, .callp 52 [(.t 3), (.c (.int .i64 366))], none⟩,
    ⟨some 2, .mv (.t 4), none⟩]) (.ret))) }
theorem cmp57 : (cFun Tryd.prog efs Tryd.f57).map (fun x => (x.nargs, x.nt, x.res, x.code)) = some (c57.nargs, c57.nt, c57.res, bare c57.code) := by kernel_rfl
def c58 : AFun := { nargs := 1, nt := 5, res := [.tmp 1], code := .seq (.reg [⟨some 1, .mv (.c (.int .i64 0)), none⟩]) (.kp [0] (.seq (.reg [⟨some 2, .faddr (.t 0) 6 none, none⟩,
    ⟨some 3, .load none (.t 2), none⟩,
    ⟨some 4, .callp 46 [(.t 3), (.c (.int .i64 0)), (.c (.int .i64 20001))], none⟩,
    ⟨some 1, .mv (.t 4), none⟩]) (.ret))) }
theorem cmp58 : (cFun Tryd.prog efs Tryd.f58).map (fun x => (x.nargs, x.nt, x.res, x.code)) = some (c58.nargs, c58.nt, c58.res, bare c58.code) := by kernel_rfl
def c59 : AFun := { nargs := 1, nt := 5, res := [.tmp 1], code := .seq (.reg [⟨some 1, .mv (.c (.int .i64 0)), none⟩]) (.kp [0] (.seq (.reg [⟨some 2, .faddr (.t 0) 7 none, none⟩,
    ⟨some 3, .load none (.t 2), none⟩,
    ⟨some 4, .callp 46 [(.t 3), (.c (.int .i64 0)), (.c (.int .i64 3652059))], none⟩,
    ⟨some 1, .mv (.t 4), none⟩]) (.ret))) }
theorem cmp59 : (cFun Tryd.prog efs Tryd.f59).map (fun x => (x.nargs, x.nt, x.res, x.code)) = some (c59.nargs, c59.nt, c59.res, bare c59.code) := by kernel_rfl
def c66 : AFun := { nargs := 2, nt := 9, res := [.tmp 4], code := .seq (.reg [⟨some 4, .mv (.c (.bool false)), none⟩]) (.kp [0, 1] (.seq (.reg [⟨some 5, .mv (.t 0), none⟩,
    ⟨some 6, .mv (.t 1), none⟩,
    ⟨some 7, .callp 78 [(.t 5), (.t 6)], none⟩,
    ⟨some 8, .bin .geq (.t 7) (.c (.int .i64 0)), none⟩,
    ⟨some 4, .mv (.t 8), none⟩]) (.ret))) }
theorem cmp66 : (cFun Tryd.prog efs Tryd.f66).map (fun x => (x.nargs, x.nt, x.res, x.code)) = some (c66.nargs, c66.nt, c66.res, bare c66.code) := by kernel_rfl
def c67_k1 : ACode := .kp [1, 3] (.seq (.reg [⟨some 11, .load (some 6) (.t 1), none⟩,
    ⟨some 12, .callp 80 [(.t 11)], none⟩,
    ⟨some 13, .build [(.int .i64 0), (.int .i64 0)] [], none⟩,
    ⟨some 2, .mv (.t 12), none⟩,
    ⟨none, .store (some 2) (.t 3) (.t 13), none⟩]) (.ret))
theorem c67_k1_go {Q : AExit → AS → Prop} {e : AEnv} {n : Nat} {H : AHeap} : aw Tryd.prog c67_k1 Q ⟨e, n, H⟩ = aw Tryd.prog (.kp [1, 3] (.seq (.reg [⟨some 11, .load (some 6) (.t 1), none⟩,
    ⟨some 12, .callp 80 [(.t 11)], none⟩,
    ⟨some 13, .build [(.int .i64 0), (.int .i64 0)] [], none⟩,
    ⟨some 2, .mv (.t 12), none⟩,
    ⟨none, .store (some 2) (.t 3) (.t 13), none⟩]) (.ret))) Q ⟨e, n, H⟩ := rfl
def c67 : AFun := { nargs := 1, nt := 14, res := [.tmp 2, .cell 3 (some 2)], code := .seq (.reg [⟨some 1, .box 40 (some 6) (.t 0), none⟩,
    ⟨some 2, .mv (.c (.int .i64 0)), none⟩,
    ⟨some 3, .alloc 27 [(.int .i64 0), (.int .i64 0)], none⟩]) (.kp [1, 3] (.seq (.seq (.reg [⟨some 5, .load (some 6) (.t 1), none⟩,
    ⟨some 6, .callp 79 [(.t 5)], none⟩,
    ⟨some 4, .alloc 27 [(.int .i64 0), (.int .i64 0)], none⟩,
    ⟨none, .store (some 2) (.t 4) (.t 6), none⟩]) (.kp [1, 3, 4] (.seq (.reg [⟨some 7, .faddr (.t 4) 0 none, none⟩,
    ⟨some 8, .load none (.t 7), none⟩,
    ⟨some 9, .bin .neq (.t 8) (.c (.int .i64 0)), none⟩]) (.kp [1, 3, 4, 9] (.cond (.t 9) (.seq (.reg [⟨some 10, .load (some 2) (.t 4), none⟩,
    ⟨some 2, .mv (.c (.int .i64 0)), none⟩,
    ⟨none, .store (some 2) (.t 3) (.t 10), none⟩]) (.ret)) (.skip)))))) (c67_k1))) }
theorem cmp67 : (cFun Tryd.prog efs Tryd.f67).map (fun x => (x.nargs, x.nt, x.res, x.code)) = some (c67.nargs, c67.nt, c67.res, bare c67.code) := by kernel_rfl
def c70 : AFun := { nargs := 1, nt := 17, res := [.tmp 2], code := .seq (.reg [⟨some 2, .mv (.c (.int .i64 0)), none⟩]) (.kp [0] (.seq (.reg [⟨some 4, .mv (.t 0), none⟩,
    ⟨some 5, .bin .sub (.t 4) (.c (.int .i64 1)), none⟩,
    ⟨some 3, .mv (.t 5), none⟩]) (.kp [3] (.seq (.reg [⟨some 6, .mv (.t 3), none⟩,
    ⟨some 7, .bin .mul (.c (.int .i64 365)) (.t 6), none⟩,
    ⟨some 8, .mv (.t 3), none⟩,
    ⟨some 9, .bin .quo (.t 8) (.c (.int .i64 4)), none⟩,
    ⟨some 10, .bin .add (.t 7) (.t 9), none⟩,
    ⟨some 11, .mv (.t 3), none⟩,
    ⟨some 12, .bin .quo (.t 11) (.c (.int .i64 100)), none⟩,
    ⟨some 13, .bin .sub (.t 10) (.t 12), none⟩,
    ⟨some 14, .mv (.t 3), none⟩,
    ⟨some 15, .bin .quo (.t 14) (.c (.int .i64 400)), none⟩,
    ⟨some 16, .bin .add (.t 13) (.t 15), none⟩,
    ⟨some 2, .mv (.t 16), none⟩]) (.ret))))) }
theorem cmp70 : (cFun Tryd.prog efs Tryd.f70).map (fun x => (x.nargs, x.nt, x.res, x.code)) = some (c70.nargs, c70.nt, c70.res, bare c70.code) := by kernel_rfl
def c71_k1 : ACode := .kp [] (.seq (.reg [⟨some 4, .mv (.c (.int .i64 31)), none⟩]) (.ret))
theorem c71_k1_go {Q : AExit → AS → Prop} {e : AEnv} {n : Nat} {H : AHeap} : aw Tryd.prog c71_k1 Q ⟨e, n, H⟩ = aw Tryd.prog (.kp [] (.seq (.reg [⟨some 4, .mv (.c (.int .i64 31)), none⟩]) (.ret))) Q ⟨e, n, H⟩ := rfl
def c71_k2 : ACode := .kp [] (.seq (.reg [⟨some 4, .mv (.c (.int .i64 28)), none⟩]) (.ret))
theorem c71_k2_go {Q : AExit → AS → Prop} {e : AEnv} {n : Nat} {H : AHeap} : aw Tryd.prog c71_k2 Q ⟨e, n, H⟩ = aw Tryd.prog (.kp [] (.seq (.reg [⟨some 4, .mv (.c (.int .i64 28)), none⟩]) (.ret))) Q ⟨e, n, H⟩ := rfl
def c71_k3 : ACode := .kp [10] (.cond (.t 10) (.seq (.reg [⟨some 4, .mv (.c (.int .i64 30)), none⟩]) (.ret)) (.skip))
theorem c71_k3_go {Q : AExit → AS → Prop} {e : AEnv} {n : Nat} {H : AHeap} : aw Tryd.prog c71_k3 Q ⟨e, n, H⟩ = aw Tryd.prog (.kp [10] (.cond (.t 10) (.seq (.reg [⟨some 4, .mv (.c (.int .i64 30)), none⟩]) (.ret)) (.skip))) Q ⟨e, n, H⟩ := rfl
def c71_e4 : ACode := .kp [5] (.seq (.reg [⟨some 13, .bin .eql (.t 5) (.c (.int .i64 9)), none⟩,
    ⟨some 10, .mv (.t 13), none⟩]) (.kp [5, 10] (.cond (.t 10) (.skip) (.reg [⟨some 14, .bin .eql (.t 5) (.c (.int .i64 11)), none⟩,
    ⟨some 10, .mv (.t 14), none⟩]))))
theorem c71_e4_go {Q : AExit → AS → Prop} {e : AEnv} {n : Nat} {H : AHeap} : aw Tryd.prog c71_e4 Q ⟨e, n, H⟩ = aw Tryd.prog (.kp [5] (.seq (.reg [⟨some 13, .bin .eql (.t 5) (.c (.int .i64 9)), none⟩,
    ⟨some 10, .mv (.t 13), none⟩]) (.kp [5, 10] (.cond (.t 10) (.skip) (.reg [⟨some 14, .bin .eql (.t 5) (.c (.int .i64 11)), none⟩,
    ⟨some 10, .mv (.t 14), none⟩]))))) Q ⟨e, n, H⟩ := rfl
def c71_e5 : ACode := .kp [5] (.seq (.reg [⟨some 12, .bin .eql (.t 5) (.c (.int .i64 6)), none⟩,
    ⟨some 10, .mv (.t 12), none⟩]) (.kp [5, 10] (.cond (.t 10) (.skip) (c71_e4))))
theorem c71_e5_go {Q : AExit → AS → Prop} {e : AEnv} {n : Nat} {H : AHeap} : aw Tryd.prog c71_e5 Q ⟨e, n, H⟩ = aw Tryd.prog (.kp [5] (.seq (.reg [⟨some 12, .bin .eql (.t 5) (.c (.int .i64 6)), none⟩,
    ⟨some 10, .mv (.t 12), none⟩]) (.kp [5, 10] (.cond (.t 10) (.skip) (c71_e4))))) Q ⟨e, n, H⟩ := rfl
def c71_t6 : ACode := .kp [0] (.seq (.seq (.reg [⟨some 8, .mv (.t 0), none⟩,
    ⟨some 9, .callp 82 [(.t 8)], none⟩]) (.kp [9] (.cond (.t 9) (.seq (.reg [⟨some 4, .mv (.c (.int .i64 29)), none⟩]) (.ret)) (.skip)))) (c71_k2))
theorem c71_t6_go {Q : AExit → AS → Prop} {e : AEnv} {n : Nat} {H : AHeap} : aw Tryd.prog c71_t6 Q ⟨e, n, H⟩ = aw Tryd.prog (.kp [0] (.seq (.seq (.reg [⟨some 8, .mv (.t 0), none⟩,
    ⟨some 9, .callp 82 [(.t 8)], none⟩]) (.kp [9] (.cond (.t 9) (.seq (.reg [⟨some 4, .mv (.c (.int .i64 29)), none⟩]) (.ret)) (.skip)))) (c71_k2))) Q ⟨e, n, H⟩ := rfl
def c71_e7 : ACode := .kp [5] (.seq (.seq (.reg [⟨some 11, .bin .eql (.t 5) (.c (.int .i64 4)), none⟩,
    ⟨some 10, .mv (.t 11), none⟩]) (.kp [5, 10] (.cond (.t 10) (.skip) (c71_e5)))) (c71_k3))
theorem c71_e7_go {Q : AExit → AS → Prop} {e : AEnv} {n : Nat} {H : AHeap} : aw Tryd.prog c71_e7 Q ⟨e, n, H⟩ = aw Tryd.prog (.kp [5] (.seq (.seq (.reg [⟨some 11, .bin .eql (.t 5) (.c (.int .i64 4)), none⟩,
    ⟨some 10, .mv (.t 11), none⟩]) (.kp [5, 10] (.cond (.t 10) (.skip) (c71_e5)))) (c71_k3))) Q ⟨e, n, H⟩ := rfl
def c71 : AFun := { nargs := 2, nt := 15, res := [.tmp 4], code := .seq (.reg [⟨some 4, .mv (.c (.int .i64 0)), none⟩]) (.kp [0, 1] (.seq (.seq (.reg [⟨some 5, .mv (.t 1), none⟩]) (.kp [0, 5] (.block 0 (.seq (.reg [⟨some 7, .bin .eql (.t 5) (.c (.int .i64 2)), none⟩,
    ⟨some 6, .mv (.t 7), none⟩]) (.kp [0, 5, 6] (.cond (.t 6) (c71_t6) (c71_e7))))))) (c71_k1))) }
theorem cmp71 : (cFun Tryd.prog efs Tryd.f71).map (fun x => (x.nargs, x.nt, x.res, x.code)) = some (c71.nargs, c71.nt, c71.res, bare c71.code) := by kernel_rfl
def c72 : AFun := { nargs := 2, nt := 9, res := [.tmp 4], code := .seq (.reg [⟨some 3, .box 54 (some 2) (.t 1), none⟩,
    ⟨some 4, .mv (.c (.bool false)), none⟩]) (.kp [0, 3] (.seq (.reg [⟨some 5, .mv (.t 0), none⟩,
    ⟨some 6, .load (some 2) (.t 3), none⟩,
    ⟨some 7, .callp 83 [(.t 5), (.t 6)], none⟩,
    ⟨some 8, .bin .geq (.t 7) (.c (.int .i64 0)), none⟩,
    ⟨some 4, .mv (.t 8), none⟩]) (.ret))) }
theorem cmp72 : (cFun Tryd.prog efs Tryd.f72).map (fun x => (x.nargs, x.nt, x.res, x.code)) = some (c72.nargs, c72.nt, c72.res, bare c72.code) := by kernel_rfl
def c78_k1 : ACode := .kp [] (.seq (.reg [⟨some 4, .mv (.c (.int .i64 (-1))), none⟩]) (.ret))
theorem c78_k1_go {Q : AExit → AS → Prop} {e : AEnv} {n : Nat} {H : AHeap} : aw Tryd.prog c78_k1 Q ⟨e, n, H⟩ = aw Tryd.prog (.kp [] (.seq (.reg [⟨some 4, .mv (.c (.int .i64 (-1))), none⟩]) (.ret))) Q ⟨e, n, H⟩ := rfl
def c78_k2 : ACode := .kp [0, 1, 7, 8] (.reg [⟨some 18, .bin .add (.t 8) (.c (.int .i64 1)), none⟩,
    ⟨some 8, .mv (.t 18), none⟩])
theorem c78_k2_go {Q : AExit → AS → Prop} {e : AEnv} {n : Nat} {H : AHeap} : aw Tryd.prog c78_k2 Q ⟨e, n, H⟩ = aw Tryd.prog (.kp [0, 1, 7, 8] (.reg [⟨some 18, .bin .add (.t 8) (.c (.int .i64 1)), none⟩,
    ⟨some 8, .mv (.t 18), none⟩])) Q ⟨e, n, H⟩ := rfl
def c78_k3 : ACode := .kp [0, 1, 7, 8] (.seq (.block 1 (.seq (.reg [⟨some 10, .mv (.t 8), none⟩,
    ⟨some 5, .mv (.t 10), none⟩]) (.kp [0, 1, 5, 7, 8] (.seq (.reg [⟨some 11, .mv (.t 1), none⟩,
    ⟨some 12, .mv (.t 0), none⟩,
    ⟨some 13, .mv (.t 5), none⟩,
    ⟨some 14, .iaddr 1 none (.t 12) (.t 13), none⟩,
    ⟨some 15, .load none (.t 14), none⟩,
    ⟨some 16, .bin .eql (.t 11) (.t 15), none⟩]) (.kp [0, 1, 5, 7, 8, 16] (.cond (.t 16) (.seq (.reg [⟨some 17, .mv (.t 5), none⟩,
    ⟨some 4, .mv (.t 17), none⟩]) (.ret)) (.skip))))))) (c78_k2))
theorem c78_k3_go {Q : AExit → AS → Prop} {e : AEnv} {n : Nat} {H : AHeap} : aw Tryd.prog c78_k3 Q ⟨e, n, H⟩ = aw Tryd.prog (.kp [0, 1, 7, 8] (.seq (.block 1 (.seq (.reg [⟨some 10, .mv (.t 8), none⟩,
    ⟨some 5, .mv (.t 10), none⟩]) (.kp [0, 1, 5, 7, 8] (.seq (.reg [⟨some 11, .mv (.t 1), none⟩,
    ⟨some 12, .mv (.t 0), none⟩,
    ⟨some 13, .mv (.t 5), none⟩,
    ⟨some 14, .iaddr 1 none (.t 12) (.t 13), none⟩,
    ⟨some 15, .load none (.t 14), none⟩,
    ⟨some 16, .bin .eql (.t 11) (.t 15), none⟩]) (.kp [0, 1, 5, 7, 8, 16] (.cond (.t 16) (.seq (.reg [⟨some 17, .mv (.t 5), none⟩,
    ⟨some 4, .mv (.t 17), none⟩]) (.ret)) (.skip))))))) (c78_k2))) Q ⟨e, n, H⟩ := rfl
def c78_L4 : ACode := .ke [0, 1, 7, 8] (.seq (.reg [⟨some 9, .bin .lss (.t 8) (.t 7), none⟩]) (.kp [0, 1, 7, 8, 9] (.seq (.cond (.t 9) (.skip) (.exit 0)) (c78_k3))))
theorem c78_L4_go {Q : AExit → AS → Prop} {e : AEnv} {n : Nat} {H : AHeap} : aw Tryd.prog c78_L4 Q ⟨e, n, H⟩ = aw Tryd.prog (.ke [0, 1, 7, 8] (.seq (.reg [⟨some 9, .bin .lss (.t 8) (.t 7), none⟩]) (.kp [0, 1, 7, 8, 9] (.seq (.cond (.t 9) (.skip) (.exit 0)) (c78_k3))))) Q ⟨e, n, H⟩ := rfl
def c78 : AFun := { nargs := 2, nt := 19, res := [.tmp 4], code := .seq (.reg [⟨some 4, .mv (.c (.int .i64 0)), none⟩]) (.kp [0, 1] (.seq (.seq (.reg [⟨some 6, .mv (.t 0), none⟩,
    ⟨some 7, .len (.t 6), none⟩,
    ⟨some 8, .mv (.c (.int .i64 0)), none⟩]) (.kp [0, 1, 7, 8] (.block 0 (.kp [0, 1, 7, 8] (.loop c78_L4))))) (c78_k1))) }
theorem cmp78 : (cFun Tryd.prog efs Tryd.f78).map (fun x => (x.nargs, x.nt, x.res, x.code)) = some (c78.nargs, c78.nt, c78.res, bare c78.code) := by kernel_rfl
def c79_k1 : ACode := .kp [2] (.seq (.reg [⟨some 53, .build [(.int .i64 0), (.int .i64 0)] [], none⟩,
    ⟨none, .store (some 2) (.t 2) (.t 53), none⟩]) (.ret))
theorem c79_k1_go {Q : AExit → AS → Prop} {e : AEnv} {n : Nat} {H : AHeap} : aw Tryd.prog c79_k1 Q ⟨e, n, H⟩ = aw Tryd.prog (.kp [2] (.seq (.reg [⟨some 53, .build [(.int .i64 0), (.int .i64 0)] [], none⟩,
    ⟨none, .store (some 2) (.t 2) (.t 53), none⟩]) (.ret))) Q ⟨e, n, H⟩ := rfl
def c79_k2 : ACode := .kp [1, 2, 25, 26] (.reg [⟨some 52, .bin .add (.t 26) (.c (.int .i64 1)), none⟩,
    ⟨some 26, .mv (.t 52), none⟩])
theorem c79_k2_go {Q : AExit → AS → Prop} {e : AEnv} {n : Nat} {H : AHeap} : aw Tryd.prog c79_k2 Q ⟨e, n, H⟩ = aw Tryd.prog (.kp [1, 2, 25, 26] (.reg [⟨some 52, .bin .add (.t 26) (.c (.int .i64 1)), none⟩,
    ⟨some 26, .mv (.t 52), none⟩])) Q ⟨e, n, H⟩ := rfl
def c79_k3 : ACode := .kp [1, 2, 4, 5, 25, 26] (.seq (.segs [⟨none, [⟨some 38, .faddr (.t 5) 0 none, none⟩,
      ⟨some 39, .load none (.t 38), none⟩,
      ⟨some 40, .faddr (.t 5) 1 none, none⟩,
      ⟨some 41, .load none (.t 40), none⟩,
      ⟨some 42, .bin .lss (.t 39) (.t 41), none⟩,
      ⟨some 43, .mv (.t 42), none⟩], none⟩,
    ⟨some (43, false), [⟨some 44, .faddr (.t 5) 0 none, none⟩,
      ⟨some 45, .load none (.t 44), none⟩,
      ⟨some 46, .faddr (.t 5) 2 none, none⟩,
      ⟨some 47, .load none (.t 46), none⟩,
      ⟨some 48, .bin .gtr (.t 45) (.t 47), none⟩], some (49, 48)⟩]) (.kp [1, 2, 4, 25, 26, 49] (.cond (.t 49) (.seq (.reg [⟨some 50, .mv (.t 4), none⟩,
    ⟨some 51, .build [(.int .i64 0), (.int .i64 0)] [(0, none, (.c (.int .i64 4))), (1, none, (.t 50))], none⟩,
    ⟨none, .store (some 2) (.t 2) (.t 51), none⟩]) (.ret)) (.skip))))
theorem c79_k3_go {Q : AExit → AS → Prop} {e : AEnv} {n : Nat} {H : AHeap} : aw Tryd.prog c79_k3 Q ⟨e, n, H⟩ = aw Tryd.prog (.kp [1, 2, 4, 5, 25, 26] (.seq (.segs [⟨none, [⟨some 38, .faddr (.t 5) 0 none, none⟩,
      ⟨some 39, .load none (.t 38), none⟩,
      ⟨some 40, .faddr (.t 5) 1 none, none⟩,
      ⟨some 41, .load none (.t 40), none⟩,
      ⟨some 42, .bin .lss (.t 39) (.t 41), none⟩,
      ⟨some 43, .mv (.t 42), none⟩], none⟩,
    ⟨some (43, false), [⟨some 44, .faddr (.t 5) 0 none, none⟩,
      ⟨some 45, .load none (.t 44), none⟩,
      ⟨some 46, .faddr (.t 5) 2 none, none⟩,
      ⟨some 47, .load none (.t 46), none⟩,
      ⟨some 48, .bin .gtr (.t 45) (.t 47), none⟩], some (49, 48)⟩]) (.kp [1, 2, 4, 25, 26, 49] (.cond (.t 49) (.seq (.reg [⟨some 50, .mv (.t 4), none⟩,
    ⟨some 51, .build [(.int .i64 0), (.int .i64 0)] [(0, none, (.c (.int .i64 4))), (1, none, (.t 50))], none⟩,
    ⟨none, .store (some 2) (.t 2) (.t 51), none⟩]) (.ret)) (.skip))))) Q ⟨e, n, H⟩ := rfl
def c79_k4 : ACode := .kp [1, 2, 25, 26] (.seq (.block 1 (.seq (.reg [⟨some 28, .mv (.t 26), none⟩,
    ⟨some 29, .aidx 6 3 (some 3) (.t 25) (.t 26), none⟩,
    ⟨some 5, .alloc 127 [(.int .i64 0), (.int .i64 0), (.int .i64 0)], none⟩,
    ⟨some 4, .mv (.t 28), none⟩,
    ⟨none, .store (some 3) (.t 5) (.t 29), none⟩]) (.kp [1, 2, 4, 5, 25, 26] (.seq (.seq (.reg [⟨some 30, .mv (.t 4), none⟩,
    ⟨some 31, .bin .eql (.t 30) (.c (.int .i64 2)), none⟩]) (.kp [1, 2, 4, 5, 25, 26, 31] (.cond (.t 31) (.reg [⟨some 32, .faddr (.t 1) 0 none, none⟩,
    ⟨some 33, .load none (.t 32), none⟩,
    ⟨some 34, .faddr (.t 1) 1 none, none⟩,
    ⟨some 35, .load none (.t 34), none⟩,
    ⟨some 36, .callp 71 [(.t 33), (.t 35)], none⟩,
    ⟨some 37, .faddr (.t 5) 2 none, none⟩,
    ⟨none, .store none (.t 37) (.t 36), none⟩]) (.skip)))) (c79_k3))))) (c79_k2))
theorem c79_k4_go {Q : AExit → AS → Prop} {e : AEnv} {n : Nat} {H : AHeap} : aw Tryd.prog c79_k4 Q ⟨e, n, H⟩ = aw Tryd.prog (.kp [1, 2, 25, 26] (.seq (.block 1 (.seq (.reg [⟨some 28, .mv (.t 26), none⟩,
    ⟨some 29, .aidx 6 3 (some 3) (.t 25) (.t 26), none⟩,
    ⟨some 5, .alloc 127 [(.int .i64 0), (.int .i64 0), (.int .i64 0)], none⟩,
    ⟨some 4, .mv (.t 28), none⟩,
    ⟨none, .store (some 3) (.t 5) (.t 29), none⟩]) (.kp [1, 2, 4, 5, 25, 26] (.seq (.seq (.reg [⟨some 30, .mv (.t 4), none⟩,
    ⟨some 31, .bin .eql (.t 30) (.c (.int .i64 2)), none⟩]) (.kp [1, 2, 4, 5, 25, 26, 31] (.cond (.t 31) (.reg [⟨some 32, .faddr (.t 1) 0 none, none⟩,
    ⟨some 33, .load none (.t 32), none⟩,
    ⟨some 34, .faddr (.t 1) 1 none, none⟩,
    ⟨some 35, .load none (.t 34), none⟩,
    ⟨some 36, .callp 71 [(.t 33), (.t 35)], none⟩,
    ⟨some 37, .faddr (.t 5) 2 none, none⟩,
    ⟨none, .store none (.t 37) (.t 36), none⟩]) (.skip)))) (c79_k3))))) (c79_k2))) Q ⟨e, n, H⟩ := rfl
def c79_L5 : ACode := .ke [1, 2, 25, 26] (.seq (.reg [⟨some 27, .bin .lss (.t 26) (.c (.int .i64 6)), none⟩]) (.kp [1, 2, 25, 26, 27] (.seq (.cond (.t 27) (.skip) (.exit 0)) (c79_k4))))
theorem c79_L5_go {Q : AExit → AS → Prop} {e : AEnv} {n : Nat} {H : AHeap} : aw Tryd.prog c79_L5 Q ⟨e, n, H⟩ = aw Tryd.prog (.ke [1, 2, 25, 26] (.seq (.reg [⟨some 27, .bin .lss (.t 26) (.c (.int .i64 6)), none⟩]) (.kp [1, 2, 25, 26, 27] (.seq (.cond (.t 27) (.skip) (.exit 0)) (c79_k4))))) Q ⟨e, n, H⟩ := rfl
def c79 : AFun := { nargs := 1, nt := 54, res := [.cell 2 (some 2)], code := .seq (.reg [⟨some 1, .box 40 (some 6) (.t 0), none⟩,
    ⟨some 2, .alloc 27 [(.int .i64 0), (.int .i64 0)], none⟩]) (.kp [1, 2] (.seq (.reg [⟨some 6, .faddr (.t 1) 0 none, none⟩,
    ⟨some 7, .load none (.t 6), none⟩,
    ⟨some 8, .build [(.int .i64 0), (.int .i64 0), (.int .i64 0)] [(0, none, (.t 7)), (1, none, (.c (.int .i64 1))), (2, none, (.c (.int .i64 9999)))], none⟩,
    ⟨some 9, .faddr (.t 1) 1 none, none⟩,
    ⟨some 10, .load none (.t 9), none⟩,
    ⟨some 11, .build [(.int .i64 0), (.int .i64 0), (.int .i64 0)] [(0, none, (.t 10)), (1, none, (.c (.int .i64 1))), (2, none, (.c (.int .i64 12)))], none⟩,
    ⟨some 12, .faddr (.t 1) 2 none, none⟩,
    ⟨some 13, .load none (.t 12), none⟩,
    ⟨some 14, .build [(.int .i64 0), (.int .i64 0), (.int .i64 0)] [(0, none, (.t 13)), (1, none, (.c (.int .i64 1))), (2, none, (.c (.int .i64 31)))], none⟩,
    ⟨some 15, .faddr (.t 1) 3 none, none⟩,
    ⟨some 16, .load none (.t 15), none⟩,
    ⟨some 17, .build [(.int .i64 0), (.int .i64 0), (.int .i64 0)] [(0, none, (.t 16)), (1, none, (.c (.int .i64 0))), (2, none, (.c (.int .i64 23)))], none⟩,
    ⟨some 18, .faddr (.t 1) 4 none, none⟩,
    ⟨some 19, .load none (.t 18), none⟩,
    ⟨some 20, .build [(.int .i64 0), (.int .i64 0), (.int .i64 0)] [(0, none, (.t 19)), (1, none, (.c (.int .i64 0))), (2, none, (.c (.int .i64 59)))], none⟩,
    ⟨some 21, .faddr (.t 1) 5 none, none⟩,
    ⟨some 22, .load none (.t 21), none⟩,
    ⟨some 23, .build [(.int .i64 0), (.int .i64 0), (.int .i64 0)] [(0, none, (.t 22)), (1, none, (.c (.int .i64 0))), (2, none, (.c (.int .i64 59)))], none⟩,
    ⟨some 24, .build [(.int .i64 0), (.int .i64 0), (.int .i64 0), (.int .i64 0), (.int .i64 0), (.int .i64 0), (.int .i64 0), (.int .i64 0), (.int .i64 0), (.int .i64 0), (.int .i64 0), (.int .i64 0), (.int .i64 0), (.int .i64 0), (.int .i64 0), (.int .i64 0), (.int .i64 0), (.int .i64 0)] [(0, (some 3), (.t 8)), (3, (some 3), (.t 11)), (6, (some 3), (.t 14)), (9, (some 3), (.t 17)), (12, (some 3), (.t 20)), (15, (some 3), (.t 23))], none⟩,
    ⟨some 3, .alloc 128 [(.int .i64 0), (.int .i64 0), (.int .i64 0), (.int .i64 0), (.int .i64 0), (.int .i64 0), (.int .i64 0), (.int .i64 0), (.int .i64 0), (.int .i64 0), (.int .i64 0), (.int .i64 0), (.int .i64 0), (.int .i64 0), (.int .i64 0), (.int .i64 0), (.int .i64 0), (.int .i64 0)], none⟩,
    ⟨none, .store (some 18) (.t 3) (.t 24), none⟩]) (.kp [1, 2, 3] (.seq (.seq (.reg [⟨some 25, .load (some 18) (.t 3), none⟩,
    ⟨some 26, .mv (.c (.int .i64 0)), none⟩]) (.kp [1, 2, 25, 26] (.block 0 (.kp [1, 2, 25, 26] (.loop c79_L5))))) (c79_k1))))) }
theorem cmp79 : (cFun Tryd.prog efs Tryd.f79).map (fun x => (x.nargs, x.nt, x.res, x.code)) = some (c79.nargs, c79.nt, c79.res, bare c79.code) := by kernel_rfl
def c80 : AFun := { nargs := 1, nt := 18, res := [.tmp 2], code := .seq (.reg [⟨some 1, .box 40 (some 6) (.t 0), none⟩,
    ⟨some 2, .mv (.c (.int .i64 0)), none⟩]) (.kp [1] (.seq (.reg [⟨some 3, .load (some 6) (.t 1), none⟩,
    ⟨some 4, .callp 91 [(.t 3)], none⟩,
    ⟨some 5, .bin .sub (.t 4) (.c (.int .i64 1)), none⟩,
    ⟨some 6, .bin .mul (.t 5) (.c (.int .i64 86400)), none⟩,
    ⟨some 7, .faddr (.t 1) 3 none, none⟩,
    ⟨some 8, .load none (.t 7), none⟩,
    ⟨some 9, .bin .mul (.t 8) (.c (.int .i64 60)), none⟩,
    ⟨some 10, .faddr (.t 1) 4 none, none⟩,
    ⟨some 11, .load none (.t 10), none⟩,
    ⟨some 12, .bin .add (.t 9) (.t 11), none⟩,
    ⟨some 13, .bin .mul (.t 12) (.c (.int .i64 60)), none⟩,
    ⟨some 14, .bin .add (.t 6) (.t 13), none⟩,
    ⟨some 15, .faddr (.t 1) 5 none, none⟩,
    ⟨some 16, .load none (.t 15), none⟩,
    ⟨some 17, .bin .add (.t 14) (.t 16), none⟩,
    ⟨some 2, .mv (.t 17), none⟩]) (.ret))) }
theorem cmp80 : (cFun Tryd.prog efs Tryd.f80).map (fun x => (x.nargs, x.nt, x.res, x.code)) = some (c80.nargs, c80.nt, c80.res, bare c80.code) := by kernel_rfl
def c82 : AFun := { nargs := 1, nt := 16, res := [.tmp 2], code := .seq (.reg [⟨some 2, .mv (.c (.bool false)), none⟩]) (.kp [0] (.seq (.segs [⟨none, [⟨some 3, .mv (.t 0), none⟩,
      ⟨some 4, .bin .rem (.t 3) (.c (.int .i64 4)), none⟩,
      ⟨some 5, .bin .eql (.t 4) (.c (.int .i64 0)), none⟩,
      ⟨some 6, .mv (.t 5), none⟩], none⟩,
    ⟨some (6, true), [⟨some 7, .mv (.t 0), none⟩,
      ⟨some 8, .bin .rem (.t 7) (.c (.int .i64 100)), none⟩,
      ⟨some 9, .bin .neq (.t 8) (.c (.int .i64 0)), none⟩,
      ⟨some 10, .mv (.t 9), none⟩], none⟩,
    ⟨some (10, false), [⟨some 11, .mv (.t 0), none⟩,
      ⟨some 12, .bin .rem (.t 11) (.c (.int .i64 400)), none⟩,
      ⟨some 13, .bin .eql (.t 12) (.c (.int .i64 0)), none⟩], none⟩,
    ⟨some (6, true), [⟨some 14, .pick (.t 10) (.c (.bool true)) (.t 13), none⟩], some (15, 14)⟩,
    ⟨none, [⟨some 2, .mv (.t 15), none⟩], none⟩]) (.ret))) }
theorem cmp82 : (cFun Tryd.prog efs Tryd.f82).map (fun x => (x.nargs, x.nt, x.res, x.code)) = some (c82.nargs, c82.nt, c82.res, bare c82.code) := by kernel_rfl
def c83_k1 : ACode := .kp [] (.seq (.reg [⟨some 4, .mv (.c (.int .i64 (-1))), none⟩]) (.ret))
theorem c83_k1_go {Q : AExit → AS → Prop} {e : AEnv} {n : Nat} {H : AHeap} : aw Tryd.prog c83_k1 Q ⟨e, n, H⟩ = aw Tryd.prog (.kp [] (.seq (.reg [⟨some 4, .mv (.c (.int .i64 (-1))), none⟩]) (.ret))) Q ⟨e, n, H⟩ := rfl
def c83_k2 : ACode := .kp [0, 3, 7, 8] (.reg [⟨some 18, .bin .add (.t 8) (.c (.int .i64 1)), none⟩,
    ⟨some 8, .mv (.t 18), none⟩])
theorem c83_k2_go {Q : AExit → AS → Prop} {e : AEnv} {n : Nat} {H : AHeap} : aw Tryd.prog c83_k2 Q ⟨e, n, H⟩ = aw Tryd.prog (.kp [0, 3, 7, 8] (.reg [⟨some 18, .bin .add (.t 8) (.c (.int .i64 1)), none⟩,
    ⟨some 8, .mv (.t 18), none⟩])) Q ⟨e, n, H⟩ := rfl
def c83_k3 : ACode := .kp [0, 3, 7, 8] (.seq (.block 1 (.seq (.reg [⟨some 10, .mv (.t 8), none⟩,
    ⟨some 5, .mv (.t 10), none⟩]) (.kp [0, 3, 5, 7, 8] (.seq (.reg [⟨some 11, .load (some 2) (.t 3), none⟩,
    ⟨some 12, .mv (.t 0), none⟩,
    ⟨some 13, .mv (.t 5), none⟩,
    ⟨some 14, .iaddr 2 (some 2) (.t 12) (.t 13), none⟩,
    ⟨some 15, .load (some 2) (.t 14), none⟩,
    ⟨some 16, .eqs [.i, .i] false (.t 11) (.t 15), none⟩]) (.kp [0, 3, 5, 7, 8, 16] (.cond (.t 16) (.seq (.reg [⟨some 17, .mv (.t 5), none⟩,
    ⟨some 4, .mv (.t 17), none⟩]) (.ret)) (.skip))))))) (c83_k2))
theorem c83_k3_go {Q : AExit → AS → Prop} {e : AEnv} {n : Nat} {H : AHeap} : aw Tryd.prog c83_k3 Q ⟨e, n, H⟩ = aw Tryd.prog (.kp [0, 3, 7, 8] (.seq (.block 1 (.seq (.reg [⟨some 10, .mv (.t 8), none⟩,
    ⟨some 5, .mv (.t 10), none⟩]) (.kp [0, 3, 5, 7, 8] (.seq (.reg [⟨some 11, .load (some 2) (.t 3), none⟩,
    ⟨some 12, .mv (.t 0), none⟩,
    ⟨some 13, .mv (.t 5), none⟩,
    ⟨some 14, .iaddr 2 (some 2) (.t 12) (.t 13), none⟩,
    ⟨some 15, .load (some 2) (.t 14), none⟩,
    ⟨some 16, .eqs [.i, .i] false (.t 11) (.t 15), none⟩]) (.kp [0, 3, 5, 7, 8, 16] (.cond (.t 16) (.seq (.reg [⟨some 17, .mv (.t 5), none⟩,
    ⟨some 4, .mv (.t 17), none⟩]) (.ret)) (.skip))))))) (c83_k2))) Q ⟨e, n, H⟩ := rfl
def c83_L4 : ACode := .ke [0, 3, 7, 8] (.seq (.reg [⟨some 9, .bin .lss (.t 8) (.t 7), none⟩]) (.kp [0, 3, 7, 8, 9] (.seq (.cond (.t 9) (.skip) (.exit 0)) (c83_k3))))
theorem c83_L4_go {Q : AExit → AS → Prop} {e : AEnv} {n : Nat} {H : AHeap} : aw Tryd.prog c83_L4 Q ⟨e, n, H⟩ = aw Tryd.prog (.ke [0, 3, 7, 8] (.seq (.reg [⟨some 9, .bin .lss (.t 8) (.t 7), none⟩]) (.kp [0, 3, 7, 8, 9] (.seq (.cond (.t 9) (.skip) (.exit 0)) (c83_k3))))) Q ⟨e, n, H⟩ := rfl
def c83 : AFun := { nargs := 2, nt := 19, res := [.tmp 4], code := .seq (.reg [⟨some 3, .box 54 (some 2) (.t 1), none⟩,
    ⟨some 4, .mv (.c (.int .i64 0)), none⟩]) (.kp [0, 3] (.seq (.seq (.reg [⟨some 6, .mv (.t 0), none⟩,
    ⟨some 7, .len (.t 6), none⟩,
    ⟨some 8, .mv (.c (.int .i64 0)), none⟩]) (.kp [0, 3, 7, 8] (.block 0 (.kp [0, 3, 7, 8] (.loop c83_L4))))) (c83_k1))) }
theorem cmp83 : (cFun Tryd.prog efs Tryd.f83).map (fun x => (x.nargs, x.nt, x.res, x.code)) = some (c83.nargs, c83.nt, c83.res, bare c83.code) := by kernel_rfl
def c91 : AFun := { nargs := 1, nt := 14, res := [.tmp 2], code := .seq (.reg [⟨some 1, .box 40 (some 6) (.t 0), none⟩,
    ⟨some 2, .mv (.c (.int .i64 0)), none⟩]) (.kp [1] (.seq (.reg [⟨some 3, .faddr (.t 1) 0 none, none⟩,
    ⟨some 4, .load none (.t 3), none⟩,
    ⟨some 5, .callp 70 [(.t 4)], none⟩,
    ⟨some 6, .faddr (.t 1) 0 none, none⟩,
    ⟨some 7, .load none (.t 6), none⟩,
    ⟨some 8, .faddr (.t 1) 1 none, none⟩,
    ⟨some 9, .load none (.t 8), none⟩,
    ⟨some 10, .faddr (.t 1) 2 none, none⟩,
    ⟨some 11, .load none (.t 10), none⟩,
    ⟨some 12, .callp 99 [(.t 7), (.t 9), (.t 11)], none⟩,
    ⟨some 13, .bin .add (.t 5) (.t 12), none⟩,
    ⟨some 2, .mv (.t 13), none⟩]) (.ret))) }
theorem cmp91 : (cFun Tryd.prog efs Tryd.f91).map (fun x => (x.nargs, x.nt, x.res, x.code)) = some (c91.nargs, c91.nt, c91.res, bare c91.code) := by kernel_rfl
def c99_k1 : ACode := .kp [2] (.seq (.reg [⟨some 18, .mv (.t 2), none⟩,
    ⟨some 6, .mv (.t 18), none⟩]) (.ret))
theorem c99_k1_go {Q : AExit → AS → Prop} {e : AEnv} {n : Nat} {H : AHeap} : aw Tryd.prog c99_k1 Q ⟨e, n, H⟩ = aw Tryd.prog (.kp [2] (.seq (.reg [⟨some 18, .mv (.t 2), none⟩,
    ⟨some 6, .mv (.t 18), none⟩]) (.ret))) Q ⟨e, n, H⟩ := rfl
def c99_k2 : ACode := .kp [0, 1, 2, 7] (.reg [⟨some 11, .mv (.t 7), none⟩,
    ⟨some 12, .bin .add (.t 11) (.c (.int .i64 1)), none⟩,
    ⟨some 7, .mv (.t 12), none⟩])
theorem c99_k2_go {Q : AExit → AS → Prop} {e : AEnv} {n : Nat} {H : AHeap} : aw Tryd.prog c99_k2 Q ⟨e, n, H⟩ = aw Tryd.prog (.kp [0, 1, 2, 7] (.reg [⟨some 11, .mv (.t 7), none⟩,
    ⟨some 12, .bin .add (.t 11) (.c (.int .i64 1)), none⟩,
    ⟨some 7, .mv (.t 12), none⟩])) Q ⟨e, n, H⟩ := rfl
def c99_k3 : ACode := .kp [0, 1, 2, 7] (.seq (.block 1 (.reg [⟨some 13, .mv (.t 2), none⟩,
    ⟨some 14, .mv (.t 0), none⟩,
    ⟨some 15, .mv (.t 7), none⟩,
    ⟨some 16, .callp 71 [(.t 14), (.t 15)], none⟩,
    ⟨some 17, .bin .add (.t 13) (.t 16), none⟩,
    ⟨some 2, .mv (.t 17), none⟩])) (c99_k2))
theorem c99_k3_go {Q : AExit → AS → Prop} {e : AEnv} {n : Nat} {H : AHeap} : aw Tryd.prog c99_k3 Q ⟨e, n, H⟩ = aw Tryd.prog (.kp [0, 1, 2, 7] (.seq (.block 1 (.reg [⟨some 13, .mv (.t 2), none⟩,
    ⟨some 14, .mv (.t 0), none⟩,
    ⟨some 15, .mv (.t 7), none⟩,
    ⟨some 16, .callp 71 [(.t 14), (.t 15)], none⟩,
    ⟨some 17, .bin .add (.t 13) (.t 16), none⟩,
    ⟨some 2, .mv (.t 17), none⟩])) (c99_k2))) Q ⟨e, n, H⟩ := rfl
def c99_L4 : ACode := .ke [0, 1, 2, 7] (.seq (.seq (.reg [⟨some 8, .mv (.t 7), none⟩,
    ⟨some 9, .mv (.t 1), none⟩,
    ⟨some 10, .bin .lss (.t 8) (.t 9), none⟩]) (.kp [0, 1, 2, 7, 10] (.cond (.t 10) (.skip) (.exit 0)))) (c99_k3))
theorem c99_L4_go {Q : AExit → AS → Prop} {e : AEnv} {n : Nat} {H : AHeap} : aw Tryd.prog c99_L4 Q ⟨e, n, H⟩ = aw Tryd.prog (.ke [0, 1, 2, 7] (.seq (.seq (.reg [⟨some 8, .mv (.t 7), none⟩,
    ⟨some 9, .mv (.t 1), none⟩,
    ⟨some 10, .bin .lss (.t 8) (.t 9), none⟩]) (.kp [0, 1, 2, 7, 10] (.cond (.t 10) (.skip) (.exit 0)))) (c99_k3))) Q ⟨e, n, H⟩ := rfl
def c99 : AFun := { nargs := 3, nt := 19, res := [.tmp 6], code := .seq (.reg [⟨some 6, .mv (.c (.int .i64 0)), none⟩]) (.kp [0, 1, 2] (.seq (.seq (.reg [⟨some 7, .mv (.c (.int .i64 1)), none⟩]) (.kp [0, 1, 2, 7] (.block 0 (.kp [0, 1, 2, 7] (.loop c99_L4))))) (c99_k1))) }
theorem cmp99 : (cFun Tryd.prog efs Tryd.f99).map (fun x => (x.nargs, x.nt, x.res, x.code)) = some (c99.nargs, c99.nt, c99.res, bare c99.code) := by kernel_rfl
def c24_k1 : ACode := .kp [2] (.seq (.reg [⟨some 29, .build [(.int .i64 0), (.int .i64 0)] [], none⟩,
    ⟨none, .store (some 2) (.t 2) (.t 29), none⟩]) (.ret))
theorem c24_k1_go {Q : AExit → AS → Prop} {e : AEnv} {n : Nat} {H : AHeap} : aw Tryd.prog c24_k1 Q ⟨e, n, H⟩ = aw Tryd.prog (.kp [2] (.seq (.reg [⟨some 29, .build [(.int .i64 0), (.int .i64 0)] [], none⟩,
    ⟨none, .store (some 2) (.t 2) (.t 29), none⟩]) (.ret))) Q ⟨e, n, H⟩ := rfl
def c24_k2 : ACode := .kp [2, 16, 17] (.reg [⟨some 28, .bin .add (.t 17) (.c (.int .i64 1)), none⟩,
    ⟨some 17, .mv (.t 28), none⟩])
theorem c24_k2_go {Q : AExit → AS → Prop} {e : AEnv} {n : Nat} {H : AHeap} : aw Tryd.prog c24_k2 Q ⟨e, n, H⟩ = aw Tryd.prog (.kp [2, 16, 17] (.reg [⟨some 28, .bin .add (.t 17) (.c (.int .i64 1)), none⟩,
    ⟨some 17, .mv (.t 28), none⟩])) Q ⟨e, n, H⟩ := rfl
def c24_k3 : ACode := .kp [2, 16, 17] (.seq (.block 1 (.seq (.reg [⟨some 19, .mv (.t 17), none⟩,
    ⟨some 20, .aidx 8 1 none (.t 16) (.t 17), none⟩,
    ⟨some 4, .mv (.t 19), none⟩,
    ⟨some 5, .mv (.t 20), none⟩]) (.kp [2, 4, 5, 16, 17] (.seq (.reg [⟨some 21, .mv (.t 5), none⟩,
    ⟨some 22, .callv (.t 21) [], none⟩,
    ⟨some 6, .mv (.t 22), none⟩]) (.kp [2, 4, 6, 16, 17] (.seq (.reg [⟨some 23, .mv (.t 6), none⟩,
    ⟨some 24, .bin .neq (.t 23) (.c (.int .i64 0)), none⟩]) (.kp [2, 4, 6, 16, 17, 24] (.cond (.t 24) (.seq (.reg [⟨some 25, .mv (.t 6), none⟩,
    ⟨some 26, .mv (.t 4), none⟩,
    ⟨some 27, .build [(.int .i64 0), (.int .i64 0)] [(0, none, (.t 25)), (1, none, (.t 26))], none⟩,
    ⟨none, .store (some 2) (.t 2) (.t 27), none⟩]) (.ret)) (.skip))))))))) (c24_k2))
theorem c24_k3_go {Q : AExit → AS → Prop} {e : AEnv} {n : Nat} {H : AHeap} : aw Tryd.prog c24_k3 Q ⟨e, n, H⟩ = aw Tryd.prog (.kp [2, 16, 17] (.seq (.block 1 (.seq (.reg [⟨some 19, .mv (.t 17), none⟩,
    ⟨some 20, .aidx 8 1 none (.t 16) (.t 17), none⟩,
    ⟨some 4, .mv (.t 19), none⟩,
    ⟨some 5, .mv (.t 20), none⟩]) (.kp [2, 4, 5, 16, 17] (.seq (.reg [⟨some 21, .mv (.t 5), none⟩,
    ⟨some 22, .callv (.t 21) [], none⟩,
    ⟨some 6, .mv (.t 22), none⟩]) (.kp [2, 4, 6, 16, 17] (.seq (.reg [⟨some 23, .mv (.t 6), none⟩,
    ⟨some 24, .bin .neq (.t 23) (.c (.int .i64 0)), none⟩]) (.kp [2, 4, 6, 16, 17, 24] (.cond (.t 24) (.seq (.reg [⟨some 25, .mv (.t 6), none⟩,
    ⟨some 26, .mv (.t 4), none⟩,
    ⟨some 27, .build [(.int .i64 0), (.int .i64 0)] [(0, none, (.t 25)), (1, none, (.t 26))], none⟩,
    ⟨none, .store (some 2) (.t 2) (.t 27), none⟩]) (.ret)) (.skip))))))))) (c24_k2))) Q ⟨e, n, H⟩ := rfl
def c24_L4 : ACode := .ke [2, 16, 17] (.seq (.reg [⟨some 18, .bin .lss (.t 17) (.c (.int .i64 8)), none⟩]) (.kp [2, 16, 17, 18] (.seq (.cond (.t 18) (.skip) (.exit 0)) (c24_k3))))
theorem c24_L4_go {Q : AExit → AS → Prop} {e : AEnv} {n : Nat} {H : AHeap} : aw Tryd.prog c24_L4 Q ⟨e, n, H⟩ = aw Tryd.prog (.ke [2, 16, 17] (.seq (.reg [⟨some 18, .bin .lss (.t 17) (.c (.int .i64 8)), none⟩]) (.kp [2, 16, 17, 18] (.seq (.cond (.t 18) (.skip) (.exit 0)) (c24_k3))))) Q ⟨e, n, H⟩ := rfl
def c24 : AFun := { nargs := 1, nt := 30, res := [.cell 2 (some 2)], code := .seq (.reg [⟨some 1, .box 25 (some 8) (.t 0), none⟩,
    ⟨some 2, .alloc 27 [(.int .i64 0), (.int .i64 0)], none⟩]) (.kp [1, 2] (.seq (.reg [⟨some 7, .mkfn 44 [] [(.t 1)], none⟩,
    ⟨some 8, .mkfn 45 [] [(.t 1)], none⟩,
    ⟨some 9, .mkfn 47 [] [(.t 1)], none⟩,
    ⟨some 10, .mkfn 50 [] [(.t 1)], none⟩,
    ⟨some 11, .mkfn 53 [] [(.t 1)], none⟩,
    ⟨some 12, .mkfn 56 [] [(.t 1)], none⟩,
    ⟨some 13, .mkfn 58 [] [(.t 1)], none⟩,
    ⟨some 14, .mkfn 59 [] [(.t 1)], none⟩,
    ⟨some 15, .build [.nfn, .nfn, .nfn, .nfn, .nfn, .nfn, .nfn, .nfn] [(0, none, (.t 7)), (1, none, (.t 8)), (2, none, (.t 9)), (3, none, (.t 10)), (4, none, (.t 11)), (5, none, (.t 12)), (6, none, (.t 13)), (7, none, (.t 14))], none⟩,
    ⟨some 3, .alloc 84 [.nfn, .nfn, .nfn, .nfn, .nfn, .nfn, .nfn, .nfn], none⟩,
    ⟨none, .store (some 8) (.t 3) (.t 15), none⟩]) (.kp [2, 3] (.seq (.seq (.reg [⟨some 16, .load (some 8) (.t 3), none⟩,
    ⟨some 17, .mv (.c (.int .i64 0)), none⟩]) (.kp [2, 16, 17] (.block 0 (.kp [2, 16, 17] (.loop c24_L4))))) (c24_k1))))) }
theorem cmp24 : (cFun Tryd.prog efs Tryd.f24).map (fun x => (x.nargs, x.nt, x.res, x.code)) = some (c24.nargs, c24.nt, c24.res, bare c24.code) := by kernel_rfl
end Go.Proofs.YtecpfmhminkalaaDoor
