/- The code of some functions on plain data, by program, and that it is what the program's text gives; no condition. -/
import Derived.Test.YtnmkpadgogbgkaaDoorMgB
import Derived.Test.YtnmkpadgogbgkaaDoorProg
import Derived.KernelRfl
set_option linter.all false
set_option linter.unusedSimpArgs false
set_option linter.unusedVariables false
namespace Go.Proofs.YtnmkpadgogbgkaaDoor
/-- the functions that turn memory of their caller's -/
def efs : List Nat := [43, 44, 45, 48, 62, 63, 64, 82, 86, 87, 90, 91, 92, 97, 102]
theorem awgoA {P : Program} {c d : ACode} (h : c = d) {Q : AExit → AS → Prop} {e : AEnv} {n : Nat} {H : AHeap} : aw P c Q ⟨e, n, H⟩ = aw P d Q ⟨e, n, H⟩ := by rw [h]
def c18 : AFun := { nargs := 0, nt := 53, res := [.tmp 0], code := .seq (.reg [⟨some 0, .mv (.c (.bool false)), none⟩]) (.kp [] (.seq (.reg [⟨some 9, .build [(.int .i64 0), (.int .i64 0), (.int .i64 0), (.int .i64 0), (.int .i64 0), (.int .i64 0)] [(0, none, (.c (.int .i64 1))), (1, none, (.c (.int .i64 1))), (2, none, (.c (.int .i64 2))), (4, none, (.c (.int .i64 1))), (5, none, (.c (.int .i64 5)))], none⟩,
    ⟨some 10, .callp 20 [(.t 9)], none⟩,
    ⟨some 8, .mv (.t 10), none⟩,
    ⟨some 11, .extr (.t 8) 0, none⟩,
    ⟨some 12, .extr (.t 8) 1, none⟩,
    ⟨some 2, .alloc 25 [(.int .i64 0), (.int .i64 0)], none⟩,
    ⟨some 1, .mv (.t 11), none⟩,
    ⟨none, .store (some 2) (.t 2) (.t 12), none⟩]) (.kp [1, 2] (.seq (.reg [⟨some 14, .callp 51 [], none⟩,
    ⟨some 15, .callp 22 [(.t 14)], none⟩,
    ⟨some 13, .mv (.t 15), none⟩,
    ⟨some 16, .extr (.t 13) 0, none⟩,
    ⟨some 17, .extr (.t 13) 1, none⟩,
    ⟨some 18, .extr (.t 13) 2, none⟩,
    ⟨some 5, .alloc 25 [(.int .i64 0), (.int .i64 0)], none⟩,
    ⟨some 3, .mv (.t 16), none⟩,
    ⟨some 4, .mv (.t 17), none⟩,
    ⟨none, .store (some 2) (.t 5) (.t 18), none⟩]) (.kp [1, 2, 3, 4, 5] (.seq (.reg [⟨some 20, .callp 51 [], none⟩,
    ⟨some 21, .callp 15 [(.t 20), (.c (.str [37, 97, 32, 37, 100, 46, 37, 109, 46, 37, 89]))], none⟩,
    ⟨some 19, .mv (.t 21), none⟩,
    ⟨some 22, .extr (.t 19) 0, none⟩,
    ⟨some 23, .extr (.t 19) 1, none⟩,
    ⟨some 7, .alloc 25 [(.int .i64 0), (.int .i64 0)], none⟩,
    ⟨some 6, .mv (.t 22), none⟩,
    ⟨none, .store (some 2) (.t 7) (.t 23), none⟩]) (.kp [1, 2, 3, 4, 5, 6, 7] (.seq (.segs [⟨none, [⟨some 24, .faddr (.t 2) 0 none, none⟩,
      ⟨some 25, .load none (.t 24), none⟩,
      ⟨some 26, .bin .eql (.t 25) (.c (.int .i64 0)), none⟩,
      ⟨some 27, .mv (.t 26), none⟩], none⟩,
    ⟨some (27, true), [⟨some 28, .faddr (.t 5) 0 none, none⟩,
      ⟨some 29, .load none (.t 28), none⟩,
      ⟨some 30, .bin .eql (.t 29) (.c (.int .i64 0)), none⟩], some (31, 30)⟩,
    ⟨none, [⟨some 32, .mv (.t 31), none⟩], none⟩,
    ⟨some (32, true), [⟨some 33, .faddr (.t 7) 0 none, none⟩,
      ⟨some 34, .load none (.t 33), none⟩,
      ⟨some 35, .bin .eql (.t 34) (.c (.int .i64 0)), none⟩], some (36, 35)⟩,
    ⟨none, [⟨some 37, .mv (.t 36), none⟩], none⟩,
    ⟨some (37, true), [⟨some 38, .mv (.t 1), none⟩,
      ⟨some 39, .bin .eql (.t 38) (.c (.int .i64 86465)), none⟩], some (40, 39)⟩,
    ⟨none, [⟨some 41, .mv (.t 40), none⟩], none⟩,
    ⟨some (41, true), [⟨some 42, .mv (.t 3), none⟩,
      ⟨some 43, .bin .eql (.t 42) (.c (.int .i64 2020)), none⟩], some (44, 43)⟩,
    ⟨none, [⟨some 45, .mv (.t 44), none⟩], none⟩,
    ⟨some (45, true), [⟨some 46, .mv (.t 4), none⟩,
      ⟨some 47, .bin .eql (.t 46) (.c (.int .i64 53)), none⟩], some (48, 47)⟩,
    ⟨none, [⟨some 49, .mv (.t 48), none⟩], none⟩,
    ⟨some (49, true), [⟨some 50, .mv (.t 6), none⟩,
      ⟨some 51, .bin .eql (.t 50) (.c (.str [70, 114, 105, 32, 48, 49, 46, 48, 49, 46, 50, 48, 50, 49])), none⟩], some (52, 51)⟩,
    ⟨none, [⟨some 0, .mv (.t 52), none⟩], none⟩]) (.ret))))))))) }
theorem cmp18 : (cFun Tryd.prog efs Tryd.f18).map (fun x => (x.nargs, x.nt, x.res, x.code)) = some (c18.nargs, c18.nt, c18.res, bare c18.code) := by kernel_rfl
def c20_k1 : ACode := .kp [1, 3] (.seq (.reg [⟨some 11, .load (some 6) (.t 1), none⟩,
    ⟨some 12, .callp 54 [(.t 11)], none⟩,
    ⟨some 13, .build [(.int .i64 0), (.int .i64 0)] [], none⟩,
    ⟨some 2, .mv (.t 12), none⟩,
    ⟨none, .store (some 2) (.t 3) (.t 13), none⟩]) (.ret))
def c20_k1_go {Q e n H} := @awgoA Tryd.prog _ _ c20_k1.eq_1 Q e n H
def c20 : AFun := { nargs := 1, nt := 14, res := [.tmp 2, .cell 3 (some 2)], code := .seq (.reg [⟨some 1, .box 23 (some 6) (.t 0), none⟩,
    ⟨some 2, .mv (.c (.int .i64 0)), none⟩,
    ⟨some 3, .alloc 25 [(.int .i64 0), (.int .i64 0)], none⟩]) (.kp [1, 3] (.seq (.seq (.reg [⟨some 5, .load (some 6) (.t 1), none⟩,
    ⟨some 6, .callp 41 [(.t 5)], none⟩,
    ⟨some 4, .alloc 25 [(.int .i64 0), (.int .i64 0)], none⟩,
    ⟨none, .store (some 2) (.t 4) (.t 6), none⟩]) (.kp [1, 3, 4] (.seq (.reg [⟨some 7, .faddr (.t 4) 0 none, none⟩,
    ⟨some 8, .load none (.t 7), none⟩,
    ⟨some 9, .bin .neq (.t 8) (.c (.int .i64 0)), none⟩]) (.kp [1, 3, 4, 9] (.cond (.t 9) (.seq (.reg [⟨some 10, .load (some 2) (.t 4), none⟩,
    ⟨some 2, .mv (.c (.int .i64 0)), none⟩,
    ⟨none, .store (some 2) (.t 3) (.t 10), none⟩]) (.ret)) (.skip)))))) (c20_k1))) }
theorem cmp20 : (cFun Tryd.prog efs Tryd.f20).map (fun x => (x.nargs, x.nt, x.res, x.code)) = some (c20.nargs, c20.nt, c20.res, bare c20.code) := by kernel_rfl
def c22_k1 : ACode := .kp [1, 4] (.seq (.reg [⟨some 15, .load (some 6) (.t 1), none⟩,
    ⟨some 16, .callp 57 [(.t 15)], none⟩,
    ⟨some 14, .mv (.t 16), none⟩,
    ⟨some 17, .extr (.t 14) 0, none⟩,
    ⟨some 18, .extr (.t 14) 1, none⟩,
    ⟨some 6, .mv (.t 17), none⟩,
    ⟨some 7, .mv (.t 18), none⟩]) (.kp [4, 6, 7] (.seq (.reg [⟨some 19, .mv (.t 6), none⟩,
    ⟨some 20, .mv (.t 7), none⟩,
    ⟨some 21, .build [(.int .i64 0), (.int .i64 0)] [], none⟩,
    ⟨some 2, .mv (.t 19), none⟩,
    ⟨some 3, .mv (.t 20), none⟩,
    ⟨none, .store (some 2) (.t 4) (.t 21), none⟩]) (.ret))))
def c22_k1_go {Q e n H} := @awgoA Tryd.prog _ _ c22_k1.eq_1 Q e n H
def c22 : AFun := { nargs := 1, nt := 22, res := [.tmp 2, .tmp 3, .cell 4 (some 2)], code := .seq (.reg [⟨some 1, .box 23 (some 6) (.t 0), none⟩,
    ⟨some 2, .mv (.c (.int .i64 0)), none⟩,
    ⟨some 3, .mv (.c (.int .i64 0)), none⟩,
    ⟨some 4, .alloc 25 [(.int .i64 0), (.int .i64 0)], none⟩]) (.kp [1, 4] (.seq (.seq (.reg [⟨some 8, .load (some 6) (.t 1), none⟩,
    ⟨some 9, .callp 41 [(.t 8)], none⟩,
    ⟨some 5, .alloc 25 [(.int .i64 0), (.int .i64 0)], none⟩,
    ⟨none, .store (some 2) (.t 5) (.t 9), none⟩]) (.kp [1, 4, 5] (.seq (.reg [⟨some 10, .faddr (.t 5) 0 none, none⟩,
    ⟨some 11, .load none (.t 10), none⟩,
    ⟨some 12, .bin .neq (.t 11) (.c (.int .i64 0)), none⟩]) (.kp [1, 4, 5, 12] (.cond (.t 12) (.seq (.reg [⟨some 13, .load (some 2) (.t 5), none⟩,
    ⟨some 2, .mv (.c (.int .i64 0)), none⟩,
    ⟨some 3, .mv (.c (.int .i64 0)), none⟩,
    ⟨none, .store (some 2) (.t 4) (.t 13), none⟩]) (.ret)) (.skip)))))) (c22_k1))) }
theorem cmp22 : (cFun Tryd.prog efs Tryd.f22).map (fun x => (x.nargs, x.nt, x.res, x.code)) = some (c22.nargs, c22.nt, c22.res, bare c22.code) := by kernel_rfl
def c23_k1 : ACode := .kp [0, 1, 2] (.seq (.reg [⟨some 13, .mv (.t 0), none⟩,
    ⟨some 14, .bin .mul (.c (.int .i64 365)) (.t 13), none⟩,
    ⟨some 15, .mv (.t 0), none⟩,
    ⟨some 16, .bin .quo (.t 15) (.c (.int .i64 4)), none⟩,
    ⟨some 17, .bin .add (.t 14) (.t 16), none⟩,
    ⟨some 18, .mv (.t 0), none⟩,
    ⟨some 19, .bin .quo (.t 18) (.c (.int .i64 100)), none⟩,
    ⟨some 20, .bin .sub (.t 17) (.t 19), none⟩,
    ⟨some 21, .mv (.t 0), none⟩,
    ⟨some 22, .bin .quo (.t 21) (.c (.int .i64 400)), none⟩,
    ⟨some 23, .bin .add (.t 20) (.t 22), none⟩,
    ⟨some 24, .mv (.t 1), none⟩,
    ⟨some 25, .bin .sub (.t 24) (.c (.int .i64 3)), none⟩,
    ⟨some 26, .bin .mul (.c (.int .i64 153)) (.t 25), none⟩,
    ⟨some 27, .bin .add (.t 26) (.c (.int .i64 2)), none⟩,
    ⟨some 28, .bin .quo (.t 27) (.c (.int .i64 5)), none⟩,
    ⟨some 29, .bin .add (.t 23) (.t 28), none⟩,
    ⟨some 30, .mv (.t 2), none⟩,
    ⟨some 31, .bin .add (.t 29) (.t 30), none⟩,
    ⟨some 32, .bin .sub (.t 31) (.c (.int .i64 306)), none⟩,
    ⟨some 6, .mv (.t 32), none⟩]) (.ret))
def c23_k1_go {Q e n H} := @awgoA Tryd.prog _ _ c23_k1.eq_1 Q e n H
def c23_t2 : ACode := .kp [0, 1, 2] (.seq (.reg [⟨some 9, .mv (.t 1), none⟩,
    ⟨some 10, .bin .add (.t 9) (.c (.int .i64 12)), none⟩,
    ⟨some 1, .mv (.t 10), none⟩]) (.kp [0, 1, 2] (.reg [⟨some 11, .mv (.t 0), none⟩,
    ⟨some 12, .bin .sub (.t 11) (.c (.int .i64 1)), none⟩,
    ⟨some 0, .mv (.t 12), none⟩])))
def c23_t2_go {Q e n H} := @awgoA Tryd.prog _ _ c23_t2.eq_1 Q e n H
def c23 : AFun := { nargs := 3, nt := 33, res := [.tmp 6], code := .seq (.reg [⟨some 6, .mv (.c (.int .i64 0)), none⟩]) (.kp [0, 1, 2] (.seq (.seq (.reg [⟨some 7, .mv (.t 1), none⟩,
    ⟨some 8, .bin .lss (.t 7) (.c (.int .i64 3)), none⟩]) (.kp [0, 1, 2, 8] (.cond (.t 8) (c23_t2) (.skip)))) (c23_k1))) }
theorem cmp23 : (cFun Tryd.prog efs Tryd.f23).map (fun x => (x.nargs, x.nt, x.res, x.code)) = some (c23.nargs, c23.nt, c23.res, bare c23.code) := by kernel_rfl
def c24 : AFun := { nargs := 1, nt := 21, res := [.tmp 2, .tmp 3], code := .seq (.reg [⟨some 2, .mv (.c (.int .i64 0)), none⟩,
    ⟨some 3, .mv (.c (.int .i64 0)), none⟩]) (.kp [0] (.seq (.reg [⟨some 6, .mv (.t 0), none⟩,
    ⟨some 7, .mv (.t 0), none⟩,
    ⟨some 8, .callp 26 [(.t 7)], none⟩,
    ⟨some 9, .bin .sub (.t 6) (.t 8), none⟩,
    ⟨some 10, .bin .add (.t 9) (.c (.int .i64 3)), none⟩,
    ⟨some 4, .mv (.t 10), none⟩]) (.kp [4] (.seq (.reg [⟨some 11, .mv (.t 4), none⟩,
    ⟨some 12, .callp 38 [(.t 11)], none⟩,
    ⟨some 13, .field (.t 12) 0 none, none⟩,
    ⟨some 5, .mv (.t 13), none⟩]) (.kp [4, 5] (.seq (.reg [⟨some 14, .mv (.t 5), none⟩,
    ⟨some 15, .mv (.t 4), none⟩,
    ⟨some 16, .mv (.t 5), none⟩,
    ⟨some 17, .callp 23 [(.t 16), (.c (.int .i64 1)), (.c (.int .i64 1))], none⟩,
    ⟨some 18, .bin .sub (.t 15) (.t 17), none⟩,
    ⟨some 19, .bin .quo (.t 18) (.c (.int .i64 7)), none⟩,
    ⟨some 20, .bin .add (.t 19) (.c (.int .i64 1)), none⟩,
    ⟨some 2, .mv (.t 14), none⟩,
    ⟨some 3, .mv (.t 20), none⟩]) (.ret))))))) }
theorem cmp24 : (cFun Tryd.prog efs Tryd.f24).map (fun x => (x.nargs, x.nt, x.res, x.code)) = some (c24.nargs, c24.nt, c24.res, bare c24.code) := by kernel_rfl
def c26 : AFun := { nargs := 1, nt := 6, res := [.tmp 2], code := .seq (.reg [⟨some 2, .mv (.c (.int .i64 0)), none⟩]) (.kp [0] (.seq (.reg [⟨some 3, .mv (.t 0), none⟩,
    ⟨some 4, .bin .add (.t 3) (.c (.int .i64 6)), none⟩,
    ⟨some 5, .bin .rem (.t 4) (.c (.int .i64 7)), none⟩,
    ⟨some 2, .mv (.t 5), none⟩]) (.ret))) }
theorem cmp26 : (cFun Tryd.prog efs Tryd.f26).map (fun x => (x.nargs, x.nt, x.res, x.code)) = some (c26.nargs, c26.nt, c26.res, bare c26.code) := by kernel_rfl
def c28 : AFun := { nargs := 3, nt := 15, res := [.tmp 6], code := .seq (.reg [⟨some 6, .mv (.c (.bool false)), none⟩]) (.kp [0, 1, 2] (.seq (.segs [⟨none, [⟨some 7, .mv (.t 1), none⟩,
      ⟨some 8, .mv (.t 0), none⟩,
      ⟨some 9, .bin .leq (.t 7) (.t 8), none⟩,
      ⟨some 10, .mv (.t 9), none⟩], none⟩,
    ⟨some (10, true), [⟨some 11, .mv (.t 0), none⟩,
      ⟨some 12, .mv (.t 2), none⟩,
      ⟨some 13, .bin .leq (.t 11) (.t 12), none⟩], some (14, 13)⟩,
    ⟨none, [⟨some 6, .mv (.t 14), none⟩], none⟩]) (.ret))) }
theorem cmp28 : (cFun Tryd.prog efs Tryd.f28).map (fun x => (x.nargs, x.nt, x.res, x.code)) = some (c28.nargs, c28.nt, c28.res, bare c28.code) := by kernel_rfl
def c29 : AFun := { nargs := 2, nt := 8, res := [.cell 4 (some 2)], code := .seq (.reg [⟨some 4, .alloc 25 [(.int .i64 0), (.int .i64 0)], none⟩]) (.kp [0, 1, 4] (.seq (.reg [⟨some 5, .mv (.t 0), none⟩,
    ⟨some 6, .mv (.t 1), none⟩,
    ⟨some 7, .build [(.int .i64 0), (.int .i64 0)] [(0, none, (.t 5)), (1, none, (.t 6))], none⟩,
    ⟨none, .store (some 2) (.t 4) (.t 7), none⟩]) (.ret))) }
theorem cmp29 : (cFun Tryd.prog efs Tryd.f29).map (fun x => (x.nargs, x.nt, x.res, x.code)) = some (c29.nargs, c29.nt, c29.res, bare c29.code) := by kernel_rfl
def c38_k1 : ACode := .kp [2, 9] (.seq (.reg [⟨some 66, .load (some 6) (.t 9), none⟩,
    ⟨none, .store (some 6) (.t 2) (.t 66), none⟩]) (.ret))
def c38_k1_go {Q e n H} := @awgoA Tryd.prog _ _ c38_k1.eq_1 Q e n H
def c38_t2 : ACode := .kp [2, 9] (.seq (.reg [⟨some 58, .faddr (.t 9) 1 none, none⟩,
    ⟨some 59, .load none (.t 58), none⟩,
    ⟨some 60, .bin .sub (.t 59) (.c (.int .i64 12)), none⟩,
    ⟨some 61, .faddr (.t 9) 1 none, none⟩,
    ⟨none, .store none (.t 61) (.t 60), none⟩]) (.kp [2, 9] (.reg [⟨some 62, .faddr (.t 9) 0 none, none⟩,
    ⟨some 63, .load none (.t 62), none⟩,
    ⟨some 64, .bin .add (.t 63) (.c (.int .i64 1)), none⟩,
    ⟨some 65, .faddr (.t 9) 0 none, none⟩,
    ⟨none, .store none (.t 65) (.t 64), none⟩])))
def c38_t2_go {Q e n H} := @awgoA Tryd.prog _ _ c38_t2.eq_1 Q e n H
def c38 : AFun := { nargs := 1, nt := 67, res := [.cell 2 (some 6)], code := .seq (.reg [⟨some 2, .alloc 23 [(.int .i64 0), (.int .i64 0), (.int .i64 0), (.int .i64 0), (.int .i64 0), (.int .i64 0)], none⟩]) (.kp [0, 2] (.seq (.reg [⟨some 10, .mv (.t 0), none⟩,
    ⟨some 11, .bin .add (.t 10) (.c (.int .i64 305)), none⟩,
    ⟨some 3, .mv (.t 11), none⟩]) (.kp [2, 3] (.seq (.reg [⟨some 12, .mv (.t 3), none⟩,
    ⟨some 13, .bin .quo (.t 12) (.c (.int .i64 146097)), none⟩,
    ⟨some 4, .mv (.t 13), none⟩]) (.kp [2, 3, 4] (.seq (.reg [⟨some 14, .mv (.t 3), none⟩,
    ⟨some 15, .bin .rem (.t 14) (.c (.int .i64 146097)), none⟩,
    ⟨some 5, .mv (.t 15), none⟩]) (.kp [2, 4, 5] (.seq (.reg [⟨some 16, .mv (.t 5), none⟩,
    ⟨some 17, .mv (.t 5), none⟩,
    ⟨some 18, .bin .quo (.t 17) (.c (.int .i64 1460)), none⟩,
    ⟨some 19, .bin .sub (.t 16) (.t 18), none⟩,
    ⟨some 20, .mv (.t 5), none⟩,
    ⟨some 21, .bin .quo (.t 20) (.c (.int .i64 36524)), none⟩,
    ⟨some 22, .bin .add (.t 19) (.t 21), none⟩,
    ⟨some 23, .mv (.t 5), none⟩,
    ⟨some 24, .bin .quo (.t 23) (.c (.int .i64 146096)), none⟩,
    ⟨some 25, .bin .sub (.t 22) (.t 24), none⟩,
    ⟨some 26, .bin .quo (.t 25) (.c (.int .i64 365)), none⟩,
    ⟨some 6, .mv (.t 26), none⟩]) (.kp [2, 4, 5, 6] (.seq (.reg [⟨some 27, .mv (.t 5), none⟩,
    ⟨some 28, .mv (.t 6), none⟩,
    ⟨some 29, .bin .mul (.c (.int .i64 365)) (.t 28), none⟩,
    ⟨some 30, .bin .sub (.t 27) (.t 29), none⟩,
    ⟨some 31, .mv (.t 6), none⟩,
    ⟨some 32, .bin .quo (.t 31) (.c (.int .i64 4)), none⟩,
    ⟨some 33, .bin .sub (.t 30) (.t 32), none⟩,
    ⟨some 34, .mv (.t 6), none⟩,
    ⟨some 35, .bin .quo (.t 34) (.c (.int .i64 100)), none⟩,
    ⟨some 36, .bin .add (.t 33) (.t 35), none⟩,
    ⟨some 7, .mv (.t 36), none⟩]) (.kp [2, 4, 6, 7] (.seq (.reg [⟨some 37, .mv (.t 7), none⟩,
    ⟨some 38, .bin .mul (.c (.int .i64 5)) (.t 37), none⟩,
    ⟨some 39, .bin .add (.t 38) (.c (.int .i64 2)), none⟩,
    ⟨some 40, .bin .quo (.t 39) (.c (.int .i64 153)), none⟩,
    ⟨some 8, .mv (.t 40), none⟩]) (.kp [2, 4, 6, 7, 8] (.seq (.reg [⟨some 41, .mv (.t 6), none⟩,
    ⟨some 42, .mv (.t 4), none⟩,
    ⟨some 43, .bin .mul (.c (.int .i64 400)) (.t 42), none⟩,
    ⟨some 44, .bin .add (.t 41) (.t 43), none⟩,
    ⟨some 45, .mv (.t 8), none⟩,
    ⟨some 46, .bin .add (.t 45) (.c (.int .i64 3)), none⟩,
    ⟨some 47, .mv (.t 7), none⟩,
    ⟨some 48, .mv (.t 8), none⟩,
    ⟨some 49, .bin .mul (.c (.int .i64 153)) (.t 48), none⟩,
    ⟨some 50, .bin .add (.t 49) (.c (.int .i64 2)), none⟩,
    ⟨some 51, .bin .quo (.t 50) (.c (.int .i64 5)), none⟩,
    ⟨some 52, .bin .sub (.t 47) (.t 51), none⟩,
    ⟨some 53, .bin .add (.t 52) (.c (.int .i64 1)), none⟩,
    ⟨some 54, .build [(.int .i64 0), (.int .i64 0), (.int .i64 0), (.int .i64 0), (.int .i64 0), (.int .i64 0)] [(0, none, (.t 44)), (1, none, (.t 46)), (2, none, (.t 53))], none⟩,
    ⟨some 9, .alloc 23 [(.int .i64 0), (.int .i64 0), (.int .i64 0), (.int .i64 0), (.int .i64 0), (.int .i64 0)], none⟩,
    ⟨none, .store (some 6) (.t 9) (.t 54), none⟩]) (.kp [2, 9] (.seq (.seq (.reg [⟨some 55, .faddr (.t 9) 1 none, none⟩,
    ⟨some 56, .load none (.t 55), none⟩,
    ⟨some 57, .bin .gtr (.t 56) (.c (.int .i64 12)), none⟩]) (.kp [2, 9, 57] (.cond (.t 57) (c38_t2) (.skip)))) (c38_k1))))))))))))))))) }
theorem cmp38 : (cFun Tryd.prog efs Tryd.f38).map (fun x => (x.nargs, x.nt, x.res, x.code)) = some (c38.nargs, c38.nt, c38.res, bare c38.code) := by kernel_rfl
def c41_k1 : ACode := .kp [2] (.seq (.reg [⟨some 53, .build [(.int .i64 0), (.int .i64 0)] [], none⟩,
    ⟨none, .store (some 2) (.t 2) (.t 53), none⟩]) (.ret))
def c41_k1_go {Q e n H} := @awgoA Tryd.prog _ _ c41_k1.eq_1 Q e n H
def c41_k2 : ACode := .kp [1, 2, 25, 26] (.reg [⟨some 52, .bin .add (.t 26) (.c (.int .i64 1)), none⟩,
    ⟨some 26, .mv (.t 52), none⟩])
def c41_k2_go {Q e n H} := @awgoA Tryd.prog _ _ c41_k2.eq_1 Q e n H
def c41_k3 : ACode := .kp [1, 2, 4, 5, 25, 26] (.seq (.segs [⟨none, [⟨some 38, .faddr (.t 5) 0 none, none⟩,
      ⟨some 39, .load none (.t 38), none⟩,
      ⟨some 40, .faddr (.t 5) 1 none, none⟩,
      ⟨some 41, .load none (.t 40), none⟩,
      ⟨some 42, .bin .lss (.t 39) (.t 41), none⟩,
      ⟨some 43, .mv (.t 42), none⟩], none⟩,
    ⟨some (43, false), [⟨some 44, .faddr (.t 5) 0 none, none⟩,
      ⟨some 45, .load none (.t 44), none⟩,
      ⟨some 46, .faddr (.t 5) 2 none, none⟩,
      ⟨some 47, .load none (.t 46), none⟩,
      ⟨some 48, .bin .gtr (.t 45) (.t 47), none⟩], some (49, 48)⟩]) (.kp [1, 2, 4, 25, 26, 49] (.cond (.t 49) (.seq (.reg [⟨some 50, .mv (.t 4), none⟩,
    ⟨some 51, .build [(.int .i64 0), (.int .i64 0)] [(0, none, (.c (.int .i64 4))), (1, none, (.t 50))], none⟩,
    ⟨none, .store (some 2) (.t 2) (.t 51), none⟩]) (.ret)) (.skip))))
def c41_k3_go {Q e n H} := @awgoA Tryd.prog _ _ c41_k3.eq_1 Q e n H
def c41_k4 : ACode := .kp [1, 2, 25, 26] (.seq (.block 1 (.seq (.reg [⟨some 28, .mv (.t 26), none⟩,
    ⟨some 29, .aidx 6 3 (some 3) (.t 25) (.t 26), none⟩,
    ⟨some 5, .alloc 95 [(.int .i64 0), (.int .i64 0), (.int .i64 0)], none⟩,
    ⟨some 4, .mv (.t 28), none⟩,
    ⟨none, .store (some 3) (.t 5) (.t 29), none⟩]) (.kp [1, 2, 4, 5, 25, 26] (.seq (.seq (.reg [⟨some 30, .mv (.t 4), none⟩,
    ⟨some 31, .bin .eql (.t 30) (.c (.int .i64 2)), none⟩]) (.kp [1, 2, 4, 5, 25, 26, 31] (.cond (.t 31) (.reg [⟨some 32, .faddr (.t 1) 0 none, none⟩,
    ⟨some 33, .load none (.t 32), none⟩,
    ⟨some 34, .faddr (.t 1) 1 none, none⟩,
    ⟨some 35, .load none (.t 34), none⟩,
    ⟨some 36, .callp 67 [(.t 33), (.t 35)], none⟩,
    ⟨some 37, .faddr (.t 5) 2 none, none⟩,
    ⟨none, .store none (.t 37) (.t 36), none⟩]) (.skip)))) (c41_k3))))) (c41_k2))
def c41_k4_go {Q e n H} := @awgoA Tryd.prog _ _ c41_k4.eq_1 Q e n H
def c41_L5 : ACode := .ke [1, 2, 25, 26] (.seq (.reg [⟨some 27, .bin .lss (.t 26) (.c (.int .i64 6)), none⟩]) (.kp [1, 2, 25, 26, 27] (.seq (.cond (.t 27) (.skip) (.exit 0)) (c41_k4))))
def c41_L5_go {Q e n H} := @awgoA Tryd.prog _ _ c41_L5.eq_1 Q e n H
def c41 : AFun := { nargs := 1, nt := 54, res := [.cell 2 (some 2)], code := .seq (.reg [⟨some 1, .box 23 (some 6) (.t 0), none⟩,
    ⟨some 2, .alloc 25 [(.int .i64 0), (.int .i64 0)], none⟩]) (.kp [1, 2] (.seq (.reg [⟨some 6, .faddr (.t 1) 0 none, none⟩,
    ⟨some 7, .load none (.t 6), none⟩,
    ⟨some 8, .build [(.int .i64 0), (.int .i64 0), (.int .i64 0)] [(0, none, (.t 7)), (1, none, (.c (.int .i64 1))), (2, none, (.c (.int .i64 9999)))], none⟩,
    ⟨some 9, .faddr (.t 1) 1 none, none⟩,
    ⟨some 10, .load none (.t 9), none⟩,
    ⟨some 11, .build [(.int .i64 0), (.int .i64 0), (.int .i64 0)] [(0, none, (.t 10)), (1, none, (.c (.int .i64 1))), (2, none, (.c (.int .i64 12)))], none⟩,
    ⟨some 12, .faddr (.t 1) 2 none, none⟩,
    ⟨some 13, .load none (.t 12), none⟩,
    ⟨some 14, .build [(.int .i64 0), (.int .i64 0), (.int .i64 0)] [(0, none, (.t 13)), (1, none, (.c (.int .i64 1))), (2, none, (.c (.int .i64 31)))], none⟩,
    ⟨some 15, .faddr (.t 1) 3 none, none⟩,
    ⟨some 16, .load none (.t 15), none⟩,
    ⟨some 17, .build [(.int .i64 0), (.int .i64 0), (.int .i64 0)] [(0, none, (.t 16)), (1, none, (.c (.int .i64 0))), (2, none, (.c (.int .i64 23)))], none⟩,
    ⟨some 18, .faddr (.t 1) 4 none, none⟩,
    ⟨some 19, .load none (.t 18), none⟩,
    ⟨some 20, .build [(.int .i64 0), (.int .i64 0), (.int .i64 0)] [(0, none, (.t 19)), (1, none, (.c (.int .i64 0))), (2, none, (.c (.int .i64 59)))], none⟩,
    ⟨some 21, .faddr (.t 1) 5 none, none⟩,
    ⟨some 22, .load none (.t 21), none⟩,
    ⟨some 23, .build [(.int .i64 0), (.int .i64 0), (.int .i64 0)] [(0, none, (.t 22)), (1, none, (.c (.int .i64 0))), (2, none, (.c (.int .i64 59)))], none⟩,
    ⟨some 24, .build [(.int .i64 0), (.int .i64 0), (.int .i64 0), (.int .i64 0), (.int .i64 0), (.int .i64 0), (.int .i64 0), (.int .i64 0), (.int .i64 0), (.int .i64 0), (.int .i64 0), (.int .i64 0), (.int .i64 0), (.int .i64 0), (.int .i64 0), (.int .i64 0), (.int .i64 0), (.int .i64 0)] [(0, (some 3), (.t 8)), (3, (some 3), (.t 11)), (6, (some 3), (.t 14)), (9, (some 3), (.t 17)), (12, (some 3), (.t 20)), (15, (some 3), (.t 23))], none⟩,
    ⟨some 3, .alloc 96 [(.int .i64 0), (.int .i64 0), (.int .i64 0), (.int .i64 0), (.int .i64 0), (.int .i64 0), (.int .i64 0), (.int .i64 0), (.int .i64 0), (.int .i64 0), (.int .i64 0), (.int .i64 0), (.int .i64 0), (.int .i64 0), (.int .i64 0), (.int .i64 0), (.int .i64 0), (.int .i64 0)], none⟩,
    ⟨none, .store (some 18) (.t 3) (.t 24), none⟩]) (.kp [1, 2, 3] (.seq (.seq (.reg [⟨some 25, .load (some 18) (.t 3), none⟩,
    ⟨some 26, .mv (.c (.int .i64 0)), none⟩]) (.kp [1, 2, 25, 26] (.block 0 (.kp [1, 2, 25, 26] (.loop c41_L5))))) (c41_k1))))) }
theorem cmp41 : (cFun Tryd.prog efs Tryd.f41).map (fun x => (x.nargs, x.nt, x.res, x.code)) = some (c41.nargs, c41.nt, c41.res, bare c41.code) := by kernel_rfl
def c49_k1 : ACode := .kp [1] (.seq (.reg [⟨some 20, .mv (.t 1), none⟩,
    ⟨some 21, .mv (.t 1), none⟩,
    ⟨some 22, .bin .quo (.t 21) (.c (.int .i64 8)), none⟩,
    ⟨some 23, .bin .add (.t 20) (.t 22), none⟩,
    ⟨some 24, .bin .rem (.t 23) (.c (.int .i64 2)), none⟩,
    ⟨some 25, .bin .add (.c (.int .i64 30)) (.t 24), none⟩,
    ⟨some 4, .mv (.t 25), none⟩]) (.ret))
def c49_k1_go {Q e n H} := @awgoA Tryd.prog _ _ c49_k1.eq_1 Q e n H
def c49_k2 : ACode := .kp [] (.seq (.reg [⟨some 4, .mv (.c (.int .i64 28)), none⟩]) (.ret))
def c49_k2_go {Q e n H} := @awgoA Tryd.prog _ _ c49_k2.eq_1 Q e n H
def c49_t3 : ACode := .kp [0] (.seq (.seq (.segs [⟨none, [⟨some 7, .mv (.t 0), none⟩,
      ⟨some 8, .bin .rem (.t 7) (.c (.int .i64 400)), none⟩,
      ⟨some 9, .bin .eql (.t 8) (.c (.int .i64 0)), none⟩,
      ⟨some 10, .mv (.t 9), none⟩], none⟩,
    ⟨some (10, false), [⟨some 11, .mv (.t 0), none⟩,
      ⟨some 12, .bin .rem (.t 11) (.c (.int .i64 4)), none⟩,
      ⟨some 13, .bin .eql (.t 12) (.c (.int .i64 0)), none⟩,
      ⟨some 14, .mv (.t 13), none⟩], none⟩,
    ⟨some (14, true), [⟨some 15, .mv (.t 0), none⟩,
      ⟨some 16, .bin .rem (.t 15) (.c (.int .i64 100)), none⟩,
      ⟨some 17, .bin .neq (.t 16) (.c (.int .i64 0)), none⟩], none⟩,
    ⟨some (10, false), [⟨some 18, .pick (.t 14) (.t 17) (.c (.bool false)), none⟩], some (19, 18)⟩]) (.kp [19] (.cond (.t 19) (.seq (.reg [⟨some 4, .mv (.c (.int .i64 29)), none⟩]) (.ret)) (.skip)))) (c49_k2))
def c49_t3_go {Q e n H} := @awgoA Tryd.prog _ _ c49_t3.eq_1 Q e n H
def c49 : AFun := { nargs := 2, nt := 26, res := [.tmp 4], code := .seq (.reg [⟨some 4, .mv (.c (.int .i64 0)), none⟩]) (.kp [0, 1] (.seq (.seq (.reg [⟨some 5, .mv (.t 1), none⟩,
    ⟨some 6, .bin .eql (.t 5) (.c (.int .i64 2)), none⟩]) (.kp [0, 1, 6] (.cond (.t 6) (c49_t3) (.skip)))) (c49_k1))) }
theorem cmp49 : (cFun Tryd.prog efs Tryd.f49).map (fun x => (x.nargs, x.nt, x.res, x.code)) = some (c49.nargs, c49.nt, c49.res, bare c49.code) := by kernel_rfl
def c51 : AFun := { nargs := 0, nt := 2, res := [.cell 0 (some 6)], code := .seq (.reg [⟨some 0, .alloc 23 [(.int .i64 0), (.int .i64 0), (.int .i64 0), (.int .i64 0), (.int .i64 0), (.int .i64 0)], none⟩]) (.kp [0] (.seq (.reg [⟨some 1, .build [(.int .i64 0), (.int .i64 0), (.int .i64 0), (.int .i64 0), (.int .i64 0), (.int .i64 0)] [(0, none, (.c (.int .i64 2021))), (1, none, (.c (.int .i64 1))), (2, none, (.c (.int .i64 1)))], none⟩,
    ⟨none, .store (some 6) (.t 0) (.t 1), none⟩]) (.ret))) }
theorem cmp51 : (cFun Tryd.prog efs Tryd.f51).map (fun x => (x.nargs, x.nt, x.res, x.code)) = some (c51.nargs, c51.nt, c51.res, bare c51.code) := by kernel_rfl
def c54 : AFun := { nargs := 1, nt := 18, res := [.tmp 2], code := .seq (.reg [⟨some 1, .box 23 (some 6) (.t 0), none⟩,
    ⟨some 2, .mv (.c (.int .i64 0)), none⟩]) (.kp [1] (.seq (.reg [⟨some 3, .load (some 6) (.t 1), none⟩,
    ⟨some 4, .callp 56 [(.t 3)], none⟩,
    ⟨some 5, .bin .sub (.t 4) (.c (.int .i64 1)), none⟩,
    ⟨some 6, .bin .mul (.t 5) (.c (.int .i64 86400)), none⟩,
    ⟨some 7, .faddr (.t 1) 3 none, none⟩,
    ⟨some 8, .load none (.t 7), none⟩,
    ⟨some 9, .bin .mul (.t 8) (.c (.int .i64 60)), none⟩,
    ⟨some 10, .faddr (.t 1) 4 none, none⟩,
    ⟨some 11, .load none (.t 10), none⟩,
    ⟨some 12, .bin .add (.t 9) (.t 11), none⟩,
    ⟨some 13, .bin .mul (.t 12) (.c (.int .i64 60)), none⟩,
    ⟨some 14, .bin .add (.t 6) (.t 13), none⟩,
    ⟨some 15, .faddr (.t 1) 5 none, none⟩,
    ⟨some 16, .load none (.t 15), none⟩,
    ⟨some 17, .bin .add (.t 14) (.t 16), none⟩,
    ⟨some 2, .mv (.t 17), none⟩]) (.ret))) }
theorem cmp54 : (cFun Tryd.prog efs Tryd.f54).map (fun x => (x.nargs, x.nt, x.res, x.code)) = some (c54.nargs, c54.nt, c54.res, bare c54.code) := by kernel_rfl
def c55 : AFun := { nargs := 1, nt := 6, res := [.tmp 2], code := .seq (.reg [⟨some 2, .mv (.c (.int .i64 0)), none⟩]) (.kp [0] (.seq (.reg [⟨some 3, .mv (.t 0), none⟩,
    ⟨some 4, .bin .sub (.t 3) (.c (.int .i64 1)), none⟩,
    ⟨some 5, .bin .rem (.t 4) (.c (.int .i64 7)), none⟩,
    ⟨some 2, .mv (.t 5), none⟩]) (.ret))) }
theorem cmp55 : (cFun Tryd.prog efs Tryd.f55).map (fun x => (x.nargs, x.nt, x.res, x.code)) = some (c55.nargs, c55.nt, c55.res, bare c55.code) := by kernel_rfl
def c56 : AFun := { nargs := 1, nt := 14, res := [.tmp 2], code := .seq (.reg [⟨some 1, .box 23 (some 6) (.t 0), none⟩,
    ⟨some 2, .mv (.c (.int .i64 0)), none⟩]) (.kp [1] (.seq (.reg [⟨some 3, .faddr (.t 1) 0 none, none⟩,
    ⟨some 4, .load none (.t 3), none⟩,
    ⟨some 5, .callp 89 [(.t 4)], none⟩,
    ⟨some 6, .faddr (.t 1) 0 none, none⟩,
    ⟨some 7, .load none (.t 6), none⟩,
    ⟨some 8, .faddr (.t 1) 1 none, none⟩,
    ⟨some 9, .load none (.t 8), none⟩,
    ⟨some 10, .faddr (.t 1) 2 none, none⟩,
    ⟨some 11, .load none (.t 10), none⟩,
    ⟨some 12, .callp 78 [(.t 7), (.t 9), (.t 11)], none⟩,
    ⟨some 13, .bin .add (.t 5) (.t 12), none⟩,
    ⟨some 2, .mv (.t 13), none⟩]) (.ret))) }
theorem cmp56 : (cFun Tryd.prog efs Tryd.f56).map (fun x => (x.nargs, x.nt, x.res, x.code)) = some (c56.nargs, c56.nt, c56.res, bare c56.code) := by kernel_rfl
def c57_k1 : ACode := .kp [4, 5] (.seq (.reg [⟨some 25, .mv (.t 5), none⟩,
    ⟨some 26, .mv (.t 4), none⟩,
    ⟨some 27, .mv (.t 5), none⟩,
    ⟨some 28, .callp 60 [(.t 27)], none⟩,
    ⟨some 29, .bin .sub (.t 26) (.t 28), none⟩,
    ⟨some 30, .bin .quo (.t 29) (.c (.int .i64 7)), none⟩,
    ⟨some 31, .bin .add (.t 30) (.c (.int .i64 1)), none⟩,
    ⟨some 2, .mv (.t 25), none⟩,
    ⟨some 3, .mv (.t 31), none⟩]) (.ret))
def c57_k1_go {Q e n H} := @awgoA Tryd.prog _ _ c57_k1.eq_1 Q e n H
def c57_e2 : ACode := .kp [4, 5] (.seq (.reg [⟨some 18, .mv (.t 4), none⟩,
    ⟨some 19, .mv (.t 5), none⟩,
    ⟨some 20, .bin .add (.t 19) (.c (.int .i64 1)), none⟩,
    ⟨some 21, .callp 60 [(.t 20)], none⟩,
    ⟨some 22, .bin .geq (.t 18) (.t 21), none⟩,
    ⟨some 17, .mv (.t 22), none⟩]) (.kp [4, 5, 17] (.cond (.t 17) (.reg [⟨some 23, .mv (.t 5), none⟩,
    ⟨some 24, .bin .add (.t 23) (.c (.int .i64 1)), none⟩,
    ⟨some 5, .mv (.t 24), none⟩]) (.skip))))
def c57_e2_go {Q e n H} := @awgoA Tryd.prog _ _ c57_e2.eq_1 Q e n H
def c57 : AFun := { nargs := 1, nt := 32, res := [.tmp 2, .tmp 3], code := .seq (.reg [⟨some 1, .box 23 (some 6) (.t 0), none⟩,
    ⟨some 2, .mv (.c (.int .i64 0)), none⟩,
    ⟨some 3, .mv (.c (.int .i64 0)), none⟩]) (.kp [1] (.seq (.reg [⟨some 6, .load (some 6) (.t 1), none⟩,
    ⟨some 7, .callp 56 [(.t 6)], none⟩,
    ⟨some 4, .mv (.t 7), none⟩]) (.kp [1, 4] (.seq (.reg [⟨some 8, .faddr (.t 1) 0 none, none⟩,
    ⟨some 9, .load none (.t 8), none⟩,
    ⟨some 5, .mv (.t 9), none⟩]) (.kp [4, 5] (.seq (.block 0 (.seq (.reg [⟨some 11, .mv (.t 4), none⟩,
    ⟨some 12, .mv (.t 5), none⟩,
    ⟨some 13, .callp 60 [(.t 12)], none⟩,
    ⟨some 14, .bin .lss (.t 11) (.t 13), none⟩,
    ⟨some 10, .mv (.t 14), none⟩]) (.kp [4, 5, 10] (.cond (.t 10) (.reg [⟨some 15, .mv (.t 5), none⟩,
    ⟨some 16, .bin .sub (.t 15) (.c (.int .i64 1)), none⟩,
    ⟨some 5, .mv (.t 16), none⟩]) (c57_e2))))) (c57_k1))))))) }
theorem cmp57 : (cFun Tryd.prog efs Tryd.f57).map (fun x => (x.nargs, x.nt, x.res, x.code)) = some (c57.nargs, c57.nt, c57.res, bare c57.code) := by kernel_rfl
def c60 : AFun := { nargs := 1, nt := 11, res := [.tmp 2], code := .seq (.reg [⟨some 2, .mv (.c (.int .i64 0)), none⟩]) (.kp [0] (.seq (.reg [⟨some 4, .mv (.t 0), none⟩,
    ⟨some 5, .callp 89 [(.t 4)], none⟩,
    ⟨some 6, .bin .add (.t 5) (.c (.int .i64 4)), none⟩,
    ⟨some 3, .mv (.t 6), none⟩]) (.kp [3] (.seq (.reg [⟨some 7, .mv (.t 3), none⟩,
    ⟨some 8, .mv (.t 3), none⟩,
    ⟨some 9, .callp 55 [(.t 8)], none⟩,
    ⟨some 10, .bin .sub (.t 7) (.t 9), none⟩,
    ⟨some 2, .mv (.t 10), none⟩]) (.ret))))) }
theorem cmp60 : (cFun Tryd.prog efs Tryd.f60).map (fun x => (x.nargs, x.nt, x.res, x.code)) = some (c60.nargs, c60.nt, c60.res, bare c60.code) := by kernel_rfl
def c67_k1 : ACode := .kp [] (.seq (.reg [⟨some 4, .mv (.c (.int .i64 31)), none⟩]) (.ret))
def c67_k1_go {Q e n H} := @awgoA Tryd.prog _ _ c67_k1.eq_1 Q e n H
def c67_k2 : ACode := .kp [] (.seq (.reg [⟨some 4, .mv (.c (.int .i64 28)), none⟩]) (.ret))
def c67_k2_go {Q e n H} := @awgoA Tryd.prog _ _ c67_k2.eq_1 Q e n H
def c67_k3 : ACode := .kp [10] (.cond (.t 10) (.seq (.reg [⟨some 4, .mv (.c (.int .i64 30)), none⟩]) (.ret)) (.skip))
def c67_k3_go {Q e n H} := @awgoA Tryd.prog _ _ c67_k3.eq_1 Q e n H
def c67_e4 : ACode := .kp [5] (.seq (.reg [⟨some 13, .bin .eql (.t 5) (.c (.int .i64 9)), none⟩,
    ⟨some 10, .mv (.t 13), none⟩]) (.kp [5, 10] (.cond (.t 10) (.skip) (.reg [⟨some 14, .bin .eql (.t 5) (.c (.int .i64 11)), none⟩,
    ⟨some 10, .mv (.t 14), none⟩]))))
def c67_e4_go {Q e n H} := @awgoA Tryd.prog _ _ c67_e4.eq_1 Q e n H
def c67_e5 : ACode := .kp [5] (.seq (.reg [⟨some 12, .bin .eql (.t 5) (.c (.int .i64 6)), none⟩,
    ⟨some 10, .mv (.t 12), none⟩]) (.kp [5, 10] (.cond (.t 10) (.skip) (c67_e4))))
def c67_e5_go {Q e n H} := @awgoA Tryd.prog _ _ c67_e5.eq_1 Q e n H
def c67_t6 : ACode := .kp [0] (.seq (.seq (.reg [⟨some 8, .mv (.t 0), none⟩,
    ⟨some 9, .callp 93 [(.t 8)], none⟩]) (.kp [9] (.cond (.t 9) (.seq (.reg [⟨some 4, .mv (.c (.int .i64 29)), none⟩]) (.ret)) (.skip)))) (c67_k2))
def c67_t6_go {Q e n H} := @awgoA Tryd.prog _ _ c67_t6.eq_1 Q e n H
def c67_e7 : ACode := .kp [5] (.seq (.seq (.reg [⟨some 11, .bin .eql (.t 5) (.c (.int .i64 4)), none⟩,
    ⟨some 10, .mv (.t 11), none⟩]) (.kp [5, 10] (.cond (.t 10) (.skip) (c67_e5)))) (c67_k3))
def c67_e7_go {Q e n H} := @awgoA Tryd.prog _ _ c67_e7.eq_1 Q e n H
def c67 : AFun := { nargs := 2, nt := 15, res := [.tmp 4], code := .seq (.reg [⟨some 4, .mv (.c (.int .i64 0)), none⟩]) (.kp [0, 1] (.seq (.seq (.reg [⟨some 5, .mv (.t 1), none⟩]) (.kp [0, 5] (.block 0 (.seq (.reg [⟨some 7, .bin .eql (.t 5) (.c (.int .i64 2)), none⟩,
    ⟨some 6, .mv (.t 7), none⟩]) (.kp [0, 5, 6] (.cond (.t 6) (c67_t6) (c67_e7))))))) (c67_k1))) }
theorem cmp67 : (cFun Tryd.prog efs Tryd.f67).map (fun x => (x.nargs, x.nt, x.res, x.code)) = some (c67.nargs, c67.nt, c67.res, bare c67.code) := by kernel_rfl
def c78_k1 : ACode := .kp [2] (.seq (.reg [⟨some 18, .mv (.t 2), none⟩,
    ⟨some 6, .mv (.t 18), none⟩]) (.ret))
def c78_k1_go {Q e n H} := @awgoA Tryd.prog _ _ c78_k1.eq_1 Q e n H
def c78_k2 : ACode := .kp [0, 1, 2, 7] (.reg [⟨some 11, .mv (.t 7), none⟩,
    ⟨some 12, .bin .add (.t 11) (.c (.int .i64 1)), none⟩,
    ⟨some 7, .mv (.t 12), none⟩])
def c78_k2_go {Q e n H} := @awgoA Tryd.prog _ _ c78_k2.eq_1 Q e n H
def c78_k3 : ACode := .kp [0, 1, 2, 7] (.seq (.block 1 (.reg [⟨some 13, .mv (.t 2), none⟩,
    ⟨some 14, .mv (.t 0), none⟩,
    ⟨some 15, .mv (.t 7), none⟩,
    ⟨some 16, .callp 67 [(.t 14), (.t 15)], none⟩,
    ⟨some 17, .bin .add (.t 13) (.t 16), none⟩,
    ⟨some 2, .mv (.t 17), none⟩])) (c78_k2))
def c78_k3_go {Q e n H} := @awgoA Tryd.prog _ _ c78_k3.eq_1 Q e n H
def c78_L4 : ACode := .ke [0, 1, 2, 7] (.seq (.seq (.reg [⟨some 8, .mv (.t 7), none⟩,
    ⟨some 9, .mv (.t 1), none⟩,
    ⟨some 10, .bin .lss (.t 8) (.t 9), none⟩]) (.kp [0, 1, 2, 7, 10] (.cond (.t 10) (.skip) (.exit 0)))) (c78_k3))
def c78_L4_go {Q e n H} := @awgoA Tryd.prog _ _ c78_L4.eq_1 Q e n H
def c78 : AFun := { nargs := 3, nt := 19, res := [.tmp 6], code := .seq (.reg [⟨some 6, .mv (.c (.int .i64 0)), none⟩]) (.kp [0, 1, 2] (.seq (.seq (.reg [⟨some 7, .mv (.c (.int .i64 1)), none⟩]) (.kp [0, 1, 2, 7] (.block 0 (.kp [0, 1, 2, 7] (.loop c78_L4))))) (c78_k1))) }
theorem cmp78 : (cFun Tryd.prog efs Tryd.f78).map (fun x => (x.nargs, x.nt, x.res, x.code)) = some (c78.nargs, c78.nt, c78.res, bare c78.code) := by kernel_rfl
def c89 : AFun := { nargs := 1, nt := 17, res := [.tmp 2], code := .seq (.reg [⟨some 2, .mv (.c (.int .i64 0)), none⟩]) (.kp [0] (.seq (.reg [⟨some 4, .mv (.t 0), none⟩,
    ⟨some 5, .bin .sub (.t 4) (.c (.int .i64 1)), none⟩,
    ⟨some 3, .mv (.t 5), none⟩]) (.kp [3] (.seq (.reg [⟨some 6, .mv (.t 3), none⟩,
    ⟨some 7, .bin .mul (.c (.int .i64 365)) (.t 6), none⟩,
    ⟨some 8, .mv (.t 3), none⟩,
    ⟨some 9, .bin .quo (.t 8) (.c (.int .i64 4)), none⟩,
    ⟨some 10, .bin .add (.t 7) (.t 9), none⟩,
    ⟨some 11, .mv (.t 3), none⟩,
    ⟨some 12, .bin .quo (.t 11) (.c (.int .i64 100)), none⟩,
    ⟨some 13, .bin .sub (.t 10) (.t 12), none⟩,
    ⟨some 14, .mv (.t 3), none⟩,
    ⟨some 15, .bin .quo (.t 14) (.c (.int .i64 400)), none⟩,
    ⟨some 16, .bin .add (.t 13) (.t 15), none⟩,
    ⟨some 2, .mv (.t 16), none⟩]) (.ret))))) }
theorem cmp89 : (cFun Tryd.prog efs Tryd.f89).map (fun x => (x.nargs, x.nt, x.res, x.code)) = some (c89.nargs, c89.nt, c89.res, bare c89.code) := by kernel_rfl
def c93 : AFun := { nargs := 1, nt := 16, res := [.tmp 2], code := .seq (.reg [⟨some 2, .mv (.c (.bool false)), none⟩]) (.kp [0] (.seq (.segs [⟨none, [⟨some 3, .mv (.t 0), none⟩,
      ⟨some 4, .bin .rem (.t 3) (.c (.int .i64 4)), none⟩,
      ⟨some 5, .bin .eql (.t 4) (.c (.int .i64 0)), none⟩,
      ⟨some 6, .mv (.t 5), none⟩], none⟩,
    ⟨some (6, true), [⟨some 7, .mv (.t 0), none⟩,
      ⟨some 8, .bin .rem (.t 7) (.c (.int .i64 100)), none⟩,
      ⟨some 9, .bin .neq (.t 8) (.c (.int .i64 0)), none⟩,
      ⟨some 10, .mv (.t 9), none⟩], none⟩,
    ⟨some (10, false), [⟨some 11, .mv (.t 0), none⟩,
      ⟨some 12, .bin .rem (.t 11) (.c (.int .i64 400)), none⟩,
      ⟨some 13, .bin .eql (.t 12) (.c (.int .i64 0)), none⟩], none⟩,
    ⟨some (6, true), [⟨some 14, .pick (.t 10) (.c (.bool true)) (.t 13), none⟩], some (15, 14)⟩,
    ⟨none, [⟨some 2, .mv (.t 15), none⟩], none⟩]) (.ret))) }
theorem cmp93 : (cFun Tryd.prog efs Tryd.f93).map (fun x => (x.nargs, x.nt, x.res, x.code)) = some (c93.nargs, c93.nt, c93.res, bare c93.code) := by kernel_rfl
def c16_k1 : ACode := .kp [2] (.seq (.reg [⟨some 38, .callp 29 [(.c (.int .i64 0)), (.c (.int .i64 0))], none⟩,
    ⟨none, .store (some 2) (.t 2) (.t 38), none⟩]) (.ret))
def c16_k1_go {Q e n H} := @awgoA Tryd.prog _ _ c16_k1.eq_1 Q e n H
def c16_k2 : ACode := .kp [1, 2] (.seq (.seq (.reg [⟨some 33, .faddr (.t 1) 5 none, none⟩,
    ⟨some 34, .load none (.t 33), none⟩,
    ⟨some 35, .callp 28 [(.t 34), (.c (.int .i64 0)), (.c (.int .i64 59))], none⟩,
    ⟨some 36, .not (.t 35), none⟩]) (.kp [2, 36] (.cond (.t 36) (.seq (.reg [⟨some 37, .callp 29 [(.c (.int .i64 4)), (.c (.int .i64 5))], none⟩,
    ⟨none, .store (some 2) (.t 2) (.t 37), none⟩]) (.ret)) (.skip)))) (c16_k1))
def c16_k2_go {Q e n H} := @awgoA Tryd.prog _ _ c16_k2.eq_1 Q e n H
def c16_k3 : ACode := .kp [1, 2] (.seq (.seq (.reg [⟨some 28, .faddr (.t 1) 4 none, none⟩,
    ⟨some 29, .load none (.t 28), none⟩,
    ⟨some 30, .callp 28 [(.t 29), (.c (.int .i64 0)), (.c (.int .i64 59))], none⟩,
    ⟨some 31, .not (.t 30), none⟩]) (.kp [1, 2, 31] (.cond (.t 31) (.seq (.reg [⟨some 32, .callp 29 [(.c (.int .i64 4)), (.c (.int .i64 4))], none⟩,
    ⟨none, .store (some 2) (.t 2) (.t 32), none⟩]) (.ret)) (.skip)))) (c16_k2))
def c16_k3_go {Q e n H} := @awgoA Tryd.prog _ _ c16_k3.eq_1 Q e n H
def c16_k4 : ACode := .kp [1, 2] (.seq (.seq (.reg [⟨some 23, .faddr (.t 1) 3 none, none⟩,
    ⟨some 24, .load none (.t 23), none⟩,
    ⟨some 25, .callp 28 [(.t 24), (.c (.int .i64 0)), (.c (.int .i64 23))], none⟩,
    ⟨some 26, .not (.t 25), none⟩]) (.kp [1, 2, 26] (.cond (.t 26) (.seq (.reg [⟨some 27, .callp 29 [(.c (.int .i64 4)), (.c (.int .i64 3))], none⟩,
    ⟨none, .store (some 2) (.t 2) (.t 27), none⟩]) (.ret)) (.skip)))) (c16_k3))
def c16_k4_go {Q e n H} := @awgoA Tryd.prog _ _ c16_k4.eq_1 Q e n H
def c16_k5 : ACode := .kp [1, 2] (.seq (.seq (.reg [⟨some 13, .faddr (.t 1) 2 none, none⟩,
    ⟨some 14, .load none (.t 13), none⟩,
    ⟨some 15, .faddr (.t 1) 0 none, none⟩,
    ⟨some 16, .load none (.t 15), none⟩,
    ⟨some 17, .faddr (.t 1) 1 none, none⟩,
    ⟨some 18, .load none (.t 17), none⟩,
    ⟨some 19, .callp 49 [(.t 16), (.t 18)], none⟩,
    ⟨some 20, .callp 28 [(.t 14), (.c (.int .i64 1)), (.t 19)], none⟩,
    ⟨some 21, .not (.t 20), none⟩]) (.kp [1, 2, 21] (.cond (.t 21) (.seq (.reg [⟨some 22, .callp 29 [(.c (.int .i64 4)), (.c (.int .i64 2))], none⟩,
    ⟨none, .store (some 2) (.t 2) (.t 22), none⟩]) (.ret)) (.skip)))) (c16_k4))
def c16_k5_go {Q e n H} := @awgoA Tryd.prog _ _ c16_k5.eq_1 Q e n H
def c16_k6 : ACode := .kp [1, 2] (.seq (.seq (.reg [⟨some 8, .faddr (.t 1) 1 none, none⟩,
    ⟨some 9, .load none (.t 8), none⟩,
    ⟨some 10, .callp 28 [(.t 9), (.c (.int .i64 1)), (.c (.int .i64 12))], none⟩,
    ⟨some 11, .not (.t 10), none⟩]) (.kp [1, 2, 11] (.cond (.t 11) (.seq (.reg [⟨some 12, .callp 29 [(.c (.int .i64 4)), (.c (.int .i64 1))], none⟩,
    ⟨none, .store (some 2) (.t 2) (.t 12), none⟩]) (.ret)) (.skip)))) (c16_k5))
def c16_k6_go {Q e n H} := @awgoA Tryd.prog _ _ c16_k6.eq_1 Q e n H
def c16 : AFun := { nargs := 1, nt := 39, res := [.cell 2 (some 2)], code := .seq (.reg [⟨some 1, .box 23 (some 6) (.t 0), none⟩,
    ⟨some 2, .alloc 25 [(.int .i64 0), (.int .i64 0)], none⟩]) (.kp [1, 2] (.seq (.seq (.reg [⟨some 3, .faddr (.t 1) 0 none, none⟩,
    ⟨some 4, .load none (.t 3), none⟩,
    ⟨some 5, .callp 28 [(.t 4), (.c (.int .i64 1)), (.c (.int .i64 9999))], none⟩,
    ⟨some 6, .not (.t 5), none⟩]) (.kp [1, 2, 6] (.cond (.t 6) (.seq (.reg [⟨some 7, .callp 29 [(.c (.int .i64 4)), (.c (.int .i64 0))], none⟩,
    ⟨none, .store (some 2) (.t 2) (.t 7), none⟩]) (.ret)) (.skip)))) (c16_k6))) }
theorem cmp16 : (cFun Tryd.prog efs Tryd.f16).map (fun x => (x.nargs, x.nt, x.res, x.code)) = some (c16.nargs, c16.nt, c16.res, bare c16.code) := by kernel_rfl
end Go.Proofs.YtnmkpadgogbgkaaDoor
