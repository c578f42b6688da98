/- The code of some functions on plain data, by program, and that it is what the program's text gives; no condition. -/
import Derived.Test.YtnmkpadgogbgkaaDoorAdA
import Derived.Test.YtnmkpadgogbgkaaDoorProg
import Derived.KernelRfl
set_option linter.all false
set_option linter.unusedSimpArgs false
set_option linter.unusedVariables false
namespace Go.Proofs.YtnmkpadgogbgkaaDoor
theorem awgoD {P : Program} {c d : ACode} (h : c = d) {Q : AExit → AS → Prop} {e : AEnv} {n : Nat} {H : AHeap} : aw P c Q ⟨e, n, H⟩ = aw P d Q ⟨e, n, H⟩ := by rw [h]
def c13_k1 : ACode := .kp [0, 1, 5, 6] (.seq (.reg [⟨some 33, .mv (.t 0), none⟩,
    ⟨some 34, .mv (.t 1), none⟩,
    ⟨some 35, .callp 40 [(.t 33), (.t 34)], none⟩,
    ⟨some 32, .mv (.t 35), none⟩,
    ⟨some 36, .extr (.t 32) 0, none⟩,
    ⟨some 37, .extr (.t 32) 1, none⟩,
    ⟨some 8, .alloc 23 [(.int .i64 0), (.int .i64 0), (.int .i64 0), (.int .i64 0), (.int .i64 0), (.int .i64 0)], none⟩,
    ⟨some 9, .alloc 25 [(.int .i64 0), (.int .i64 0)], none⟩,
    ⟨none, .store (some 6) (.t 8) (.t 36), none⟩,
    ⟨none, .store (some 2) (.t 9) (.t 37), none⟩]) (.kp [5, 6, 8, 9] (.seq (.segs [⟨none, [⟨some 38, .load (some 2) (.t 6), none⟩,
      ⟨some 39, .load (some 2) (.t 9), none⟩,
      ⟨some 40, .eqs [.i, .i] false (.t 38) (.t 39), none⟩,
      ⟨some 41, .mv (.t 40), none⟩], none⟩,
    ⟨some (41, true), [⟨some 42, .load (some 6) (.t 5), none⟩,
      ⟨some 43, .load (some 6) (.t 8), none⟩,
      ⟨some 44, .eqs [.i, .i, .i, .i, .i, .i] false (.t 42) (.t 43), none⟩], some (45, 44)⟩,
    ⟨none, [⟨some 46, .mv (.t 45), none⟩], none⟩,
    ⟨some (46, true), [⟨some 47, .callp 18 [], none⟩], none⟩,
    ⟨none, [⟨some 48, .pick (.t 46) (.t 47) (.c (.bool false)), none⟩,
      ⟨some 4, .mv (.t 48), none⟩], none⟩]) (.ret))))
def c13_k1_go {Q e n H} := @awgoD Tryd.prog _ _ c13_k1.eq_1 Q e n H
def c13 : AFun := { nargs := 2, nt := 49, res := [.tmp 4], code := .seq (.reg [⟨some 4, .mv (.c (.bool false)), none⟩]) (.kp [0, 1] (.seq (.reg [⟨some 11, .mv (.t 0), none⟩,
    ⟨some 12, .mv (.t 1), none⟩,
    ⟨some 13, .callp 39 [(.t 11), (.t 12)], none⟩,
    ⟨some 10, .mv (.t 13), none⟩,
    ⟨some 14, .extr (.t 10) 0, none⟩,
    ⟨some 15, .extr (.t 10) 1, none⟩,
    ⟨some 5, .alloc 23 [(.int .i64 0), (.int .i64 0), (.int .i64 0), (.int .i64 0), (.int .i64 0), (.int .i64 0)], none⟩,
    ⟨some 6, .alloc 25 [(.int .i64 0), (.int .i64 0)], none⟩,
    ⟨none, .store (some 6) (.t 5) (.t 14), none⟩,
    ⟨none, .store (some 2) (.t 6) (.t 15), none⟩]) (.kp [0, 1, 5, 6] (.seq (.seq (.reg [⟨some 16, .mv (.t 1), none⟩,
    ⟨some 17, .callp 17 [(.t 16), (.c (.int .i64 1000))], none⟩,
    ⟨some 7, .alloc 25 [(.int .i64 0), (.int .i64 0)], none⟩,
    ⟨none, .store (some 2) (.t 7) (.t 17), none⟩]) (.kp [0, 1, 5, 6, 7] (.seq (.reg [⟨some 18, .faddr (.t 7) 0 none, none⟩,
    ⟨some 19, .load none (.t 18), none⟩,
    ⟨some 20, .bin .neq (.t 19) (.c (.int .i64 0)), none⟩]) (.kp [0, 1, 5, 6, 7, 20] (.cond (.t 20) (.seq (.segs [⟨none, [⟨some 21, .load (some 2) (.t 6), none⟩,
      ⟨some 22, .load (some 2) (.t 7), none⟩,
      ⟨some 23, .eqs [.i, .i] false (.t 21) (.t 22), none⟩,
      ⟨some 24, .mv (.t 23), none⟩], none⟩,
    ⟨some (24, true), [⟨some 25, .load (some 6) (.t 5), none⟩,
      ⟨some 26, .build [(.int .i64 0), (.int .i64 0), (.int .i64 0), (.int .i64 0), (.int .i64 0), (.int .i64 0)] [], none⟩,
      ⟨some 27, .eqs [.i, .i, .i, .i, .i, .i] false (.t 25) (.t 26), none⟩], some (28, 27)⟩,
    ⟨none, [⟨some 29, .mv (.t 28), none⟩], none⟩,
    ⟨some (29, true), [⟨some 30, .callp 18 [], none⟩], none⟩,
    ⟨none, [⟨some 31, .pick (.t 29) (.t 30) (.c (.bool false)), none⟩,
      ⟨some 4, .mv (.t 31), none⟩], none⟩]) (.ret)) (.skip)))))) (c13_k1))))) }
theorem cmp13 : (cFun Tryd.prog efs Tryd.f13).map (fun x => (x.nargs, x.nt, x.res, x.code)) = some (c13.nargs, c13.nt, c13.res, bare c13.code) := by kernel_rfl
def c14_k1 : ACode := .kp [2, 7] (.seq (.segs [⟨none, [⟨some 72, .faddr (.t 7) 3 none, none⟩,
      ⟨some 73, .load none (.t 72), none⟩,
      ⟨some 74, .faddr (.t 2) 3 none, none⟩,
      ⟨some 75, .load none (.t 74), none⟩,
      ⟨some 76, .bin .eql (.t 73) (.t 75), none⟩,
      ⟨some 77, .mv (.t 76), none⟩], none⟩,
    ⟨some (77, false), [⟨some 78, .faddr (.t 7) 3 none, none⟩,
      ⟨some 79, .load none (.t 78), none⟩,
      ⟨some 80, .bin .eql (.t 79) (.c (.int .i64 0)), none⟩], some (81, 80)⟩,
    ⟨none, [⟨some 82, .mv (.t 81), none⟩], none⟩,
    ⟨some (82, true), [⟨some 83, .faddr (.t 7) 4 none, none⟩,
      ⟨some 84, .load none (.t 83), none⟩,
      ⟨some 85, .faddr (.t 2) 4 none, none⟩,
      ⟨some 86, .load none (.t 85), none⟩,
      ⟨some 87, .bin .eql (.t 84) (.t 86), none⟩,
      ⟨some 88, .mv (.t 87), none⟩], none⟩,
    ⟨some (88, false), [⟨some 89, .faddr (.t 7) 4 none, none⟩,
      ⟨some 90, .load none (.t 89), none⟩,
      ⟨some 91, .bin .eql (.t 90) (.c (.int .i64 0)), none⟩], none⟩,
    ⟨some (82, true), [⟨some 92, .pick (.t 88) (.c (.bool true)) (.t 91), none⟩], some (93, 92)⟩,
    ⟨none, [⟨some 94, .mv (.t 93), none⟩], none⟩,
    ⟨some (94, true), [⟨some 95, .faddr (.t 7) 5 none, none⟩,
      ⟨some 96, .load none (.t 95), none⟩,
      ⟨some 97, .faddr (.t 2) 5 none, none⟩,
      ⟨some 98, .load none (.t 97), none⟩,
      ⟨some 99, .bin .eql (.t 96) (.t 98), none⟩,
      ⟨some 100, .mv (.t 99), none⟩], none⟩,
    ⟨some (100, false), [⟨some 101, .faddr (.t 7) 5 none, none⟩,
      ⟨some 102, .load none (.t 101), none⟩,
      ⟨some 103, .bin .eql (.t 102) (.c (.int .i64 0)), none⟩], none⟩,
    ⟨some (94, true), [⟨some 104, .pick (.t 100) (.c (.bool true)) (.t 103), none⟩], some (105, 104)⟩,
    ⟨none, [⟨some 106, .mv (.t 105), none⟩], none⟩,
    ⟨some (106, true), [⟨some 107, .callp 18 [], none⟩], none⟩,
    ⟨none, [⟨some 108, .pick (.t 106) (.t 107) (.c (.bool false)), none⟩,
      ⟨some 4, .mv (.t 108), none⟩], none⟩]) (.ret))
def c14_k1_go {Q e n H} := @awgoD Tryd.prog _ _ c14_k1.eq_1 Q e n H
def c14_k2 : ACode := .kp [1, 2, 5, 6] (.seq (.reg [⟨some 37, .mv (.t 5), none⟩,
    ⟨some 38, .mv (.t 1), none⟩,
    ⟨some 39, .bin .add (.c (.str [37, 100, 46, 37, 109, 46, 37, 89, 32])) (.t 38), none⟩,
    ⟨some 40, .callp 39 [(.t 37), (.t 39)], none⟩,
    ⟨some 36, .mv (.t 40), none⟩,
    ⟨some 41, .extr (.t 36) 0, none⟩,
    ⟨some 42, .extr (.t 36) 1, none⟩,
    ⟨some 7, .alloc 23 [(.int .i64 0), (.int .i64 0), (.int .i64 0), (.int .i64 0), (.int .i64 0), (.int .i64 0)], none⟩,
    ⟨some 8, .alloc 25 [(.int .i64 0), (.int .i64 0)], none⟩,
    ⟨none, .store (some 6) (.t 7) (.t 41), none⟩,
    ⟨none, .store (some 2) (.t 8) (.t 42), none⟩]) (.kp [2, 6, 7, 8] (.seq (.seq (.segs [⟨none, [⟨some 43, .faddr (.t 6) 0 none, none⟩,
      ⟨some 44, .load none (.t 43), none⟩,
      ⟨some 45, .bin .neq (.t 44) (.c (.int .i64 0)), none⟩,
      ⟨some 46, .mv (.t 45), none⟩], none⟩,
    ⟨some (46, false), [⟨some 47, .faddr (.t 8) 0 none, none⟩,
      ⟨some 48, .load none (.t 47), none⟩,
      ⟨some 49, .bin .neq (.t 48) (.c (.int .i64 0)), none⟩], some (50, 49)⟩,
    ⟨none, [⟨some 51, .mv (.t 50), none⟩], none⟩,
    ⟨some (51, false), [⟨some 52, .faddr (.t 7) 0 none, none⟩,
      ⟨some 53, .load none (.t 52), none⟩,
      ⟨some 54, .faddr (.t 2) 0 none, none⟩,
      ⟨some 55, .load none (.t 54), none⟩,
      ⟨some 56, .bin .neq (.t 53) (.t 55), none⟩], some (57, 56)⟩,
    ⟨none, [⟨some 58, .mv (.t 57), none⟩], none⟩,
    ⟨some (58, false), [⟨some 59, .faddr (.t 7) 1 none, none⟩,
      ⟨some 60, .load none (.t 59), none⟩,
      ⟨some 61, .faddr (.t 2) 1 none, none⟩,
      ⟨some 62, .load none (.t 61), none⟩,
      ⟨some 63, .bin .neq (.t 60) (.t 62), none⟩], some (64, 63)⟩,
    ⟨none, [⟨some 65, .mv (.t 64), none⟩], none⟩,
    ⟨some (65, false), [⟨some 66, .faddr (.t 7) 2 none, none⟩,
      ⟨some 67, .load none (.t 66), none⟩,
      ⟨some 68, .faddr (.t 2) 2 none, none⟩,
      ⟨some 69, .load none (.t 68), none⟩,
      ⟨some 70, .bin .neq (.t 67) (.t 69), none⟩], some (71, 70)⟩]) (.kp [2, 7, 71] (.cond (.t 71) (.seq (.reg [⟨some 4, .mv (.c (.bool false)), none⟩]) (.ret)) (.skip)))) (c14_k1))))
def c14_k2_go {Q e n H} := @awgoD Tryd.prog _ _ c14_k2.eq_1 Q e n H
def c14_k3 : ACode := .kp [1, 2] (.seq (.reg [⟨some 21, .load (some 6) (.t 2), none⟩,
    ⟨some 22, .mv (.t 1), none⟩,
    ⟨some 23, .bin .add (.c (.str [37, 100, 46, 37, 109, 46, 37, 89, 32])) (.t 22), none⟩,
    ⟨some 24, .callp 15 [(.t 21), (.t 23)], none⟩,
    ⟨some 20, .mv (.t 24), none⟩,
    ⟨some 25, .extr (.t 20) 0, none⟩,
    ⟨some 26, .extr (.t 20) 1, none⟩,
    ⟨some 6, .alloc 25 [(.int .i64 0), (.int .i64 0)], none⟩,
    ⟨some 5, .mv (.t 25), none⟩,
    ⟨none, .store (some 2) (.t 6) (.t 26), none⟩]) (.kp [1, 2, 5, 6] (.seq (.seq (.reg [⟨some 27, .mv (.t 1), none⟩,
    ⟨some 28, .lenS (.t 27), none⟩,
    ⟨some 29, .bin .gtr (.t 28) (.c (.int .i64 191)), none⟩]) (.kp [1, 2, 5, 6, 29] (.cond (.t 29) (.seq (.segs [⟨none, [⟨some 30, .faddr (.t 6) 0 none, none⟩,
      ⟨some 31, .load none (.t 30), none⟩,
      ⟨some 32, .bin .eql (.t 31) (.c (.int .i64 3)), none⟩,
      ⟨some 33, .mv (.t 32), none⟩], none⟩,
    ⟨some (33, true), [⟨some 34, .callp 18 [], none⟩], none⟩,
    ⟨none, [⟨some 35, .pick (.t 33) (.t 34) (.c (.bool false)), none⟩,
      ⟨some 4, .mv (.t 35), none⟩], none⟩]) (.ret)) (.skip)))) (c14_k2))))
def c14_k3_go {Q e n H} := @awgoD Tryd.prog _ _ c14_k3.eq_1 Q e n H
def c14 : AFun := { nargs := 2, nt := 109, res := [.tmp 4], code := .seq (.reg [⟨some 2, .box 23 (some 6) (.t 0), none⟩,
    ⟨some 4, .mv (.c (.bool false)), none⟩]) (.kp [1, 2] (.seq (.seq (.segs [⟨none, [⟨some 9, .load (some 6) (.t 2), none⟩,
      ⟨some 10, .callp 16 [(.t 9)], none⟩,
      ⟨some 11, .field (.t 10) 0 none, none⟩,
      ⟨some 12, .bin .neq (.t 11) (.c (.int .i64 0)), none⟩,
      ⟨some 13, .mv (.t 12), none⟩], none⟩,
    ⟨some (13, false), [⟨some 14, .mv (.t 1), none⟩,
      ⟨some 15, .callp 17 [(.t 14), (.c (.int .i64 0))], none⟩,
      ⟨some 16, .field (.t 15) 0 none, none⟩,
      ⟨some 17, .bin .neq (.t 16) (.c (.int .i64 0)), none⟩], none⟩,
    ⟨none, [⟨some 18, .pick (.t 13) (.c (.bool true)) (.t 17), none⟩], none⟩]) (.kp [1, 2, 18] (.cond (.t 18) (.seq (.reg [⟨some 19, .callp 18 [], none⟩,
    ⟨some 4, .mv (.t 19), none⟩]) (.ret)) (.skip)))) (c14_k3))) }
theorem cmp14 : (cFun Tryd.prog efs Tryd.f14).map (fun x => (x.nargs, x.nt, x.res, x.code)) = some (c14.nargs, c14.nt, c14.res, bare c14.code) := by kernel_rfl
def c39_k1 : ACode := .kp [4, 5, 11] (.seq (.reg [⟨some 107, .load (some 6) (.t 11), none⟩,
    ⟨some 108, .build [(.int .i64 0), (.int .i64 0)] [], none⟩,
    ⟨none, .store (some 6) (.t 4) (.t 107), none⟩,
    ⟨none, .store (some 2) (.t 5) (.t 108), none⟩]) (.ret))
def c39_k1_go {Q e n H} := @awgoD Tryd.prog _ _ c39_k1.eq_1 Q e n H
def c39_k2 : ACode := .kp [4, 5, 7, 11, 91] (.block 3 (.seq (.reg [⟨some 94, .ent (.t 91), none⟩,
    ⟨some 95, .extr (.t 94) 0, none⟩,
    ⟨some 96, .extr (.t 94) 1, none⟩,
    ⟨some 12, .mv (.t 95), none⟩,
    ⟨some 13, .mv (.t 96), none⟩]) (.kp [4, 5, 7, 11, 12, 13, 91] (.seq (.reg [⟨some 97, .mv (.t 7), none⟩,
    ⟨some 98, .mv (.t 12), none⟩,
    ⟨some 99, .mget (some .u8) (.agg [(.int .i64 0), (.sl 0 [] .nil), .nfn]) false (.t 97) (.t 98), none⟩,
    ⟨some 100, .field (.t 99) 2 none, none⟩,
    ⟨some 101, .load (some 6) (.t 11), none⟩,
    ⟨some 102, .callv (.t 100) [(.t 101)], none⟩,
    ⟨some 103, .mv (.t 13), none⟩,
    ⟨some 104, .bin .neq (.t 102) (.t 103), none⟩]) (.kp [4, 5, 7, 11, 91, 104] (.cond (.t 104) (.seq (.reg [⟨some 105, .build [(.int .i64 0), (.int .i64 0), (.int .i64 0), (.int .i64 0), (.int .i64 0), (.int .i64 0)] [], none⟩,
    ⟨some 106, .build [(.int .i64 0), (.int .i64 0)] [(0, none, (.c (.int .i64 19))), (1, none, (.c (.int .i64 (-4))))], none⟩,
    ⟨none, .store (some 6) (.t 4) (.t 105), none⟩,
    ⟨none, .store (some 2) (.t 5) (.t 106), none⟩]) (.ret)) (.skip)))))))
def c39_k2_go {Q e n H} := @awgoD Tryd.prog _ _ c39_k2.eq_1 Q e n H
def c39_L3 : ACode := .ke [4, 5, 7, 11, 91] (.seq (.reg [⟨some 92, .nxt (.t 91), none⟩,
    ⟨some 93, .extr (.t 92) 0, none⟩]) (.kp [4, 5, 7, 11, 91, 93] (.seq (.cond (.t 93) (.skip) (.exit 2)) (c39_k2))))
def c39_L3_go {Q e n H} := @awgoD Tryd.prog _ _ c39_L3.eq_1 Q e n H
def c39_k4 : ACode := .kp [4, 5, 7, 8, 11] (.seq (.seq (.reg [⟨some 87, .mv (.t 8), none⟩,
    ⟨some 88, .nilck (.t 87), none⟩,
    ⟨some 89, .faddr (.t 88) 2 none, none⟩,
    ⟨some 90, .load none (.t 89), none⟩,
    ⟨some 91, .rng (.t 90), none⟩]) (.kp [4, 5, 7, 11, 91] (.block 2 (.kp [4, 5, 7, 11, 91] (.loop c39_L3))))) (c39_k1))
def c39_k4_go {Q e n H} := @awgoD Tryd.prog _ _ c39_k4.eq_1 Q e n H
def c39_k5 : ACode := .kp [4, 5, 7, 8] (.seq (.reg [⟨some 79, .mv (.t 8), none⟩,
    ⟨some 80, .call 64 [(.t 79)], none⟩,
    ⟨some 11, .alloc 23 [(.int .i64 0), (.int .i64 0), (.int .i64 0), (.int .i64 0), (.int .i64 0), (.int .i64 0)], none⟩,
    ⟨none, .store (some 6) (.t 11) (.t 80), none⟩]) (.kp [4, 5, 7, 8, 11] (.seq (.seq (.reg [⟨some 81, .load (some 6) (.t 11), none⟩,
    ⟨some 82, .callp 41 [(.t 81)], none⟩,
    ⟨some 83, .field (.t 82) 0 none, none⟩,
    ⟨some 84, .bin .neq (.t 83) (.c (.int .i64 0)), none⟩]) (.kp [4, 5, 7, 8, 11, 84] (.cond (.t 84) (.seq (.reg [⟨some 85, .build [(.int .i64 0), (.int .i64 0), (.int .i64 0), (.int .i64 0), (.int .i64 0), (.int .i64 0)] [], none⟩,
    ⟨some 86, .build [(.int .i64 0), (.int .i64 0)] [(0, none, (.c (.int .i64 4))), (1, none, (.c (.int .i64 (-3))))], none⟩,
    ⟨none, .store (some 6) (.t 4) (.t 85), none⟩,
    ⟨none, .store (some 2) (.t 5) (.t 86), none⟩]) (.ret)) (.skip)))) (c39_k4))))
def c39_k5_go {Q e n H} := @awgoD Tryd.prog _ _ c39_k5.eq_1 Q e n H
def c39_k6 : ACode := .kp [4, 5, 7, 8] (.seq (.seq (.reg [⟨some 73, .mv (.t 8), none⟩,
    ⟨some 74, .nilck (.t 73), none⟩,
    ⟨some 75, .faddr (.t 74) 3 none, none⟩,
    ⟨some 76, .load none (.t 75), none⟩]) (.kp [4, 5, 7, 8, 76] (.cond (.t 76) (.seq (.reg [⟨some 77, .build [(.int .i64 0), (.int .i64 0), (.int .i64 0), (.int .i64 0), (.int .i64 0), (.int .i64 0)] [], none⟩,
    ⟨some 78, .build [(.int .i64 0), (.int .i64 0)] [(0, none, (.c (.int .i64 19))), (1, none, (.c (.int .i64 (-1))))], none⟩,
    ⟨none, .store (some 6) (.t 4) (.t 77), none⟩,
    ⟨none, .store (some 2) (.t 5) (.t 78), none⟩]) (.ret)) (.skip)))) (c39_k5))
def c39_k6_go {Q e n H} := @awgoD Tryd.prog _ _ c39_k6.eq_1 Q e n H
def c39_k7 : ACode := .kp [0, 4, 5, 7, 8, 9] (.seq (.seq (.segs [⟨none, [⟨some 56, .mv (.t 9), none⟩,
      ⟨some 57, .not (.t 56), none⟩,
      ⟨some 58, .mv (.t 57), none⟩], none⟩,
    ⟨some (58, false), [⟨some 59, .mv (.t 8), none⟩,
      ⟨some 60, .nilck (.t 59), none⟩,
      ⟨some 61, .faddr (.t 60) 1 none, none⟩,
      ⟨some 62, .load none (.t 61), none⟩,
      ⟨some 63, .mv (.t 0), none⟩,
      ⟨some 64, .lenS (.t 63), none⟩,
      ⟨some 65, .bin .lss (.t 62) (.t 64), none⟩], some (66, 65)⟩]) (.kp [4, 5, 7, 8, 66] (.cond (.t 66) (.seq (.regD [4, 5] [⟨some 67, .build [(.int .i64 0), (.int .i64 0), (.int .i64 0), (.int .i64 0), (.int .i64 0), (.int .i64 0)] [], none⟩,
    ⟨some 68, .mv (.t 8), none⟩,
    ⟨some 69, .nilck (.t 68), none⟩,
    ⟨some 70, .faddr (.t 69) 1 none, none⟩,
    ⟨some 71, .load none (.t 70), none⟩,
    ⟨some 72, .build [(.int .i64 0), (.int .i64 0)] [(0, none, (.c (.int .i64 1))), (1, none, (.t 71))], none⟩,
    ⟨none, .store (some 6) (.t 4) (.t 67), none⟩,
    ⟨none, .store (some 2) (.t 5) (.t 72), none⟩]) (.ret)) (.skip)))) (c39_k6))
def c39_k7_go {Q e n H} := @awgoD Tryd.prog _ _ c39_k7.eq_1 Q e n H
def c39_k8 : ACode := .kp [0, 1, 4, 5, 7, 8, 9, 10] (.reg [⟨some 33, .mv (.t 10), none⟩,
    ⟨some 34, .bin .add (.t 33) (.c (.int .i64 1)), none⟩,
    ⟨some 10, .mv (.t 34), none⟩])
def c39_k8_go {Q e n H} := @awgoD Tryd.prog _ _ c39_k8.eq_1 Q e n H
def c39_k9 : ACode := .kp [0, 1, 4, 5, 7, 8, 10] (.seq (.reg [⟨some 44, .mv (.t 10), none⟩,
    ⟨some 45, .bin .add (.t 44) (.c (.int .i64 1)), none⟩,
    ⟨some 10, .mv (.t 45), none⟩]) (.kp [0, 1, 4, 5, 7, 8, 10] (.reg [⟨some 46, .mv (.t 8), none⟩,
    ⟨some 47, .mv (.t 1), none⟩,
    ⟨some 48, .mv (.t 10), none⟩,
    ⟨some 49, .sidx (.t 47) (.t 48), none⟩,
    ⟨some 50, .mv (.t 7), none⟩,
    ⟨some 51, .mv (.t 1), none⟩,
    ⟨some 52, .mv (.t 10), none⟩,
    ⟨some 53, .sidx (.t 51) (.t 52), none⟩,
    ⟨some 54, .mget (some .u8) (.agg [(.int .i64 0), (.sl 0 [] .nil), .nfn]) false (.t 50) (.t 53), none⟩,
    ⟨some 55, .call 63 [(.t 46), (.t 49), (.t 54)], none⟩,
    ⟨some 9, .mv (.t 55), none⟩])))
def c39_k9_go {Q e n H} := @awgoD Tryd.prog _ _ c39_k9.eq_1 Q e n H
def c39_k10 : ACode := .kp [0, 1, 4, 5, 7, 8, 10] (.seq (.block 1 (.seq (.seq (.reg [⟨some 35, .mv (.t 1), none⟩,
    ⟨some 36, .mv (.t 10), none⟩,
    ⟨some 37, .sidx (.t 35) (.t 36), none⟩,
    ⟨some 38, .bin .neq (.t 37) (.c (.int .u8 37)), none⟩]) (.kp [0, 1, 4, 5, 7, 8, 10, 38] (.cond (.t 38) (.seq (.reg [⟨some 39, .mv (.t 8), none⟩,
    ⟨some 40, .mv (.t 1), none⟩,
    ⟨some 41, .mv (.t 10), none⟩,
    ⟨some 42, .sidx (.t 40) (.t 41), none⟩,
    ⟨some 43, .call 62 [(.t 39), (.t 42)], none⟩,
    ⟨some 9, .mv (.t 43), none⟩]) (.exit 1)) (.skip)))) (c39_k9))) (c39_k8))
def c39_k10_go {Q e n H} := @awgoD Tryd.prog _ _ c39_k10.eq_1 Q e n H
def c39_L11 : ACode := .ke [0, 1, 4, 5, 7, 8, 9, 10] (.seq (.seq (.segs [⟨none, [⟨some 26, .mv (.t 10), none⟩,
      ⟨some 27, .mv (.t 1), none⟩,
      ⟨some 28, .lenS (.t 27), none⟩,
      ⟨some 29, .bin .lss (.t 26) (.t 28), none⟩,
      ⟨some 30, .mv (.t 29), none⟩], none⟩,
    ⟨some (30, true), [⟨some 31, .mv (.t 9), none⟩], some (32, 31)⟩]) (.kp [0, 1, 4, 5, 7, 8, 9, 10, 32] (.cond (.t 32) (.skip) (.exit 0)))) (c39_k10))
def c39_L11_go {Q e n H} := @awgoD Tryd.prog _ _ c39_L11.eq_1 Q e n H
def c39_k12 : ACode := .kp [0, 1, 4, 5] (.seq (.reg [⟨some 21, .call 43 [], none⟩,
    ⟨some 7, .mv (.t 21), none⟩]) (.kp [0, 1, 4, 5, 7] (.seq (.reg [⟨some 22, .mv (.t 0), none⟩,
    ⟨some 23, .mkmap (some .u8), none⟩,
    ⟨some 24, .build [(.str []), (.int .i64 0), .nmp, (.bool false)] [(0, none, (.t 22)), (2, none, (.t 23))], none⟩,
    ⟨some 25, .box 89 (some 4) (.t 24), none⟩,
    ⟨some 8, .mv (.t 25), none⟩]) (.kp [0, 1, 4, 5, 7, 8] (.seq (.reg [⟨some 9, .mv (.c (.bool true)), none⟩]) (.kp [0, 1, 4, 5, 7, 8, 9] (.seq (.seq (.reg [⟨some 10, .mv (.c (.int .i64 0)), none⟩]) (.kp [0, 1, 4, 5, 7, 8, 9, 10] (.block 0 (.kp [0, 1, 4, 5, 7, 8, 9, 10] (.loop c39_L11))))) (c39_k7))))))))
def c39_k12_go {Q e n H} := @awgoD Tryd.prog _ _ c39_k12.eq_1 Q e n H
def c39 : AFun := { nargs := 2, nt := 109, res := [.cell 4 (some 6), .cell 5 (some 2)], code := .seq (.reg [⟨some 4, .alloc 23 [(.int .i64 0), (.int .i64 0), (.int .i64 0), (.int .i64 0), (.int .i64 0), (.int .i64 0)], none⟩,
    ⟨some 5, .alloc 25 [(.int .i64 0), (.int .i64 0)], none⟩]) (.kp [0, 1, 4, 5] (.seq (.seq (.reg [⟨some 14, .mv (.t 1), none⟩,
    ⟨some 15, .callp 42 [(.t 14), (.c (.int .i64 1000))], none⟩,
    ⟨some 6, .alloc 25 [(.int .i64 0), (.int .i64 0)], none⟩,
    ⟨none, .store (some 2) (.t 6) (.t 15), none⟩]) (.kp [0, 1, 4, 5, 6] (.seq (.reg [⟨some 16, .faddr (.t 6) 0 none, none⟩,
    ⟨some 17, .load none (.t 16), none⟩,
    ⟨some 18, .bin .neq (.t 17) (.c (.int .i64 0)), none⟩]) (.kp [0, 1, 4, 5, 6, 18] (.cond (.t 18) (.seq (.regD [4, 5] [⟨some 19, .build [(.int .i64 0), (.int .i64 0), (.int .i64 0), (.int .i64 0), (.int .i64 0), (.int .i64 0)] [], none⟩,
    ⟨some 20, .load (some 2) (.t 6), none⟩,
    ⟨none, .store (some 6) (.t 4) (.t 19), none⟩,
    ⟨none, .store (some 2) (.t 5) (.t 20), none⟩]) (.ret)) (.skip)))))) (c39_k12))) }
theorem cmp39 : (cFun Tryd.prog efs Tryd.f39).map (fun x => (x.nargs, x.nt, x.res, x.code)) = some (c39.nargs, c39.nt, c39.res, bare c39.code) := by kernel_rfl
def c40_k1 : ACode := .kp [4, 5, 16] (.seq (.reg [⟨some 231, .load (some 6) (.t 16), none⟩,
    ⟨some 232, .callp 29 [(.c (.int .i64 0)), (.c (.int .i64 0))], none⟩,
    ⟨none, .store (some 6) (.t 4) (.t 231), none⟩,
    ⟨none, .store (some 2) (.t 5) (.t 232), none⟩]) (.ret))
def c40_k1_go {Q e n H} := @awgoD Tryd.prog _ _ c40_k1.eq_1 Q e n H
def c40_k2 : ACode := .kp [4, 5, 6, 16, 17] (.reg [⟨some 212, .mv (.t 17), none⟩,
    ⟨some 213, .bin .add (.t 212) (.c (.int .i64 1)), none⟩,
    ⟨some 17, .mv (.t 213), none⟩])
def c40_k2_go {Q e n H} := @awgoD Tryd.prog _ _ c40_k2.eq_1 Q e n H
def c40_k3 : ACode := .kp [4, 5, 6, 16, 17] (.seq (.block 7 (.seq (.segs [⟨none, [⟨some 214, .mv (.t 6), none⟩,
      ⟨some 215, .mv (.t 17), none⟩,
      ⟨some 216, .iaddr 1 none (.t 214) (.t 215), none⟩,
      ⟨some 217, .load none (.t 216), none⟩,
      ⟨some 218, .bin .geq (.t 217) (.c (.int .i64 0)), none⟩,
      ⟨some 219, .mv (.t 218), none⟩], none⟩,
    ⟨some (219, true), [⟨some 220, .mv (.t 6), none⟩,
      ⟨some 221, .mv (.t 17), none⟩,
      ⟨some 222, .iaddr 1 none (.t 220) (.t 221), none⟩,
      ⟨some 223, .load none (.t 222), none⟩,
      ⟨some 224, .load (some 6) (.t 16), none⟩,
      ⟨some 225, .mv (.t 17), none⟩,
      ⟨some 226, .callp 52 [(.t 224), (.t 225)], none⟩,
      ⟨some 227, .bin .neq (.t 223) (.t 226), none⟩], none⟩,
    ⟨none, [⟨some 228, .pick (.t 219) (.t 227) (.c (.bool false)), none⟩], none⟩]) (.kp [4, 5, 6, 16, 17, 228] (.cond (.t 228) (.seq (.reg [⟨some 229, .build [(.int .i64 0), (.int .i64 0), (.int .i64 0), (.int .i64 0), (.int .i64 0), (.int .i64 0)] [], none⟩,
    ⟨some 230, .callp 29 [(.c (.int .i64 19)), (.c (.int .i64 (-4)))], none⟩,
    ⟨none, .store (some 6) (.t 4) (.t 229), none⟩,
    ⟨none, .store (some 2) (.t 5) (.t 230), none⟩]) (.ret)) (.skip))))) (c40_k2))
def c40_k3_go {Q e n H} := @awgoD Tryd.prog _ _ c40_k3.eq_1 Q e n H
def c40_L4 : ACode := .ke [4, 5, 6, 16, 17] (.seq (.seq (.reg [⟨some 210, .mv (.t 17), none⟩,
    ⟨some 211, .bin .lss (.t 210) (.c (.int .i64 11)), none⟩]) (.kp [4, 5, 6, 16, 17, 211] (.cond (.t 211) (.skip) (.exit 6)))) (c40_k3))
def c40_L4_go {Q e n H} := @awgoD Tryd.prog _ _ c40_L4.eq_1 Q e n H
def c40_k5 : ACode := .kp [4, 5, 6, 16] (.seq (.seq (.reg [⟨some 17, .mv (.c (.int .i64 6)), none⟩]) (.kp [4, 5, 6, 16, 17] (.block 6 (.kp [4, 5, 6, 16, 17] (.loop c40_L4))))) (c40_k1))
def c40_k5_go {Q e n H} := @awgoD Tryd.prog _ _ c40_k5.eq_1 Q e n H
def c40_k6 : ACode := .kp [4, 5, 6, 14] (.seq (.regD [] [⟨some 185, .mv (.t 14), none⟩,
    ⟨some 186, .iaddr 1 none (.t 185) (.c (.int .i64 0)), none⟩,
    ⟨some 187, .load none (.t 186), none⟩,
    ⟨some 188, .mv (.t 14), none⟩,
    ⟨some 189, .iaddr 1 none (.t 188) (.c (.int .i64 1)), none⟩,
    ⟨some 190, .load none (.t 189), none⟩,
    ⟨some 191, .mv (.t 14), none⟩,
    ⟨some 192, .iaddr 1 none (.t 191) (.c (.int .i64 2)), none⟩,
    ⟨some 193, .load none (.t 192), none⟩,
    ⟨some 194, .mv (.t 14), none⟩,
    ⟨some 195, .iaddr 1 none (.t 194) (.c (.int .i64 3)), none⟩,
    ⟨some 196, .load none (.t 195), none⟩,
    ⟨some 197, .mv (.t 14), none⟩,
    ⟨some 198, .iaddr 1 none (.t 197) (.c (.int .i64 4)), none⟩,
    ⟨some 199, .load none (.t 198), none⟩,
    ⟨some 200, .mv (.t 14), none⟩,
    ⟨some 201, .iaddr 1 none (.t 200) (.c (.int .i64 5)), none⟩,
    ⟨some 202, .load none (.t 201), none⟩,
    ⟨some 203, .build [(.int .i64 0), (.int .i64 0), (.int .i64 0), (.int .i64 0), (.int .i64 0), (.int .i64 0)] [(0, none, (.t 187)), (1, none, (.t 190)), (2, none, (.t 193)), (3, none, (.t 196)), (4, none, (.t 199)), (5, none, (.t 202))], none⟩,
    ⟨some 16, .alloc 23 [(.int .i64 0), (.int .i64 0), (.int .i64 0), (.int .i64 0), (.int .i64 0), (.int .i64 0)], none⟩,
    ⟨none, .store (some 6) (.t 16) (.t 203), none⟩]) (.kp [4, 5, 6, 16] (.seq (.seq (.reg [⟨some 204, .load (some 6) (.t 16), none⟩,
    ⟨some 205, .callp 16 [(.t 204)], none⟩,
    ⟨some 206, .field (.t 205) 0 none, none⟩,
    ⟨some 207, .bin .neq (.t 206) (.c (.int .i64 0)), none⟩]) (.kp [4, 5, 6, 16, 207] (.cond (.t 207) (.seq (.reg [⟨some 208, .build [(.int .i64 0), (.int .i64 0), (.int .i64 0), (.int .i64 0), (.int .i64 0), (.int .i64 0)] [], none⟩,
    ⟨some 209, .callp 29 [(.c (.int .i64 4)), (.c (.int .i64 (-3)))], none⟩,
    ⟨none, .store (some 6) (.t 4) (.t 208), none⟩,
    ⟨none, .store (some 2) (.t 5) (.t 209), none⟩]) (.ret)) (.skip)))) (c40_k5))))
def c40_k6_go {Q e n H} := @awgoD Tryd.prog _ _ c40_k6.eq_1 Q e n H
def c40_k7 : ACode := .kp [4, 5, 6, 14, 15] (.reg [⟨some 171, .mv (.t 15), none⟩,
    ⟨some 172, .bin .add (.t 171) (.c (.int .i64 1)), none⟩,
    ⟨some 15, .mv (.t 172), none⟩])
def c40_k7_go {Q e n H} := @awgoD Tryd.prog _ _ c40_k7.eq_1 Q e n H
def c40_k8 : ACode := .kp [4, 5, 6, 14, 15] (.seq (.block 5 (.seq (.reg [⟨some 173, .mv (.t 6), none⟩,
    ⟨some 174, .mv (.t 15), none⟩,
    ⟨some 175, .iaddr 1 none (.t 173) (.t 174), none⟩,
    ⟨some 176, .load none (.t 175), none⟩,
    ⟨some 177, .bin .geq (.t 176) (.c (.int .i64 0)), none⟩]) (.kp [4, 5, 6, 14, 15, 177] (.cond (.t 177) (.reg [⟨some 178, .mv (.t 14), none⟩,
    ⟨some 179, .mv (.t 15), none⟩,
    ⟨some 180, .mv (.t 6), none⟩,
    ⟨some 181, .mv (.t 15), none⟩,
    ⟨some 182, .iaddr 1 none (.t 180) (.t 181), none⟩,
    ⟨some 183, .load none (.t 182), none⟩,
    ⟨some 184, .iaddr 1 none (.t 178) (.t 179), none⟩,
    ⟨none, .store none (.t 184) (.t 183), none⟩]) (.skip))))) (c40_k7))
def c40_k8_go {Q e n H} := @awgoD Tryd.prog _ _ c40_k8.eq_1 Q e n H
def c40_L9 : ACode := .ke [4, 5, 6, 14, 15] (.seq (.seq (.reg [⟨some 169, .mv (.t 15), none⟩,
    ⟨some 170, .bin .lss (.t 169) (.c (.int .i64 6)), none⟩]) (.kp [4, 5, 6, 14, 15, 170] (.cond (.t 170) (.skip) (.exit 4)))) (c40_k8))
def c40_L9_go {Q e n H} := @awgoD Tryd.prog _ _ c40_L9.eq_1 Q e n H
def c40_k10 : ACode := .kp [4, 5, 6] (.seq (.reg [⟨some 168, .bsl 3 none [(.c (.int .i64 1)), (.c (.int .i64 1)), (.c (.int .i64 1)), (.c (.int .i64 0)), (.c (.int .i64 0)), (.c (.int .i64 0))], none⟩,
    ⟨some 14, .mv (.t 168), none⟩]) (.kp [4, 5, 6, 14] (.seq (.seq (.reg [⟨some 15, .mv (.c (.int .i64 0)), none⟩]) (.kp [4, 5, 6, 14, 15] (.block 4 (.kp [4, 5, 6, 14, 15] (.loop c40_L9))))) (c40_k6))))
def c40_k10_go {Q e n H} := @awgoD Tryd.prog _ _ c40_k10.eq_1 Q e n H
def c40_k11 : ACode := .kp [4, 5, 6] (.seq (.seq (.reg [⟨some 159, .mv (.t 6), none⟩,
    ⟨some 160, .iaddr 1 none (.t 159) (.c (.int .i64 1)), none⟩,
    ⟨some 161, .load none (.t 160), none⟩,
    ⟨some 162, .bin .lss (.t 161) (.c (.int .i64 0)), none⟩]) (.kp [4, 5, 6, 162] (.cond (.t 162) (.reg [⟨some 163, .mv (.t 6), none⟩,
    ⟨some 164, .mv (.t 6), none⟩,
    ⟨some 165, .iaddr 1 none (.t 164) (.c (.int .i64 11)), none⟩,
    ⟨some 166, .load none (.t 165), none⟩,
    ⟨some 167, .iaddr 1 none (.t 163) (.c (.int .i64 1)), none⟩,
    ⟨none, .store none (.t 167) (.t 166), none⟩]) (.skip)))) (c40_k10))
def c40_k11_go {Q e n H} := @awgoD Tryd.prog _ _ c40_k11.eq_1 Q e n H
def c40_k12 : ACode := .kp [4, 5, 6, 7] (.seq (.seq (.segs [⟨none, [⟨some 135, .mv (.t 7), none⟩,
      ⟨some 136, .mv (.t 135), none⟩], none⟩,
    ⟨some (136, false), [⟨some 137, .mv (.t 6), none⟩,
      ⟨some 138, .iaddr 1 none (.t 137) (.c (.int .i64 1)), none⟩,
      ⟨some 139, .load none (.t 138), none⟩,
      ⟨some 140, .bin .geq (.t 139) (.c (.int .i64 0)), none⟩,
      ⟨some 141, .mv (.t 140), none⟩], none⟩,
    ⟨some (141, true), [⟨some 142, .mv (.t 6), none⟩,
      ⟨some 143, .iaddr 1 none (.t 142) (.c (.int .i64 11)), none⟩,
      ⟨some 144, .load none (.t 143), none⟩,
      ⟨some 145, .bin .geq (.t 144) (.c (.int .i64 0)), none⟩], none⟩,
    ⟨some (136, false), [⟨some 146, .pick (.t 141) (.t 145) (.c (.bool false)), none⟩,
      ⟨some 147, .mv (.t 146), none⟩], none⟩,
    ⟨some (147, true), [⟨some 148, .mv (.t 6), none⟩,
      ⟨some 149, .iaddr 1 none (.t 148) (.c (.int .i64 1)), none⟩,
      ⟨some 150, .load none (.t 149), none⟩,
      ⟨some 151, .mv (.t 6), none⟩,
      ⟨some 152, .iaddr 1 none (.t 151) (.c (.int .i64 11)), none⟩,
      ⟨some 153, .load none (.t 152), none⟩,
      ⟨some 154, .bin .neq (.t 150) (.t 153), none⟩], none⟩,
    ⟨some (136, false), [⟨some 155, .pick (.t 147) (.t 154) (.c (.bool false)), none⟩], some (156, 155)⟩]) (.kp [4, 5, 6, 156] (.cond (.t 156) (.seq (.reg [⟨some 157, .build [(.int .i64 0), (.int .i64 0), (.int .i64 0), (.int .i64 0), (.int .i64 0), (.int .i64 0)] [], none⟩,
    ⟨some 158, .callp 29 [(.c (.int .i64 19)), (.c (.int .i64 (-1)))], none⟩,
    ⟨none, .store (some 6) (.t 4) (.t 157), none⟩,
    ⟨none, .store (some 2) (.t 5) (.t 158), none⟩]) (.ret)) (.skip)))) (c40_k11))
def c40_k12_go {Q e n H} := @awgoD Tryd.prog _ _ c40_k12.eq_1 Q e n H
def c40_k13 : ACode := .kp [0, 4, 5, 6, 7, 8] (.seq (.seq (.reg [⟨some 128, .mv (.t 8), none⟩,
    ⟨some 129, .mv (.t 0), none⟩,
    ⟨some 130, .lenS (.t 129), none⟩,
    ⟨some 131, .bin .lss (.t 128) (.t 130), none⟩]) (.kp [4, 5, 6, 7, 8, 131] (.cond (.t 131) (.seq (.reg [⟨some 132, .build [(.int .i64 0), (.int .i64 0), (.int .i64 0), (.int .i64 0), (.int .i64 0), (.int .i64 0)] [], none⟩,
    ⟨some 133, .mv (.t 8), none⟩,
    ⟨some 134, .callp 29 [(.c (.int .i64 1)), (.t 133)], none⟩,
    ⟨none, .store (some 6) (.t 4) (.t 132), none⟩,
    ⟨none, .store (some 2) (.t 5) (.t 134), none⟩]) (.ret)) (.skip)))) (c40_k12))
def c40_k13_go {Q e n H} := @awgoD Tryd.prog _ _ c40_k13.eq_1 Q e n H
def c40_k14 : ACode := .kp [0, 1, 4, 5, 6, 7, 8, 9] (.reg [⟨some 23, .mv (.t 9), none⟩,
    ⟨some 24, .bin .add (.t 23) (.c (.int .i64 1)), none⟩,
    ⟨some 9, .mv (.t 24), none⟩])
def c40_k14_go {Q e n H} := @awgoD Tryd.prog _ _ c40_k14.eq_1 Q e n H
def c40_k15 : ACode := .kp [0, 1, 4, 5, 6, 7, 8, 9, 10, 11] (.reg [⟨some 124, .mv (.t 6), none⟩,
    ⟨some 125, .mv (.t 10), none⟩,
    ⟨some 126, .mv (.t 11), none⟩,
    ⟨some 127, .iaddr 1 none (.t 124) (.t 125), none⟩,
    ⟨none, .store none (.t 127) (.t 126), none⟩])
def c40_k15_go {Q e n H} := @awgoD Tryd.prog _ _ c40_k15.eq_1 Q e n H
def c40_k16 : ACode := .kp [0, 1, 4, 5, 6, 7, 8, 9, 10, 11] (.seq (.seq (.segs [⟨none, [⟨some 111, .mv (.t 6), none⟩,
      ⟨some 112, .mv (.t 10), none⟩,
      ⟨some 113, .iaddr 1 none (.t 111) (.t 112), none⟩,
      ⟨some 114, .load none (.t 113), none⟩,
      ⟨some 115, .bin .geq (.t 114) (.c (.int .i64 0)), none⟩,
      ⟨some 116, .mv (.t 115), none⟩], none⟩,
    ⟨some (116, true), [⟨some 117, .mv (.t 6), none⟩,
      ⟨some 118, .mv (.t 10), none⟩,
      ⟨some 119, .iaddr 1 none (.t 117) (.t 118), none⟩,
      ⟨some 120, .load none (.t 119), none⟩,
      ⟨some 121, .mv (.t 11), none⟩,
      ⟨some 122, .bin .neq (.t 120) (.t 121), none⟩], some (123, 122)⟩]) (.kp [0, 1, 4, 5, 6, 7, 8, 9, 10, 11, 123] (.cond (.t 123) (.reg [⟨some 7, .mv (.c (.bool true)), none⟩]) (.skip)))) (c40_k15))
def c40_k16_go {Q e n H} := @awgoD Tryd.prog _ _ c40_k16.eq_1 Q e n H
def c40_k17 : ACode := .kp [0, 1, 4, 5, 6, 7, 8, 9, 10, 11] (.reg [⟨some 77, .mv (.t 8), none⟩,
    ⟨some 78, .bin .add (.t 77) (.c (.int .i64 3)), none⟩,
    ⟨some 8, .mv (.t 78), none⟩])
def c40_k17_go {Q e n H} := @awgoD Tryd.prog _ _ c40_k17.eq_1 Q e n H
def c40_k18 : ACode := .kp [0, 1, 4, 5, 6, 7, 8, 9, 10, 11] (.seq (.seq (.reg [⟨some 72, .mv (.t 11), none⟩,
    ⟨some 73, .bin .lss (.t 72) (.c (.int .i64 1)), none⟩]) (.kp [0, 1, 4, 5, 6, 7, 8, 9, 10, 11, 73] (.cond (.t 73) (.seq (.reg [⟨some 74, .build [(.int .i64 0), (.int .i64 0), (.int .i64 0), (.int .i64 0), (.int .i64 0), (.int .i64 0)] [], none⟩,
    ⟨some 75, .mv (.t 8), none⟩,
    ⟨some 76, .callp 29 [(.c (.int .i64 1)), (.t 75)], none⟩,
    ⟨none, .store (some 6) (.t 4) (.t 74), none⟩,
    ⟨none, .store (some 2) (.t 5) (.t 76), none⟩]) (.ret)) (.skip)))) (c40_k17))
def c40_k18_go {Q e n H} := @awgoD Tryd.prog _ _ c40_k18.eq_1 Q e n H
def c40_k19 : ACode := .kp [0, 1, 4, 5, 6, 7, 8, 9, 10, 11, 12] (.seq (.seq (.reg [⟨some 59, .mv (.t 8), none⟩,
    ⟨some 60, .bin .add (.t 59) (.c (.int .i64 3)), none⟩,
    ⟨some 61, .mv (.t 0), none⟩,
    ⟨some 62, .lenS (.t 61), none⟩,
    ⟨some 63, .bin .leq (.t 60) (.t 62), none⟩]) (.kp [0, 1, 4, 5, 6, 7, 8, 9, 10, 11, 12, 63] (.cond (.t 63) (.reg [⟨some 64, .mv (.t 12), none⟩,
    ⟨some 65, .mv (.t 0), none⟩,
    ⟨some 66, .mv (.t 8), none⟩,
    ⟨some 67, .mv (.t 8), none⟩,
    ⟨some 68, .bin .add (.t 67) (.c (.int .i64 3)), none⟩,
    ⟨some 69, .cutS (.t 65) (some (.t 66)) (some (.t 68)), none⟩,
    ⟨some 70, .callp 65 [(.t 64), (.t 69)], none⟩,
    ⟨some 71, .bin .add (.t 70) (.c (.int .i64 1)), none⟩,
    ⟨some 11, .mv (.t 71), none⟩]) (.skip)))) (c40_k18))
def c40_k19_go {Q e n H} := @awgoD Tryd.prog _ _ c40_k19.eq_1 Q e n H
def c40_k20 : ACode := .kp [0, 1, 4, 5, 6, 7, 8, 9, 10, 11, 13] (.reg [⟨some 85, .mv (.t 13), none⟩,
    ⟨some 86, .bin .add (.t 85) (.c (.int .i64 1)), none⟩,
    ⟨some 13, .mv (.t 86), none⟩])
def c40_k20_go {Q e n H} := @awgoD Tryd.prog _ _ c40_k20.eq_1 Q e n H
def c40_k21 : ACode := .kp [0, 1, 4, 5, 6, 7, 8, 9, 10, 11, 13] (.seq (.reg [⟨some 101, .mv (.t 11), none⟩,
    ⟨some 102, .bin .mul (.c (.int .i64 10)) (.t 101), none⟩,
    ⟨some 103, .mv (.t 0), none⟩,
    ⟨some 104, .mv (.t 8), none⟩,
    ⟨some 105, .sidx (.t 103) (.t 104), none⟩,
    ⟨some 106, .cvi .i64 (.t 105), none⟩,
    ⟨some 107, .bin .add (.t 102) (.t 106), none⟩,
    ⟨some 108, .bin .sub (.t 107) (.c (.int .i64 48)), none⟩,
    ⟨some 11, .mv (.t 108), none⟩]) (.kp [0, 1, 4, 5, 6, 7, 8, 9, 10, 11, 13] (.reg [⟨some 109, .mv (.t 8), none⟩,
    ⟨some 110, .bin .add (.t 109) (.c (.int .i64 1)), none⟩,
    ⟨some 8, .mv (.t 110), none⟩])))
def c40_k21_go {Q e n H} := @awgoD Tryd.prog _ _ c40_k21.eq_1 Q e n H
def c40_k22 : ACode := .kp [0, 1, 4, 5, 6, 7, 8, 9, 10, 11, 13] (.seq (.block 3 (.seq (.seq (.segs [⟨none, [⟨some 87, .mv (.t 8), none⟩,
      ⟨some 88, .mv (.t 0), none⟩,
      ⟨some 89, .lenS (.t 88), none⟩,
      ⟨some 90, .bin .eql (.t 87) (.t 89), none⟩,
      ⟨some 91, .mv (.t 90), none⟩], none⟩,
    ⟨some (91, false), [⟨some 92, .mv (.t 0), none⟩,
      ⟨some 93, .mv (.t 8), none⟩,
      ⟨some 94, .sidx (.t 92) (.t 93), none⟩,
      ⟨some 95, .callp 66 [(.t 94)], none⟩,
      ⟨some 96, .not (.t 95), none⟩], none⟩,
    ⟨none, [⟨some 97, .pick (.t 91) (.c (.bool true)) (.t 96), none⟩], none⟩]) (.kp [0, 1, 4, 5, 6, 7, 8, 9, 10, 11, 13, 97] (.cond (.t 97) (.seq (.reg [⟨some 98, .build [(.int .i64 0), (.int .i64 0), (.int .i64 0), (.int .i64 0), (.int .i64 0), (.int .i64 0)] [], none⟩,
    ⟨some 99, .mv (.t 8), none⟩,
    ⟨some 100, .callp 29 [(.c (.int .i64 1)), (.t 99)], none⟩,
    ⟨none, .store (some 6) (.t 4) (.t 98), none⟩,
    ⟨none, .store (some 2) (.t 5) (.t 100), none⟩]) (.ret)) (.skip)))) (c40_k21))) (c40_k20))
def c40_k22_go {Q e n H} := @awgoD Tryd.prog _ _ c40_k22.eq_1 Q e n H
def c40_L23 : ACode := .ke [0, 1, 4, 5, 6, 7, 8, 9, 10, 11, 13] (.seq (.seq (.reg [⟨some 79, .mv (.t 13), none⟩,
    ⟨some 80, .mv (.t 10), none⟩,
    ⟨some 81, .sidx (.c (.str [52, 50, 50, 50, 50, 50, 51, 52, 50, 49, 48, 48])) (.t 80), none⟩,
    ⟨some 82, .cvi .i64 (.t 81), none⟩,
    ⟨some 83, .bin .sub (.t 82) (.c (.int .i64 48)), none⟩,
    ⟨some 84, .bin .lss (.t 79) (.t 83), none⟩]) (.kp [0, 1, 4, 5, 6, 7, 8, 9, 10, 11, 13, 84] (.cond (.t 84) (.skip) (.exit 2)))) (c40_k22))
def c40_L23_go {Q e n H} := @awgoD Tryd.prog _ _ c40_L23.eq_1 Q e n H
def c40_t24 : ACode := .kp [0, 1, 4, 5, 6, 7, 8, 9, 10, 11] (.seq (.reg [⟨some 12, .mv (.c (.str [77, 111, 110, 32, 84, 117, 101, 32, 87, 101, 100, 32, 84, 104, 117, 32, 70, 114, 105, 32, 83, 97, 116, 32, 83, 117, 110])), none⟩]) (.kp [0, 1, 4, 5, 6, 7, 8, 9, 10, 11, 12] (.seq (.seq (.reg [⟨some 57, .mv (.t 10), none⟩,
    ⟨some 58, .bin .eql (.t 57) (.c (.int .i64 11)), none⟩]) (.kp [0, 1, 4, 5, 6, 7, 8, 9, 10, 11, 12, 58] (.cond (.t 58) (.reg [⟨some 12, .mv (.c (.str [74, 97, 110, 32, 70, 101, 98, 32, 77, 97, 114, 32, 65, 112, 114, 32, 77, 97, 121, 32, 74, 117, 110, 32, 74, 117, 108, 32, 65, 117, 103, 32, 83, 101, 112, 32, 79, 99, 116, 32, 78, 111, 118, 32, 68, 101, 99])), none⟩]) (.skip)))) (c40_k19))))
def c40_t24_go {Q e n H} := @awgoD Tryd.prog _ _ c40_t24.eq_1 Q e n H
def c40_e25 : ACode := .kp [0, 1, 4, 5, 6, 7, 8, 9, 10] (.seq (.reg [⟨some 11, .mv (.c (.int .i64 0)), none⟩]) (.kp [0, 1, 4, 5, 6, 7, 8, 9, 10, 11] (.seq (.reg [⟨some 13, .mv (.c (.int .i64 0)), none⟩]) (.kp [0, 1, 4, 5, 6, 7, 8, 9, 10, 11, 13] (.block 2 (.kp [0, 1, 4, 5, 6, 7, 8, 9, 10, 11, 13] (.loop c40_L23)))))))
def c40_e25_go {Q e n H} := @awgoD Tryd.prog _ _ c40_e25.eq_1 Q e n H
def c40_k26 : ACode := .kp [0, 1, 4, 5, 6, 7, 8, 9, 10, 11] (.seq (.seq (.reg [⟨some 55, .mv (.t 10), none⟩,
    ⟨some 56, .bin .geq (.t 55) (.c (.int .i64 10)), none⟩]) (.kp [0, 1, 4, 5, 6, 7, 8, 9, 10, 11, 56] (.cond (.t 56) (c40_t24) (c40_e25)))) (c40_k16))
def c40_k26_go {Q e n H} := @awgoD Tryd.prog _ _ c40_k26.eq_1 Q e n H
def c40_k27 : ACode := .kp [0, 1, 4, 5, 6, 7, 8, 9] (.seq (.reg [⟨some 53, .mv (.t 8), none⟩,
    ⟨some 54, .bin .add (.t 53) (.c (.int .i64 1)), none⟩,
    ⟨some 8, .mv (.t 54), none⟩]) (.exit 1))
def c40_k27_go {Q e n H} := @awgoD Tryd.prog _ _ c40_k27.eq_1 Q e n H
def c40_t28 : ACode := .kp [0, 1, 4, 5, 6, 7, 8, 9] (.seq (.seq (.segs [⟨none, [⟨some 37, .mv (.t 8), none⟩,
      ⟨some 38, .mv (.t 0), none⟩,
      ⟨some 39, .lenS (.t 38), none⟩,
      ⟨some 40, .bin .eql (.t 37) (.t 39), none⟩,
      ⟨some 41, .mv (.t 40), none⟩], none⟩,
    ⟨some (41, false), [⟨some 42, .mv (.t 0), none⟩,
      ⟨some 43, .mv (.t 8), none⟩,
      ⟨some 44, .sidx (.t 42) (.t 43), none⟩,
      ⟨some 45, .mv (.t 1), none⟩,
      ⟨some 46, .mv (.t 9), none⟩,
      ⟨some 47, .sidx (.t 45) (.t 46), none⟩,
      ⟨some 48, .bin .neq (.t 44) (.t 47), none⟩], some (49, 48)⟩]) (.kp [0, 1, 4, 5, 6, 7, 8, 9, 49] (.cond (.t 49) (.seq (.reg [⟨some 50, .build [(.int .i64 0), (.int .i64 0), (.int .i64 0), (.int .i64 0), (.int .i64 0), (.int .i64 0)] [], none⟩,
    ⟨some 51, .mv (.t 8), none⟩,
    ⟨some 52, .callp 29 [(.c (.int .i64 1)), (.t 51)], none⟩,
    ⟨none, .store (some 6) (.t 4) (.t 50), none⟩,
    ⟨none, .store (some 2) (.t 5) (.t 52), none⟩]) (.ret)) (.skip)))) (c40_k27))
def c40_t28_go {Q e n H} := @awgoD Tryd.prog _ _ c40_t28.eq_1 Q e n H
def c40_k29 : ACode := .kp [0, 1, 4, 5, 6, 7, 8, 9, 10] (.seq (.reg [⟨some 11, .mv (.c (.int .i64 (-1))), none⟩]) (.kp [0, 1, 4, 5, 6, 7, 8, 9, 10, 11] (.seq (.seq (.reg [⟨some 35, .mv (.t 10), none⟩,
    ⟨some 36, .bin .lss (.t 35) (.c (.int .i64 0)), none⟩]) (.kp [0, 1, 4, 5, 6, 7, 8, 9, 10, 11, 36] (.cond (.t 36) (c40_t28) (.skip)))) (c40_k26))))
def c40_k29_go {Q e n H} := @awgoD Tryd.prog _ _ c40_k29.eq_1 Q e n H
def c40_t30 : ACode := .kp [0, 1, 4, 5, 6, 7, 8, 9] (.seq (.reg [⟨some 29, .mv (.t 9), none⟩,
    ⟨some 30, .bin .add (.t 29) (.c (.int .i64 1)), none⟩,
    ⟨some 9, .mv (.t 30), none⟩]) (.kp [0, 1, 4, 5, 6, 7, 8, 9] (.reg [⟨some 31, .mv (.t 1), none⟩,
    ⟨some 32, .mv (.t 9), none⟩,
    ⟨some 33, .sidx (.t 31) (.t 32), none⟩,
    ⟨some 34, .callp 50 [(.t 33)], none⟩,
    ⟨some 10, .mv (.t 34), none⟩])))
def c40_t30_go {Q e n H} := @awgoD Tryd.prog _ _ c40_t30.eq_1 Q e n H
def c40_k31 : ACode := .kp [0, 1, 4, 5, 6, 7, 8, 9] (.seq (.block 1 (.seq (.reg [⟨some 10, .mv (.c (.int .i64 (-1))), none⟩]) (.kp [0, 1, 4, 5, 6, 7, 8, 9, 10] (.seq (.seq (.reg [⟨some 25, .mv (.t 1), none⟩,
    ⟨some 26, .mv (.t 9), none⟩,
    ⟨some 27, .sidx (.t 25) (.t 26), none⟩,
    ⟨some 28, .bin .eql (.t 27) (.c (.int .u8 37)), none⟩]) (.kp [0, 1, 4, 5, 6, 7, 8, 9, 10, 28] (.cond (.t 28) (c40_t30) (.skip)))) (c40_k29))))) (c40_k14))
def c40_k31_go {Q e n H} := @awgoD Tryd.prog _ _ c40_k31.eq_1 Q e n H
def c40_L32 : ACode := .ke [0, 1, 4, 5, 6, 7, 8, 9] (.seq (.seq (.reg [⟨some 19, .mv (.t 9), none⟩,
    ⟨some 20, .mv (.t 1), none⟩,
    ⟨some 21, .lenS (.t 20), none⟩,
    ⟨some 22, .bin .lss (.t 19) (.t 21), none⟩]) (.kp [0, 1, 4, 5, 6, 7, 8, 9, 22] (.cond (.t 22) (.skip) (.exit 0)))) (c40_k31))
def c40_L32_go {Q e n H} := @awgoD Tryd.prog _ _ c40_L32.eq_1 Q e n H
def c40 : AFun := { nargs := 2, nt := 233, res := [.cell 4 (some 6), .cell 5 (some 2)], code := .seq (.reg [⟨some 4, .alloc 23 [(.int .i64 0), (.int .i64 0), (.int .i64 0), (.int .i64 0), (.int .i64 0), (.int .i64 0)], none⟩,
    ⟨some 5, .alloc 25 [(.int .i64 0), (.int .i64 0)], none⟩]) (.kp [0, 1, 4, 5] (.seq (.reg [⟨some 18, .bsl 3 none [(.c (.int .i64 (-1))), (.c (.int .i64 (-1))), (.c (.int .i64 (-1))), (.c (.int .i64 (-1))), (.c (.int .i64 (-1))), (.c (.int .i64 (-1))), (.c (.int .i64 (-1))), (.c (.int .i64 (-1))), (.c (.int .i64 (-1))), (.c (.int .i64 (-1))), (.c (.int .i64 (-1))), (.c (.int .i64 (-1)))], none⟩,
    ⟨some 6, .mv (.t 18), none⟩]) (.kp [0, 1, 4, 5, 6] (.seq (.reg [⟨some 7, .mv (.c (.bool false)), none⟩]) (.kp [0, 1, 4, 5, 6, 7] (.seq (.reg [⟨some 8, .mv (.c (.int .i64 0)), none⟩]) (.kp [0, 1, 4, 5, 6, 7, 8] (.seq (.seq (.reg [⟨some 9, .mv (.c (.int .i64 0)), none⟩]) (.kp [0, 1, 4, 5, 6, 7, 8, 9] (.block 0 (.kp [0, 1, 4, 5, 6, 7, 8, 9] (.loop c40_L32))))) (c40_k13))))))))) }
theorem cmp40 : (cFun Tryd.prog efs Tryd.f40).map (fun x => (x.nargs, x.nt, x.res, x.code)) = some (c40.nargs, c40.nt, c40.res, bare c40.code) := by kernel_rfl
def c62_k1 : ACode := .kp [] (.seq (.reg [⟨some 4, .mv (.c (.bool false)), none⟩]) (.ret))
def c62_k1_go {Q e n H} := @awgoD Tryd.prog _ _ c62_k1.eq_1 Q e n H
def c62_t2 : ACode := .kp [0] (.seq (.reg [⟨some 28, .mv (.t 0), none⟩,
    ⟨some 29, .nilck (.t 28), none⟩,
    ⟨some 30, .faddr (.t 29) 1 none, none⟩,
    ⟨some 31, .load none (.t 30), none⟩,
    ⟨some 32, .bin .add (.t 31) (.c (.int .i64 1)), none⟩,
    ⟨some 33, .nilck (.t 28), none⟩,
    ⟨some 34, .faddr (.t 33) 1 none, none⟩,
    ⟨none, .store none (.t 34) (.t 32), none⟩]) (.kp [] (.seq (.reg [⟨some 4, .mv (.c (.bool true)), none⟩]) (.ret))))
def c62_t2_go {Q e n H} := @awgoD Tryd.prog _ _ c62_t2.eq_1 Q e n H
def c62 : AFun := { nargs := 2, nt := 35, res := [.tmp 4], code := .seq (.reg [⟨some 4, .mv (.c (.bool false)), none⟩]) (.kp [0, 1] (.seq (.seq (.segs [⟨none, [⟨some 5, .mv (.t 0), none⟩,
      ⟨some 6, .nilck (.t 5), none⟩,
      ⟨some 7, .faddr (.t 6) 1 none, none⟩,
      ⟨some 8, .load none (.t 7), none⟩,
      ⟨some 9, .mv (.t 0), none⟩,
      ⟨some 10, .nilck (.t 9), none⟩,
      ⟨some 11, .faddr (.t 10) 0 none, none⟩,
      ⟨some 12, .load none (.t 11), none⟩,
      ⟨some 13, .lenS (.t 12), none⟩,
      ⟨some 14, .bin .lss (.t 8) (.t 13), none⟩,
      ⟨some 15, .mv (.t 14), none⟩], none⟩,
    ⟨some (15, true), [⟨some 16, .mv (.t 0), none⟩,
      ⟨some 17, .nilck (.t 16), none⟩,
      ⟨some 18, .faddr (.t 17) 0 none, none⟩,
      ⟨some 19, .load none (.t 18), none⟩,
      ⟨some 20, .mv (.t 0), none⟩,
      ⟨some 21, .nilck (.t 20), none⟩,
      ⟨some 22, .faddr (.t 21) 1 none, none⟩,
      ⟨some 23, .load none (.t 22), none⟩,
      ⟨some 24, .sidx (.t 19) (.t 23), none⟩,
      ⟨some 25, .mv (.t 1), none⟩,
      ⟨some 26, .bin .eql (.t 24) (.t 25), none⟩], some (27, 26)⟩]) (.kp [0, 27] (.cond (.t 27) (c62_t2) (.skip)))) (c62_k1))) }
theorem cmp62 : (cFun Tryd.prog efs Tryd.f62).map (fun x => (x.nargs, x.nt, x.res, x.code)) = some (c62.nargs, c62.nt, c62.res, bare c62.code) := by kernel_rfl
def c63_k1 : ACode := .kp [8] (.seq (.reg [⟨some 35, .mv (.t 8), none⟩,
    ⟨some 6, .mv (.t 35), none⟩]) (.ret))
def c63_k1_go {Q e n H} := @awgoD Tryd.prog _ _ c63_k1.eq_1 Q e n H
def c63_k2 : ACode := .kp [0, 1, 7, 8] (.seq (.seq (.reg [⟨some 30, .mv (.t 8), none⟩]) (.kp [0, 1, 7, 8, 30] (.cond (.t 30) (.reg [⟨some 31, .mv (.t 0), none⟩,
    ⟨some 32, .mv (.t 1), none⟩,
    ⟨some 33, .mv (.t 7), none⟩,
    ⟨some 34, .call 92 [(.t 31), (.t 32), (.t 33)], none⟩]) (.skip)))) (c63_k1))
def c63_k2_go {Q e n H} := @awgoD Tryd.prog _ _ c63_k2.eq_1 Q e n H
def c63_k3 : ACode := .kp [0, 1, 5] (.seq (.reg [⟨some 7, .mv (.c (.int .i64 0)), none⟩]) (.kp [0, 1, 5] (.seq (.reg [⟨some 8, .mv (.c (.bool false)), none⟩]) (.kp [0, 1, 5] (.seq (.seq (.reg [⟨some 13, .faddr (.t 5) 1 none, none⟩,
    ⟨some 14, .load none (.t 13), none⟩,
    ⟨some 15, .eqn true (.t 14), none⟩]) (.kp [0, 1, 5, 15] (.cond (.t 15) (.reg [⟨some 17, .mv (.t 0), none⟩,
    ⟨some 18, .faddr (.t 5) 1 none, none⟩,
    ⟨some 19, .load none (.t 18), none⟩,
    ⟨some 20, .call 90 [(.t 17), (.t 19)], none⟩,
    ⟨some 16, .mv (.t 20), none⟩,
    ⟨some 21, .extr (.t 16) 0, none⟩,
    ⟨some 22, .extr (.t 16) 1, none⟩,
    ⟨some 7, .mv (.t 21), none⟩,
    ⟨some 8, .mv (.t 22), none⟩]) (.reg [⟨some 24, .mv (.t 0), none⟩,
    ⟨some 25, .faddr (.t 5) 0 none, none⟩,
    ⟨some 26, .load none (.t 25), none⟩,
    ⟨some 27, .call 91 [(.t 24), (.t 26)], none⟩,
    ⟨some 23, .mv (.t 27), none⟩,
    ⟨some 28, .extr (.t 23) 0, none⟩,
    ⟨some 29, .extr (.t 23) 1, none⟩,
    ⟨some 7, .mv (.t 28), none⟩,
    ⟨some 8, .mv (.t 29), none⟩])))) (c63_k2))))))
def c63_k3_go {Q e n H} := @awgoD Tryd.prog _ _ c63_k3.eq_1 Q e n H
def c63 : AFun := { nargs := 3, nt := 36, res := [.tmp 6], code := .seq (.reg [⟨some 5, .box 74 (some 3) (.t 2), none⟩,
    ⟨some 6, .mv (.c (.bool false)), none⟩]) (.kp [0, 1, 5] (.seq (.seq (.reg [⟨some 9, .mv (.t 1), none⟩,
    ⟨some 10, .bin .eql (.t 9) (.c (.int .u8 37)), none⟩]) (.kp [0, 1, 5, 10] (.cond (.t 10) (.seq (.reg [⟨some 11, .mv (.t 0), none⟩,
    ⟨some 12, .call 62 [(.t 11), (.c (.int .u8 37))], none⟩,
    ⟨some 6, .mv (.t 12), none⟩]) (.ret)) (.skip)))) (c63_k3))) }
theorem cmp63 : (cFun Tryd.prog efs Tryd.f63).map (fun x => (x.nargs, x.nt, x.res, x.code)) = some (c63.nargs, c63.nt, c63.res, bare c63.code) := by kernel_rfl
def c65_k1 : ACode := .kp [] (.seq (.reg [⟨some 4, .mv (.c (.int .i64 (-1))), none⟩]) (.ret))
def c65_k1_go {Q e n H} := @awgoD Tryd.prog _ _ c65_k1.eq_1 Q e n H
def c65_k2 : ACode := .kp [0, 1, 5] (.reg [⟨some 14, .mv (.t 5), none⟩,
    ⟨some 15, .bin .add (.t 14) (.c (.int .i64 4)), none⟩,
    ⟨some 5, .mv (.t 15), none⟩])
def c65_k2_go {Q e n H} := @awgoD Tryd.prog _ _ c65_k2.eq_1 Q e n H
def c65_k3 : ACode := .kp [0, 1, 5] (.seq (.block 1 (.seq (.reg [⟨some 16, .mv (.t 0), none⟩,
    ⟨some 17, .mv (.t 5), none⟩,
    ⟨some 18, .mv (.t 5), none⟩,
    ⟨some 19, .bin .add (.t 18) (.c (.int .i64 3)), none⟩,
    ⟨some 20, .cutS (.t 16) (some (.t 17)) (some (.t 19)), none⟩,
    ⟨some 21, .mv (.t 1), none⟩,
    ⟨some 22, .bin .eql (.t 20) (.t 21), none⟩]) (.kp [0, 1, 5, 22] (.cond (.t 22) (.seq (.reg [⟨some 23, .mv (.t 5), none⟩,
    ⟨some 24, .bin .quo (.t 23) (.c (.int .i64 4)), none⟩,
    ⟨some 4, .mv (.t 24), none⟩]) (.ret)) (.skip))))) (c65_k2))
def c65_k3_go {Q e n H} := @awgoD Tryd.prog _ _ c65_k3.eq_1 Q e n H
def c65_L4 : ACode := .ke [0, 1, 5] (.seq (.seq (.reg [⟨some 9, .mv (.t 5), none⟩,
    ⟨some 10, .bin .add (.t 9) (.c (.int .i64 3)), none⟩,
    ⟨some 11, .mv (.t 0), none⟩,
    ⟨some 12, .lenS (.t 11), none⟩,
    ⟨some 13, .bin .leq (.t 10) (.t 12), none⟩]) (.kp [0, 1, 5, 13] (.cond (.t 13) (.skip) (.exit 0)))) (c65_k3))
def c65_L4_go {Q e n H} := @awgoD Tryd.prog _ _ c65_L4.eq_1 Q e n H
def c65_k5 : ACode := .kp [0, 1] (.seq (.seq (.reg [⟨some 5, .mv (.c (.int .i64 0)), none⟩]) (.kp [0, 1, 5] (.block 0 (.kp [0, 1, 5] (.loop c65_L4))))) (c65_k1))
def c65_k5_go {Q e n H} := @awgoD Tryd.prog _ _ c65_k5.eq_1 Q e n H
def c65 : AFun := { nargs := 2, nt := 25, res := [.tmp 4], code := .seq (.reg [⟨some 4, .mv (.c (.int .i64 0)), none⟩]) (.kp [0, 1] (.seq (.seq (.reg [⟨some 6, .mv (.t 1), none⟩,
    ⟨some 7, .lenS (.t 6), none⟩,
    ⟨some 8, .bin .neq (.t 7) (.c (.int .i64 3)), none⟩]) (.kp [0, 1, 8] (.cond (.t 8) (.seq (.reg [⟨some 4, .mv (.c (.int .i64 (-1))), none⟩]) (.ret)) (.skip)))) (c65_k5))) }
theorem cmp65 : (cFun Tryd.prog efs Tryd.f65).map (fun x => (x.nargs, x.nt, x.res, x.code)) = some (c65.nargs, c65.nt, c65.res, bare c65.code) := by kernel_rfl
def c66 : AFun := { nargs := 1, nt := 9, res := [.tmp 2], code := .seq (.reg [⟨some 2, .mv (.c (.bool false)), none⟩]) (.kp [0] (.seq (.segs [⟨none, [⟨some 3, .mv (.t 0), none⟩,
      ⟨some 4, .bin .geq (.t 3) (.c (.int .u8 48)), none⟩,
      ⟨some 5, .mv (.t 4), none⟩], none⟩,
    ⟨some (5, true), [⟨some 6, .mv (.t 0), none⟩,
      ⟨some 7, .bin .leq (.t 6) (.c (.int .u8 57)), none⟩], some (8, 7)⟩,
    ⟨none, [⟨some 2, .mv (.t 8), none⟩], none⟩]) (.ret))) }
theorem cmp66 : (cFun Tryd.prog efs Tryd.f66).map (fun x => (x.nargs, x.nt, x.res, x.code)) = some (c66.nargs, c66.nt, c66.res, bare c66.code) := by kernel_rfl
def c90_k1 : ACode := .kp [] (.seq (.reg [⟨some 4, .mv (.c (.int .i64 0)), none⟩,
    ⟨some 5, .mv (.c (.bool false)), none⟩]) (.ret))
def c90_k1_go {Q e n H} := @awgoD Tryd.prog _ _ c90_k1.eq_1 Q e n H
def c90_k2 : ACode := .kp [0, 8, 9, 10] (.reg [⟨some 37, .bin .add (.t 10) (.c (.int .i64 1)), none⟩,
    ⟨some 10, .mv (.t 37), none⟩])
def c90_k2_go {Q e n H} := @awgoD Tryd.prog _ _ c90_k2.eq_1 Q e n H
def c90_t3 : ACode := .kp [0, 6, 7] (.seq (.reg [⟨some 26, .mv (.t 0), none⟩,
    ⟨some 27, .nilck (.t 26), none⟩,
    ⟨some 28, .faddr (.t 27) 1 none, none⟩,
    ⟨some 29, .load none (.t 28), none⟩,
    ⟨some 30, .mv (.t 7), none⟩,
    ⟨some 31, .lenS (.t 30), none⟩,
    ⟨some 32, .bin .add (.t 29) (.t 31), none⟩,
    ⟨some 33, .nilck (.t 26), none⟩,
    ⟨some 34, .faddr (.t 33) 1 none, none⟩,
    ⟨none, .store none (.t 34) (.t 32), none⟩]) (.kp [6] (.seq (.reg [⟨some 35, .mv (.t 6), none⟩,
    ⟨some 36, .bin .add (.t 35) (.c (.int .i64 1)), none⟩,
    ⟨some 4, .mv (.t 36), none⟩,
    ⟨some 5, .mv (.c (.bool true)), none⟩]) (.ret))))
def c90_t3_go {Q e n H} := @awgoD Tryd.prog _ _ c90_t3.eq_1 Q e n H
def c90_k4 : ACode := .kp [0, 8, 9, 10] (.seq (.block 1 (.seq (.reg [⟨some 12, .mv (.t 10), none⟩,
    ⟨some 13, .iaddr 1 none (.t 8) (.t 10), none⟩,
    ⟨some 14, .load none (.t 13), none⟩,
    ⟨some 6, .mv (.t 12), none⟩,
    ⟨some 7, .mv (.t 14), none⟩]) (.kp [0, 6, 7, 8, 9, 10] (.seq (.reg [⟨some 15, .mv (.t 0), none⟩,
    ⟨some 16, .nilck (.t 15), none⟩,
    ⟨some 17, .faddr (.t 16) 0 none, none⟩,
    ⟨some 18, .load none (.t 17), none⟩,
    ⟨some 19, .mv (.t 0), none⟩,
    ⟨some 20, .nilck (.t 19), none⟩,
    ⟨some 21, .faddr (.t 20) 1 none, none⟩,
    ⟨some 22, .load none (.t 21), none⟩,
    ⟨some 23, .cutS (.t 18) (some (.t 22)) none, none⟩,
    ⟨some 24, .mv (.t 7), none⟩,
    ⟨some 25, .callp 85 [(.t 23), (.t 24)], none⟩]) (.kp [0, 6, 7, 8, 9, 10, 25] (.cond (.t 25) (c90_t3) (.skip))))))) (c90_k2))
def c90_k4_go {Q e n H} := @awgoD Tryd.prog _ _ c90_k4.eq_1 Q e n H
def c90_L5 : ACode := .ke [0, 8, 9, 10] (.seq (.reg [⟨some 11, .bin .lss (.t 10) (.t 9), none⟩]) (.kp [0, 8, 9, 10, 11] (.seq (.cond (.t 11) (.skip) (.exit 0)) (c90_k4))))
def c90_L5_go {Q e n H} := @awgoD Tryd.prog _ _ c90_L5.eq_1 Q e n H
def c90 : AFun := { nargs := 2, nt := 38, res := [.tmp 4, .tmp 5], code := .seq (.reg [⟨some 4, .mv (.c (.int .i64 0)), none⟩,
    ⟨some 5, .mv (.c (.bool false)), none⟩]) (.kp [0, 1] (.seq (.seq (.reg [⟨some 8, .mv (.t 1), none⟩,
    ⟨some 9, .len (.t 8), none⟩,
    ⟨some 10, .mv (.c (.int .i64 0)), none⟩]) (.kp [0, 8, 9, 10] (.block 0 (.kp [0, 8, 9, 10] (.loop c90_L5))))) (c90_k1))) }
theorem cmp90 : (cFun Tryd.prog efs Tryd.f90).map (fun x => (x.nargs, x.nt, x.res, x.code)) = some (c90.nargs, c90.nt, c90.res, bare c90.code) := by kernel_rfl
def c91_k1 : ACode := .kp [6] (.seq (.reg [⟨some 66, .mv (.t 6), none⟩,
    ⟨some 4, .mv (.t 66), none⟩,
    ⟨some 5, .mv (.c (.bool true)), none⟩]) (.ret))
def c91_k1_go {Q e n H} := @awgoD Tryd.prog _ _ c91_k1.eq_1 Q e n H
def c91_k2 : ACode := .kp [0, 6, 7, 8] (.reg [⟨some 65, .bin .add (.t 8) (.c (.int .i64 1)), none⟩,
    ⟨some 8, .mv (.t 65), none⟩])
def c91_k2_go {Q e n H} := @awgoD Tryd.prog _ _ c91_k2.eq_1 Q e n H
def c91_k3 : ACode := .kp [0, 6, 7, 8] (.seq (.reg [⟨some 44, .mv (.t 6), none⟩,
    ⟨some 45, .bin .mul (.c (.int .i64 10)) (.t 44), none⟩,
    ⟨some 46, .mv (.t 0), none⟩,
    ⟨some 47, .nilck (.t 46), none⟩,
    ⟨some 48, .faddr (.t 47) 0 none, none⟩,
    ⟨some 49, .load none (.t 48), none⟩,
    ⟨some 50, .mv (.t 0), none⟩,
    ⟨some 51, .nilck (.t 50), none⟩,
    ⟨some 52, .faddr (.t 51) 1 none, none⟩,
    ⟨some 53, .load none (.t 52), none⟩,
    ⟨some 54, .sidx (.t 49) (.t 53), none⟩,
    ⟨some 55, .bin .sub (.t 54) (.c (.int .u8 48)), none⟩,
    ⟨some 56, .cvi .i64 (.t 55), none⟩,
    ⟨some 57, .bin .add (.t 45) (.t 56), none⟩,
    ⟨some 6, .mv (.t 57), none⟩]) (.kp [0, 6, 7, 8] (.reg [⟨some 58, .mv (.t 0), none⟩,
    ⟨some 59, .nilck (.t 58), none⟩,
    ⟨some 60, .faddr (.t 59) 1 none, none⟩,
    ⟨some 61, .load none (.t 60), none⟩,
    ⟨some 62, .bin .add (.t 61) (.c (.int .i64 1)), none⟩,
    ⟨some 63, .nilck (.t 58), none⟩,
    ⟨some 64, .faddr (.t 63) 1 none, none⟩,
    ⟨none, .store none (.t 64) (.t 62), none⟩])))
def c91_k3_go {Q e n H} := @awgoD Tryd.prog _ _ c91_k3.eq_1 Q e n H
def c91_k4 : ACode := .kp [0, 6, 7, 8] (.seq (.block 1 (.seq (.seq (.segs [⟨none, [⟨some 10, .mv (.t 0), none⟩,
      ⟨some 11, .nilck (.t 10), none⟩,
      ⟨some 12, .faddr (.t 11) 1 none, none⟩,
      ⟨some 13, .load none (.t 12), none⟩,
      ⟨some 14, .mv (.t 0), none⟩,
      ⟨some 15, .nilck (.t 14), none⟩,
      ⟨some 16, .faddr (.t 15) 0 none, none⟩,
      ⟨some 17, .load none (.t 16), none⟩,
      ⟨some 18, .lenS (.t 17), none⟩,
      ⟨some 19, .bin .eql (.t 13) (.t 18), none⟩,
      ⟨some 20, .mv (.t 19), none⟩], none⟩,
    ⟨some (20, false), [⟨some 21, .mv (.t 0), none⟩,
      ⟨some 22, .nilck (.t 21), none⟩,
      ⟨some 23, .faddr (.t 22) 0 none, none⟩,
      ⟨some 24, .load none (.t 23), none⟩,
      ⟨some 25, .mv (.t 0), none⟩,
      ⟨some 26, .nilck (.t 25), none⟩,
      ⟨some 27, .faddr (.t 26) 1 none, none⟩,
      ⟨some 28, .load none (.t 27), none⟩,
      ⟨some 29, .sidx (.t 24) (.t 28), none⟩,
      ⟨some 30, .bin .lss (.t 29) (.c (.int .u8 48)), none⟩], some (31, 30)⟩,
    ⟨none, [⟨some 32, .mv (.t 31), none⟩], none⟩,
    ⟨some (32, false), [⟨some 33, .mv (.t 0), none⟩,
      ⟨some 34, .nilck (.t 33), none⟩,
      ⟨some 35, .faddr (.t 34) 0 none, none⟩,
      ⟨some 36, .load none (.t 35), none⟩,
      ⟨some 37, .mv (.t 0), none⟩,
      ⟨some 38, .nilck (.t 37), none⟩,
      ⟨some 39, .faddr (.t 38) 1 none, none⟩,
      ⟨some 40, .load none (.t 39), none⟩,
      ⟨some 41, .sidx (.t 36) (.t 40), none⟩,
      ⟨some 42, .bin .gtr (.t 41) (.c (.int .u8 57)), none⟩], some (43, 42)⟩]) (.kp [0, 6, 7, 8, 43] (.cond (.t 43) (.seq (.reg [⟨some 4, .mv (.c (.int .i64 0)), none⟩,
    ⟨some 5, .mv (.c (.bool false)), none⟩]) (.ret)) (.skip)))) (c91_k3))) (c91_k2))
def c91_k4_go {Q e n H} := @awgoD Tryd.prog _ _ c91_k4.eq_1 Q e n H
def c91_L5 : ACode := .ke [0, 6, 7, 8] (.seq (.reg [⟨some 9, .bin .lss (.t 8) (.t 7), none⟩]) (.kp [0, 6, 7, 8, 9] (.seq (.cond (.t 9) (.skip) (.exit 0)) (c91_k4))))
def c91_L5_go {Q e n H} := @awgoD Tryd.prog _ _ c91_L5.eq_1 Q e n H
def c91 : AFun := { nargs := 2, nt := 67, res := [.tmp 4, .tmp 5], code := .seq (.reg [⟨some 4, .mv (.c (.int .i64 0)), none⟩,
    ⟨some 5, .mv (.c (.bool false)), none⟩]) (.kp [0, 1] (.seq (.reg [⟨some 6, .mv (.c (.int .i64 0)), none⟩]) (.kp [0, 1, 6] (.seq (.seq (.reg [⟨some 7, .mv (.t 1), none⟩,
    ⟨some 8, .mv (.c (.int .i64 0)), none⟩]) (.kp [0, 6, 7, 8] (.block 0 (.kp [0, 6, 7, 8] (.loop c91_L5))))) (c91_k1))))) }
theorem cmp91 : (cFun Tryd.prog efs Tryd.f91).map (fun x => (x.nargs, x.nt, x.res, x.code)) = some (c91.nargs, c91.nt, c91.res, bare c91.code) := by kernel_rfl
def c92_k1 : ACode := .kp [0, 1, 2] (.reg [⟨some 28, .mv (.t 0), none⟩,
    ⟨some 29, .nilck (.t 28), none⟩,
    ⟨some 30, .faddr (.t 29) 2 none, none⟩,
    ⟨some 31, .load none (.t 30), none⟩,
    ⟨some 32, .mv (.t 1), none⟩,
    ⟨some 33, .mv (.t 2), none⟩,
    ⟨none, .mset (some .u8) (.t 31) (.t 32) (.t 33), none⟩])
def c92_k1_go {Q e n H} := @awgoD Tryd.prog _ _ c92_k1.eq_1 Q e n H
def c92_k2 : ACode := .kp [0, 1, 2] (.seq (.seq (.reg [⟨some 11, .mv (.t 0), none⟩,
    ⟨some 12, .nilck (.t 11), none⟩,
    ⟨some 13, .faddr (.t 12) 2 none, none⟩,
    ⟨some 14, .load none (.t 13), none⟩,
    ⟨some 15, .mv (.t 1), none⟩,
    ⟨some 16, .mget (some .u8) (.int .i64 0) true (.t 14) (.t 15), none⟩,
    ⟨some 10, .mv (.t 16), none⟩,
    ⟨some 17, .extr (.t 10) 0, none⟩,
    ⟨some 18, .extr (.t 10) 1, none⟩,
    ⟨some 6, .mv (.t 17), none⟩,
    ⟨some 7, .mv (.t 18), none⟩]) (.kp [0, 1, 2, 6, 7] (.seq (.segs [⟨none, [⟨some 19, .mv (.t 7), none⟩,
      ⟨some 20, .mv (.t 19), none⟩], none⟩,
    ⟨some (20, true), [⟨some 21, .mv (.t 6), none⟩,
      ⟨some 22, .mv (.t 2), none⟩,
      ⟨some 23, .bin .neq (.t 21) (.t 22), none⟩], some (24, 23)⟩]) (.kp [0, 1, 2, 24] (.cond (.t 24) (.reg [⟨some 25, .mv (.t 0), none⟩,
    ⟨some 26, .nilck (.t 25), none⟩,
    ⟨some 27, .faddr (.t 26) 3 none, none⟩,
    ⟨none, .store none (.t 27) (.c (.bool true)), none⟩]) (.skip)))))) (c92_k1))
def c92_k2_go {Q e n H} := @awgoD Tryd.prog _ _ c92_k2.eq_1 Q e n H
def c92 : AFun := { nargs := 3, nt := 34, res := [], code := .seq (.seq (.reg [⟨some 8, .mv (.t 1), none⟩,
    ⟨some 9, .bin .eql (.t 8) (.c (.int .u8 98)), none⟩]) (.kp [0, 1, 2, 9] (.cond (.t 9) (.reg [⟨some 1, .mv (.c (.int .u8 109)), none⟩]) (.skip)))) (c92_k2) }
theorem cmp92 : (cFun Tryd.prog efs Tryd.f92).map (fun x => (x.nargs, x.nt, x.res, x.code)) = some (c92.nargs, c92.nt, c92.res, bare c92.code) := by kernel_rfl
def c64_k1 : ACode := .kp [2, 3] (.seq (.reg [⟨some 36, .load (some 6) (.t 3), none⟩,
    ⟨none, .store (some 6) (.t 2) (.t 36), none⟩]) (.ret))
def c64_k1_go {Q e n H} := @awgoD Tryd.prog _ _ c64_k1.eq_1 Q e n H
def c64_k2 : ACode := .kp [0, 2, 3, 17] (.block 1 (.seq (.reg [⟨some 20, .ent (.t 17), none⟩,
    ⟨some 21, .extr (.t 20) 0, none⟩,
    ⟨some 22, .extr (.t 20) 1, none⟩,
    ⟨some 4, .mv (.t 21), none⟩,
    ⟨some 5, .mv (.t 22), none⟩]) (.kp [0, 2, 3, 4, 5, 17] (.seq (.reg [⟨some 24, .mv (.t 0), none⟩,
    ⟨some 25, .nilck (.t 24), none⟩,
    ⟨some 26, .faddr (.t 25) 2 none, none⟩,
    ⟨some 27, .load none (.t 26), none⟩,
    ⟨some 28, .mv (.t 4), none⟩,
    ⟨some 29, .mget (some .u8) (.int .i64 0) true (.t 27) (.t 28), none⟩,
    ⟨some 23, .mv (.t 29), none⟩,
    ⟨some 30, .extr (.t 23) 0, none⟩,
    ⟨some 31, .extr (.t 23) 1, none⟩,
    ⟨some 6, .mv (.t 30), none⟩,
    ⟨some 7, .mv (.t 31), none⟩]) (.kp [0, 2, 3, 5, 6, 7, 17] (.seq (.reg [⟨some 32, .mv (.t 7), none⟩]) (.kp [0, 2, 3, 5, 6, 17, 32] (.cond (.t 32) (.reg [⟨some 33, .mv (.t 5), none⟩,
    ⟨some 34, .mv (.t 6), none⟩,
    ⟨some 35, .nilck (.t 33), none⟩,
    ⟨none, .store none (.t 35) (.t 34), none⟩]) (.skip)))))))))
def c64_k2_go {Q e n H} := @awgoD Tryd.prog _ _ c64_k2.eq_1 Q e n H
def c64_L3 : ACode := .ke [0, 2, 3, 17] (.seq (.reg [⟨some 18, .nxt (.t 17), none⟩,
    ⟨some 19, .extr (.t 18) 0, none⟩]) (.kp [0, 2, 3, 17, 19] (.seq (.cond (.t 19) (.skip) (.exit 0)) (c64_k2))))
def c64_L3_go {Q e n H} := @awgoD Tryd.prog _ _ c64_L3.eq_1 Q e n H
def c64 : AFun := { nargs := 1, nt := 37, res := [.cell 2 (some 6)], code := .seq (.reg [⟨some 2, .alloc 23 [(.int .i64 0), (.int .i64 0), (.int .i64 0), (.int .i64 0), (.int .i64 0), (.int .i64 0)], none⟩]) (.kp [0, 2] (.seq (.reg [⟨some 8, .build [(.int .i64 0), (.int .i64 0), (.int .i64 0), (.int .i64 0), (.int .i64 0), (.int .i64 0)] [(0, none, (.c (.int .i64 1))), (1, none, (.c (.int .i64 1))), (2, none, (.c (.int .i64 1)))], none⟩,
    ⟨some 3, .alloc 23 [(.int .i64 0), (.int .i64 0), (.int .i64 0), (.int .i64 0), (.int .i64 0), (.int .i64 0)], none⟩,
    ⟨none, .store (some 6) (.t 3) (.t 8), none⟩]) (.kp [0, 2, 3] (.seq (.seq (.reg [⟨some 9, .mkmap (some .u8), none⟩,
    ⟨some 10, .faddr (.t 3) 0 none, none⟩,
    ⟨none, .mset (some .u8) (.t 9) (.c (.int .u8 89)) (.t 10), none⟩,
    ⟨some 11, .faddr (.t 3) 1 none, none⟩,
    ⟨none, .mset (some .u8) (.t 9) (.c (.int .u8 109)) (.t 11), none⟩,
    ⟨some 12, .faddr (.t 3) 2 none, none⟩,
    ⟨none, .mset (some .u8) (.t 9) (.c (.int .u8 100)) (.t 12), none⟩,
    ⟨some 13, .faddr (.t 3) 3 none, none⟩,
    ⟨none, .mset (some .u8) (.t 9) (.c (.int .u8 72)) (.t 13), none⟩,
    ⟨some 14, .faddr (.t 3) 4 none, none⟩,
    ⟨none, .mset (some .u8) (.t 9) (.c (.int .u8 77)) (.t 14), none⟩,
    ⟨some 15, .faddr (.t 3) 5 none, none⟩,
    ⟨none, .mset (some .u8) (.t 9) (.c (.int .u8 83)) (.t 15), none⟩,
    ⟨some 16, .mv (.t 9), none⟩,
    ⟨some 17, .rng (.t 16), none⟩]) (.kp [0, 2, 3, 17] (.block 0 (.kp [0, 2, 3, 17] (.loop c64_L3))))) (c64_k1))))) }
theorem cmp64 : (cFun Tryd.prog efs Tryd.f64).map (fun x => (x.nargs, x.nt, x.res, x.code)) = some (c64.nargs, c64.nt, c64.res, bare c64.code) := by kernel_rfl
def c85 : AFun := { nargs := 2, nt := 8, res := [.tmp 4], code := .seq (.reg [⟨some 4, .mv (.c (.bool false)), none⟩]) (.kp [0, 1] (.seq (.reg [⟨some 5, .mv (.t 0), none⟩,
    ⟨some 6, .mv (.t 1), none⟩,
    ⟨some 7, .callp 101 [(.t 5), (.t 6)], none⟩,
    ⟨some 4, .mv (.t 7), none⟩]) (.ret))) }
theorem cmp85 : (cFun Tryd.prog efs Tryd.f85).map (fun x => (x.nargs, x.nt, x.res, x.code)) = some (c85.nargs, c85.nt, c85.res, bare c85.code) := by kernel_rfl
def c101 : AFun := { nargs := 2, nt := 18, res := [.tmp 4], code := .seq (.reg [⟨some 4, .mv (.c (.bool false)), none⟩]) (.kp [0, 1] (.seq (.segs [⟨none, [⟨some 5, .mv (.t 0), none⟩,
      ⟨some 6, .lenS (.t 5), none⟩,
      ⟨some 7, .mv (.t 1), none⟩,
      ⟨some 8, .lenS (.t 7), none⟩,
      ⟨some 9, .bin .geq (.t 6) (.t 8), none⟩,
      ⟨some 10, .mv (.t 9), none⟩], none⟩,
    ⟨some (10, true), [⟨some 11, .mv (.t 0), none⟩,
      ⟨some 12, .mv (.t 1), none⟩,
      ⟨some 13, .lenS (.t 12), none⟩,
      ⟨some 14, .cutS (.t 11) none (some (.t 13)), none⟩,
      ⟨some 15, .mv (.t 1), none⟩,
      ⟨some 16, .bin .eql (.t 14) (.t 15), none⟩], some (17, 16)⟩,
    ⟨none, [⟨some 4, .mv (.t 17), none⟩], none⟩]) (.ret))) }
theorem cmp101 : (cFun Tryd.prog efs Tryd.f101).map (fun x => (x.nargs, x.nt, x.res, x.code)) = some (c101.nargs, c101.nt, c101.res, bare c101.code) := by kernel_rfl
end Go.Proofs.YtnmkpadgogbgkaaDoor
