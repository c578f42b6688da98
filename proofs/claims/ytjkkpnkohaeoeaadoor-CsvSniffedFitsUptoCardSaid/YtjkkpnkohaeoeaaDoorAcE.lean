/- The code of some functions on plain data, by program, and that it is what the program's text gives; no condition. -/
import Derived.Test.YtjkkpnkohaeoeaaDoorAcA
import Derived.Test.YtjkkpnkohaeoeaaDoorProg
import Derived.KernelRfl
set_option linter.all false
set_option linter.unusedSimpArgs false
set_option linter.unusedVariables false
namespace Go.Proofs.YtjkkpnkohaeoeaaDoor


def c19_k1 : ACode := .kp [5, 6] (.seq (.reg [⟨some 131, .mv (.t 6), none⟩,
    ⟨some 132, .callp 16 [(.c (.int .i64 0)), (.c (.int .i64 0))], none⟩,
    ⟨some 4, .mv (.t 131), none⟩,
    ⟨none, .store (some 2) (.t 5) (.t 132), none⟩]) (.ret))
theorem c19_k1_go {Q : AExit → AS → Prop} {e : AEnv} {n : Nat} {H : AHeap} : aw Tryd.prog c19_k1 Q ⟨e, n, H⟩ = aw Tryd.prog (.kp [5, 6] (.seq (.reg [⟨some 131, .mv (.t 6), none⟩,
    ⟨some 132, .callp 16 [(.c (.int .i64 0)), (.c (.int .i64 0))], none⟩,
    ⟨some 4, .mv (.t 131), none⟩,
    ⟨none, .store (some 2) (.t 5) (.t 132), none⟩]) (.ret))) Q ⟨e, n, H⟩ := rfl
def c19_k2 : ACode := .kp [5, 6] (.seq (.seq (.reg [⟨some 125, .mv (.t 6), none⟩,
    ⟨some 126, .callp 14 [(.t 125), (.c (.int .i64 (-3)))], none⟩,
    ⟨some 12, .alloc 26 [(.int .i64 0), (.int .i64 0)], none⟩,
    ⟨none, .store (some 2) (.t 12) (.t 126), none⟩]) (.kp [5, 6, 12] (.seq (.reg [⟨some 127, .faddr (.t 12) 0 none, none⟩,
    ⟨some 128, .load none (.t 127), none⟩,
    ⟨some 129, .bin .neq (.t 128) (.c (.int .i64 0)), none⟩]) (.kp [5, 6, 12, 129] (.cond (.t 129) (.seq (.reg [⟨some 130, .load (some 2) (.t 12), none⟩,
    ⟨some 4, .mv (.c (.sl 0 [] .nil)), none⟩,
    ⟨none, .store (some 2) (.t 5) (.t 130), none⟩]) (.ret)) (.skip)))))) (c19_k1))
theorem c19_k2_go {Q : AExit → AS → Prop} {e : AEnv} {n : Nat} {H : AHeap} : aw Tryd.prog c19_k2 Q ⟨e, n, H⟩ = aw Tryd.prog (.kp [5, 6] (.seq (.seq (.reg [⟨some 125, .mv (.t 6), none⟩,
    ⟨some 126, .callp 14 [(.t 125), (.c (.int .i64 (-3)))], none⟩,
    ⟨some 12, .alloc 26 [(.int .i64 0), (.int .i64 0)], none⟩,
    ⟨none, .store (some 2) (.t 12) (.t 126), none⟩]) (.kp [5, 6, 12] (.seq (.reg [⟨some 127, .faddr (.t 12) 0 none, none⟩,
    ⟨some 128, .load none (.t 127), none⟩,
    ⟨some 129, .bin .neq (.t 128) (.c (.int .i64 0)), none⟩]) (.kp [5, 6, 12, 129] (.cond (.t 129) (.seq (.reg [⟨some 130, .load (some 2) (.t 12), none⟩,
    ⟨some 4, .mv (.c (.sl 0 [] .nil)), none⟩,
    ⟨none, .store (some 2) (.t 5) (.t 130), none⟩]) (.ret)) (.skip)))))) (c19_k1))) Q ⟨e, n, H⟩ := rfl
def c19_k3 : ACode := .kp [5, 6, 7] (.seq (.seq (.reg [⟨some 118, .mv (.t 7), none⟩,
    ⟨some 119, .len (.t 118), none⟩,
    ⟨some 120, .bin .gtr (.t 119) (.c (.int .i64 0)), none⟩]) (.kp [5, 6, 7, 120] (.cond (.t 120) (.reg [⟨some 121, .mv (.t 6), none⟩,
    ⟨some 122, .mv (.t 7), none⟩,
    ⟨some 123, .bsl 39 none [(.t 122)], none⟩,
    ⟨some 124, .app 39 1 24 (.t 121) (.t 123), none⟩,
    ⟨some 6, .mv (.t 124), none⟩]) (.skip)))) (c19_k2))
theorem c19_k3_go {Q : AExit → AS → Prop} {e : AEnv} {n : Nat} {H : AHeap} : aw Tryd.prog c19_k3 Q ⟨e, n, H⟩ = aw Tryd.prog (.kp [5, 6, 7] (.seq (.seq (.reg [⟨some 118, .mv (.t 7), none⟩,
    ⟨some 119, .len (.t 118), none⟩,
    ⟨some 120, .bin .gtr (.t 119) (.c (.int .i64 0)), none⟩]) (.kp [5, 6, 7, 120] (.cond (.t 120) (.reg [⟨some 121, .mv (.t 6), none⟩,
    ⟨some 122, .mv (.t 7), none⟩,
    ⟨some 123, .bsl 39 none [(.t 122)], none⟩,
    ⟨some 124, .app 39 1 24 (.t 121) (.t 123), none⟩,
    ⟨some 6, .mv (.t 124), none⟩]) (.skip)))) (c19_k2))) Q ⟨e, n, H⟩ := rfl
def c19_k4 : ACode := .kp [5, 6, 7, 8, 9] (.seq (.seq (.reg [⟨some 112, .mv (.t 9), none⟩,
    ⟨some 113, .bin .neq (.t 112) (.c (.int .i64 0)), none⟩]) (.kp [5, 6, 7, 8, 113] (.cond (.t 113) (.reg [⟨some 114, .mv (.t 7), none⟩,
    ⟨some 115, .mv (.t 8), none⟩,
    ⟨some 116, .bsl 9 none [(.t 115)], none⟩,
    ⟨some 117, .app 9 1 16 (.t 114) (.t 116), none⟩,
    ⟨some 7, .mv (.t 117), none⟩]) (.skip)))) (c19_k3))
theorem c19_k4_go {Q : AExit → AS → Prop} {e : AEnv} {n : Nat} {H : AHeap} : aw Tryd.prog c19_k4 Q ⟨e, n, H⟩ = aw Tryd.prog (.kp [5, 6, 7, 8, 9] (.seq (.seq (.reg [⟨some 112, .mv (.t 9), none⟩,
    ⟨some 113, .bin .neq (.t 112) (.c (.int .i64 0)), none⟩]) (.kp [5, 6, 7, 8, 113] (.cond (.t 113) (.reg [⟨some 114, .mv (.t 7), none⟩,
    ⟨some 115, .mv (.t 8), none⟩,
    ⟨some 116, .bsl 9 none [(.t 115)], none⟩,
    ⟨some 117, .app 9 1 16 (.t 114) (.t 116), none⟩,
    ⟨some 7, .mv (.t 117), none⟩]) (.skip)))) (c19_k3))) Q ⟨e, n, H⟩ := rfl
def c19_k5 : ACode := .kp [0, 5, 6, 7, 8, 9] (.seq (.seq (.segs [⟨none, [⟨some 103, .mv (.t 9), none⟩,
      ⟨some 104, .bin .eql (.t 103) (.c (.int .i64 2)), none⟩,
      ⟨some 105, .mv (.t 104), none⟩], none⟩,
    ⟨some (105, false), [⟨some 106, .mv (.t 9), none⟩,
      ⟨some 107, .bin .eql (.t 106) (.c (.int .i64 4)), none⟩], some (108, 107)⟩]) (.kp [0, 5, 6, 7, 8, 9, 108] (.cond (.t 108) (.seq (.reg [⟨some 109, .mv (.t 0), none⟩,
    ⟨some 110, .lenS (.t 109), none⟩,
    ⟨some 111, .callp 16 [(.c (.int .i64 1)), (.t 110)], none⟩,
    ⟨some 4, .mv (.c (.sl 0 [] .nil)), none⟩,
    ⟨none, .store (some 2) (.t 5) (.t 111), none⟩]) (.ret)) (.skip)))) (c19_k4))
theorem c19_k5_go {Q : AExit → AS → Prop} {e : AEnv} {n : Nat} {H : AHeap} : aw Tryd.prog c19_k5 Q ⟨e, n, H⟩ = aw Tryd.prog (.kp [0, 5, 6, 7, 8, 9] (.seq (.seq (.segs [⟨none, [⟨some 103, .mv (.t 9), none⟩,
      ⟨some 104, .bin .eql (.t 103) (.c (.int .i64 2)), none⟩,
      ⟨some 105, .mv (.t 104), none⟩], none⟩,
    ⟨some (105, false), [⟨some 106, .mv (.t 9), none⟩,
      ⟨some 107, .bin .eql (.t 106) (.c (.int .i64 4)), none⟩], some (108, 107)⟩]) (.kp [0, 5, 6, 7, 8, 9, 108] (.cond (.t 108) (.seq (.reg [⟨some 109, .mv (.t 0), none⟩,
    ⟨some 110, .lenS (.t 109), none⟩,
    ⟨some 111, .callp 16 [(.c (.int .i64 1)), (.t 110)], none⟩,
    ⟨some 4, .mv (.c (.sl 0 [] .nil)), none⟩,
    ⟨none, .store (some 2) (.t 5) (.t 111), none⟩]) (.ret)) (.skip)))) (c19_k4))) Q ⟨e, n, H⟩ := rfl
def c19_k6 : ACode := .kp [0, 3, 5, 6, 7, 8, 9, 10] (.reg [⟨some 17, .mv (.t 10), none⟩,
    ⟨some 18, .bin .add (.t 17) (.c (.int .i64 1)), none⟩,
    ⟨some 10, .mv (.t 18), none⟩])
theorem c19_k6_go {Q : AExit → AS → Prop} {e : AEnv} {n : Nat} {H : AHeap} : aw Tryd.prog c19_k6 Q ⟨e, n, H⟩ = aw Tryd.prog (.kp [0, 3, 5, 6, 7, 8, 9, 10] (.reg [⟨some 17, .mv (.t 10), none⟩,
    ⟨some 18, .bin .add (.t 17) (.c (.int .i64 1)), none⟩,
    ⟨some 10, .mv (.t 18), none⟩])) Q ⟨e, n, H⟩ := rfl
def c19_k7 : ACode := .kp [0, 3, 5, 6, 7, 8, 10] (.seq (.reg [⟨some 96, .mv (.t 8), none⟩,
    ⟨some 97, .mv (.t 0), none⟩,
    ⟨some 98, .mv (.t 10), none⟩,
    ⟨some 99, .mv (.t 10), none⟩,
    ⟨some 100, .bin .add (.t 99) (.c (.int .i64 1)), none⟩,
    ⟨some 101, .cutS (.t 97) (some (.t 98)) (some (.t 100)), none⟩,
    ⟨some 102, .bin .add (.t 96) (.t 101), none⟩,
    ⟨some 8, .mv (.t 102), none⟩]) (.kp [0, 3, 5, 6, 7, 8, 10] (.reg [⟨some 9, .mv (.c (.int .i64 1)), none⟩])))
theorem c19_k7_go {Q : AExit → AS → Prop} {e : AEnv} {n : Nat} {H : AHeap} : aw Tryd.prog c19_k7 Q ⟨e, n, H⟩ = aw Tryd.prog (.kp [0, 3, 5, 6, 7, 8, 10] (.seq (.reg [⟨some 96, .mv (.t 8), none⟩,
    ⟨some 97, .mv (.t 0), none⟩,
    ⟨some 98, .mv (.t 10), none⟩,
    ⟨some 99, .mv (.t 10), none⟩,
    ⟨some 100, .bin .add (.t 99) (.c (.int .i64 1)), none⟩,
    ⟨some 101, .cutS (.t 97) (some (.t 98)) (some (.t 100)), none⟩,
    ⟨some 102, .bin .add (.t 96) (.t 101), none⟩,
    ⟨some 8, .mv (.t 102), none⟩]) (.kp [0, 3, 5, 6, 7, 8, 10] (.reg [⟨some 9, .mv (.c (.int .i64 1)), none⟩])))) Q ⟨e, n, H⟩ := rfl
def c19_k8 : ACode := .kp [0, 3, 5, 6, 7, 8, 9, 10] (.seq (.seq (.reg [⟨some 92, .mv (.t 9), none⟩,
    ⟨some 93, .bin .eql (.t 92) (.c (.int .i64 3)), none⟩]) (.kp [0, 3, 5, 6, 7, 8, 10, 93] (.cond (.t 93) (.seq (.reg [⟨some 94, .mv (.t 10), none⟩,
    ⟨some 95, .callp 16 [(.c (.int .i64 1)), (.t 94)], none⟩,
    ⟨some 4, .mv (.c (.sl 0 [] .nil)), none⟩,
    ⟨none, .store (some 2) (.t 5) (.t 95), none⟩]) (.ret)) (.skip)))) (c19_k7))
theorem c19_k8_go {Q : AExit → AS → Prop} {e : AEnv} {n : Nat} {H : AHeap} : aw Tryd.prog c19_k8 Q ⟨e, n, H⟩ = aw Tryd.prog (.kp [0, 3, 5, 6, 7, 8, 9, 10] (.seq (.seq (.reg [⟨some 92, .mv (.t 9), none⟩,
    ⟨some 93, .bin .eql (.t 92) (.c (.int .i64 3)), none⟩]) (.kp [0, 3, 5, 6, 7, 8, 10, 93] (.cond (.t 93) (.seq (.reg [⟨some 94, .mv (.t 10), none⟩,
    ⟨some 95, .callp 16 [(.c (.int .i64 1)), (.t 94)], none⟩,
    ⟨some 4, .mv (.c (.sl 0 [] .nil)), none⟩,
    ⟨none, .store (some 2) (.t 5) (.t 95), none⟩]) (.ret)) (.skip)))) (c19_k7))) Q ⟨e, n, H⟩ := rfl
def c19_k9 : ACode := .kp [0, 3, 5, 6, 7, 8, 10] (.seq (.reg [⟨some 9, .mv (.c (.int .i64 2)), none⟩]) (.exit 1))
theorem c19_k9_go {Q : AExit → AS → Prop} {e : AEnv} {n : Nat} {H : AHeap} : aw Tryd.prog c19_k9 Q ⟨e, n, H⟩ = aw Tryd.prog (.kp [0, 3, 5, 6, 7, 8, 10] (.seq (.reg [⟨some 9, .mv (.c (.int .i64 2)), none⟩]) (.exit 1))) Q ⟨e, n, H⟩ := rfl
def c19_k10 : ACode := .kp [0, 3, 5, 6, 7, 8, 9, 10] (.seq (.seq (.reg [⟨some 83, .mv (.t 9), none⟩,
    ⟨some 84, .bin .eql (.t 83) (.c (.int .i64 3)), none⟩]) (.kp [0, 3, 5, 6, 7, 8, 10, 84] (.cond (.t 84) (.reg [⟨some 85, .mv (.t 8), none⟩,
    ⟨some 86, .mv (.t 0), none⟩,
    ⟨some 87, .mv (.t 10), none⟩,
    ⟨some 88, .mv (.t 10), none⟩,
    ⟨some 89, .bin .add (.t 88) (.c (.int .i64 1)), none⟩,
    ⟨some 90, .cutS (.t 86) (some (.t 87)) (some (.t 89)), none⟩,
    ⟨some 91, .bin .add (.t 85) (.t 90), none⟩,
    ⟨some 8, .mv (.t 91), none⟩]) (.skip)))) (c19_k9))
theorem c19_k10_go {Q : AExit → AS → Prop} {e : AEnv} {n : Nat} {H : AHeap} : aw Tryd.prog c19_k10 Q ⟨e, n, H⟩ = aw Tryd.prog (.kp [0, 3, 5, 6, 7, 8, 9, 10] (.seq (.seq (.reg [⟨some 83, .mv (.t 9), none⟩,
    ⟨some 84, .bin .eql (.t 83) (.c (.int .i64 3)), none⟩]) (.kp [0, 3, 5, 6, 7, 8, 10, 84] (.cond (.t 84) (.reg [⟨some 85, .mv (.t 8), none⟩,
    ⟨some 86, .mv (.t 0), none⟩,
    ⟨some 87, .mv (.t 10), none⟩,
    ⟨some 88, .mv (.t 10), none⟩,
    ⟨some 89, .bin .add (.t 88) (.c (.int .i64 1)), none⟩,
    ⟨some 90, .cutS (.t 86) (some (.t 87)) (some (.t 89)), none⟩,
    ⟨some 91, .bin .add (.t 85) (.t 90), none⟩,
    ⟨some 8, .mv (.t 91), none⟩]) (.skip)))) (c19_k9))) Q ⟨e, n, H⟩ := rfl
def c19_t11 : ACode := .kp [0, 3, 5, 6, 7, 8, 9, 10] (.seq (.seq (.reg [⟨some 79, .mv (.t 9), none⟩,
    ⟨some 80, .bin .eql (.t 79) (.c (.int .i64 1)), none⟩]) (.kp [0, 3, 5, 6, 7, 8, 9, 10, 80] (.cond (.t 80) (.seq (.reg [⟨some 81, .mv (.t 10), none⟩,
    ⟨some 82, .callp 16 [(.c (.int .i64 1)), (.t 81)], none⟩,
    ⟨some 4, .mv (.c (.sl 0 [] .nil)), none⟩,
    ⟨none, .store (some 2) (.t 5) (.t 82), none⟩]) (.ret)) (.skip)))) (c19_k10))
theorem c19_t11_go {Q : AExit → AS → Prop} {e : AEnv} {n : Nat} {H : AHeap} : aw Tryd.prog c19_t11 Q ⟨e, n, H⟩ = aw Tryd.prog (.kp [0, 3, 5, 6, 7, 8, 9, 10] (.seq (.seq (.reg [⟨some 79, .mv (.t 9), none⟩,
    ⟨some 80, .bin .eql (.t 79) (.c (.int .i64 1)), none⟩]) (.kp [0, 3, 5, 6, 7, 8, 9, 10, 80] (.cond (.t 80) (.seq (.reg [⟨some 81, .mv (.t 10), none⟩,
    ⟨some 82, .callp 16 [(.c (.int .i64 1)), (.t 81)], none⟩,
    ⟨some 4, .mv (.c (.sl 0 [] .nil)), none⟩,
    ⟨none, .store (some 2) (.t 5) (.t 82), none⟩]) (.ret)) (.skip)))) (c19_k10))) Q ⟨e, n, H⟩ := rfl
def c19_k12 : ACode := .kp [0, 3, 5, 6, 7, 8, 9, 10, 11] (.seq (.seq (.reg [⟨some 75, .mv (.t 11), none⟩,
    ⟨some 76, .faddr (.t 3) 1 none, none⟩,
    ⟨some 77, .load none (.t 76), none⟩,
    ⟨some 78, .bin .eql (.t 75) (.t 77), none⟩]) (.kp [0, 3, 5, 6, 7, 8, 9, 10, 78] (.cond (.t 78) (c19_t11) (.skip)))) (c19_k8))
theorem c19_k12_go {Q : AExit → AS → Prop} {e : AEnv} {n : Nat} {H : AHeap} : aw Tryd.prog c19_k12 Q ⟨e, n, H⟩ = aw Tryd.prog (.kp [0, 3, 5, 6, 7, 8, 9, 10, 11] (.seq (.seq (.reg [⟨some 75, .mv (.t 11), none⟩,
    ⟨some 76, .faddr (.t 3) 1 none, none⟩,
    ⟨some 77, .load none (.t 76), none⟩,
    ⟨some 78, .bin .eql (.t 75) (.t 77), none⟩]) (.kp [0, 3, 5, 6, 7, 8, 9, 10, 78] (.cond (.t 78) (c19_t11) (.skip)))) (c19_k8))) Q ⟨e, n, H⟩ := rfl
def c19_k13 : ACode := .kp [0, 3, 5, 6, 7, 8, 9, 10, 11] (.seq (.seq (.reg [⟨some 73, .mv (.t 11), none⟩,
    ⟨some 74, .bin .eql (.t 73) (.c (.int .u8 13)), none⟩]) (.kp [0, 3, 5, 6, 7, 8, 9, 10, 11, 74] (.cond (.t 74) (.seq (.reg [⟨some 9, .mv (.c (.int .i64 4)), none⟩]) (.exit 1)) (.skip)))) (c19_k12))
theorem c19_k13_go {Q : AExit → AS → Prop} {e : AEnv} {n : Nat} {H : AHeap} : aw Tryd.prog c19_k13 Q ⟨e, n, H⟩ = aw Tryd.prog (.kp [0, 3, 5, 6, 7, 8, 9, 10, 11] (.seq (.seq (.reg [⟨some 73, .mv (.t 11), none⟩,
    ⟨some 74, .bin .eql (.t 73) (.c (.int .u8 13)), none⟩]) (.kp [0, 3, 5, 6, 7, 8, 9, 10, 11, 74] (.cond (.t 74) (.seq (.reg [⟨some 9, .mv (.c (.int .i64 4)), none⟩]) (.exit 1)) (.skip)))) (c19_k12))) Q ⟨e, n, H⟩ := rfl
def c19_t14 : ACode := .kp [0, 3, 5, 6, 7, 8, 10] (.seq (.reg [⟨some 65, .mv (.t 7), none⟩,
    ⟨some 66, .mv (.t 8), none⟩,
    ⟨some 67, .bsl 9 none [(.t 66)], none⟩,
    ⟨some 68, .app 9 1 16 (.t 65) (.t 67), none⟩,
    ⟨some 7, .mv (.t 68), none⟩]) (.kp [0, 3, 5, 6, 7, 10] (.seq (.reg [⟨some 69, .mv (.t 6), none⟩,
    ⟨some 70, .mv (.t 7), none⟩,
    ⟨some 71, .bsl 39 none [(.t 70)], none⟩,
    ⟨some 72, .app 39 1 24 (.t 69) (.t 71), none⟩,
    ⟨some 6, .mv (.t 72), none⟩]) (.kp [0, 3, 5, 6, 10] (.seq (.reg [⟨some 7, .mv (.c (.sl 0 [] .nil)), none⟩]) (.kp [0, 3, 5, 6, 7, 10] (.seq (.reg [⟨some 8, .mv (.c (.str [])), none⟩]) (.kp [0, 3, 5, 6, 7, 8, 10] (.seq (.reg [⟨some 9, .mv (.c (.int .i64 0)), none⟩]) (.exit 1))))))))))
theorem c19_t14_go {Q : AExit → AS → Prop} {e : AEnv} {n : Nat} {H : AHeap} : aw Tryd.prog c19_t14 Q ⟨e, n, H⟩ = aw Tryd.prog (.kp [0, 3, 5, 6, 7, 8, 10] (.seq (.reg [⟨some 65, .mv (.t 7), none⟩,
    ⟨some 66, .mv (.t 8), none⟩,
    ⟨some 67, .bsl 9 none [(.t 66)], none⟩,
    ⟨some 68, .app 9 1 16 (.t 65) (.t 67), none⟩,
    ⟨some 7, .mv (.t 68), none⟩]) (.kp [0, 3, 5, 6, 7, 10] (.seq (.reg [⟨some 69, .mv (.t 6), none⟩,
    ⟨some 70, .mv (.t 7), none⟩,
    ⟨some 71, .bsl 39 none [(.t 70)], none⟩,
    ⟨some 72, .app 39 1 24 (.t 69) (.t 71), none⟩,
    ⟨some 6, .mv (.t 72), none⟩]) (.kp [0, 3, 5, 6, 10] (.seq (.reg [⟨some 7, .mv (.c (.sl 0 [] .nil)), none⟩]) (.kp [0, 3, 5, 6, 7, 10] (.seq (.reg [⟨some 8, .mv (.c (.str [])), none⟩]) (.kp [0, 3, 5, 6, 7, 8, 10] (.seq (.reg [⟨some 9, .mv (.c (.int .i64 0)), none⟩]) (.exit 1))))))))))) Q ⟨e, n, H⟩ := rfl
def c19_k15 : ACode := .kp [0, 3, 5, 6, 7, 8, 9, 10, 11] (.seq (.seq (.reg [⟨some 63, .mv (.t 11), none⟩,
    ⟨some 64, .bin .eql (.t 63) (.c (.int .u8 10)), none⟩]) (.kp [0, 3, 5, 6, 7, 8, 9, 10, 11, 64] (.cond (.t 64) (c19_t14) (.skip)))) (c19_k13))
theorem c19_k15_go {Q : AExit → AS → Prop} {e : AEnv} {n : Nat} {H : AHeap} : aw Tryd.prog c19_k15 Q ⟨e, n, H⟩ = aw Tryd.prog (.kp [0, 3, 5, 6, 7, 8, 9, 10, 11] (.seq (.seq (.reg [⟨some 63, .mv (.t 11), none⟩,
    ⟨some 64, .bin .eql (.t 63) (.c (.int .u8 10)), none⟩]) (.kp [0, 3, 5, 6, 7, 8, 9, 10, 11, 64] (.cond (.t 64) (c19_t14) (.skip)))) (c19_k13))) Q ⟨e, n, H⟩ := rfl
def c19_t16 : ACode := .kp [0, 3, 5, 6, 7, 8, 10] (.seq (.reg [⟨some 51, .mv (.t 7), none⟩,
    ⟨some 52, .mv (.t 8), none⟩,
    ⟨some 53, .bsl 9 none [(.t 52)], none⟩,
    ⟨some 54, .app 9 1 16 (.t 51) (.t 53), none⟩,
    ⟨some 7, .mv (.t 54), none⟩]) (.kp [0, 3, 5, 6, 7, 10] (.seq (.reg [⟨some 8, .mv (.c (.str [])), none⟩]) (.kp [0, 3, 5, 6, 7, 8, 10] (.seq (.reg [⟨some 9, .mv (.c (.int .i64 0)), none⟩]) (.kp [0, 3, 5, 6, 7, 8, 9, 10] (.seq (.seq (.reg [⟨some 55, .mv (.t 10), none⟩,
    ⟨some 56, .bin .add (.t 55) (.c (.int .i64 1)), none⟩,
    ⟨some 57, .mv (.t 0), none⟩,
    ⟨some 58, .lenS (.t 57), none⟩,
    ⟨some 59, .bin .eql (.t 56) (.t 58), none⟩]) (.kp [0, 3, 5, 6, 7, 8, 9, 10, 59] (.cond (.t 59) (.reg [⟨some 60, .mv (.t 7), none⟩,
    ⟨some 61, .bsl 9 none [(.c (.str []))], none⟩,
    ⟨some 62, .app 9 1 16 (.t 60) (.t 61), none⟩,
    ⟨some 7, .mv (.t 62), none⟩]) (.skip)))) (.exit 1))))))))
theorem c19_t16_go {Q : AExit → AS → Prop} {e : AEnv} {n : Nat} {H : AHeap} : aw Tryd.prog c19_t16 Q ⟨e, n, H⟩ = aw Tryd.prog (.kp [0, 3, 5, 6, 7, 8, 10] (.seq (.reg [⟨some 51, .mv (.t 7), none⟩,
    ⟨some 52, .mv (.t 8), none⟩,
    ⟨some 53, .bsl 9 none [(.t 52)], none⟩,
    ⟨some 54, .app 9 1 16 (.t 51) (.t 53), none⟩,
    ⟨some 7, .mv (.t 54), none⟩]) (.kp [0, 3, 5, 6, 7, 10] (.seq (.reg [⟨some 8, .mv (.c (.str [])), none⟩]) (.kp [0, 3, 5, 6, 7, 8, 10] (.seq (.reg [⟨some 9, .mv (.c (.int .i64 0)), none⟩]) (.kp [0, 3, 5, 6, 7, 8, 9, 10] (.seq (.seq (.reg [⟨some 55, .mv (.t 10), none⟩,
    ⟨some 56, .bin .add (.t 55) (.c (.int .i64 1)), none⟩,
    ⟨some 57, .mv (.t 0), none⟩,
    ⟨some 58, .lenS (.t 57), none⟩,
    ⟨some 59, .bin .eql (.t 56) (.t 58), none⟩]) (.kp [0, 3, 5, 6, 7, 8, 9, 10, 59] (.cond (.t 59) (.reg [⟨some 60, .mv (.t 7), none⟩,
    ⟨some 61, .bsl 9 none [(.c (.str []))], none⟩,
    ⟨some 62, .app 9 1 16 (.t 60) (.t 61), none⟩,
    ⟨some 7, .mv (.t 62), none⟩]) (.skip)))) (.exit 1))))))))) Q ⟨e, n, H⟩ := rfl
def c19_k17 : ACode := .kp [0, 3, 5, 6, 7, 8, 9, 10, 11] (.seq (.seq (.segs [⟨none, [⟨some 43, .mv (.t 11), none⟩,
      ⟨some 44, .faddr (.t 3) 0 none, none⟩,
      ⟨some 45, .load none (.t 44), none⟩,
      ⟨some 46, .bin .eql (.t 43) (.t 45), none⟩,
      ⟨some 47, .mv (.t 46), none⟩], none⟩,
    ⟨some (47, true), [⟨some 48, .mv (.t 9), none⟩,
      ⟨some 49, .bin .neq (.t 48) (.c (.int .i64 4)), none⟩], some (50, 49)⟩]) (.kp [0, 3, 5, 6, 7, 8, 9, 10, 11, 50] (.cond (.t 50) (c19_t16) (.skip)))) (c19_k15))
theorem c19_k17_go {Q : AExit → AS → Prop} {e : AEnv} {n : Nat} {H : AHeap} : aw Tryd.prog c19_k17 Q ⟨e, n, H⟩ = aw Tryd.prog (.kp [0, 3, 5, 6, 7, 8, 9, 10, 11] (.seq (.seq (.segs [⟨none, [⟨some 43, .mv (.t 11), none⟩,
      ⟨some 44, .faddr (.t 3) 0 none, none⟩,
      ⟨some 45, .load none (.t 44), none⟩,
      ⟨some 46, .bin .eql (.t 43) (.t 45), none⟩,
      ⟨some 47, .mv (.t 46), none⟩], none⟩,
    ⟨some (47, true), [⟨some 48, .mv (.t 9), none⟩,
      ⟨some 49, .bin .neq (.t 48) (.c (.int .i64 4)), none⟩], some (50, 49)⟩]) (.kp [0, 3, 5, 6, 7, 8, 9, 10, 11, 50] (.cond (.t 50) (c19_t16) (.skip)))) (c19_k15))) Q ⟨e, n, H⟩ := rfl
def c19_k18 : ACode := .kp [0, 3, 5, 6, 7, 8, 9, 10, 11] (.seq (.seq (.segs [⟨none, [⟨some 35, .mv (.t 9), none⟩,
      ⟨some 36, .bin .eql (.t 35) (.c (.int .i64 4)), none⟩,
      ⟨some 37, .mv (.t 36), none⟩], none⟩,
    ⟨some (37, true), [⟨some 38, .mv (.t 11), none⟩,
      ⟨some 39, .bin .neq (.t 38) (.c (.int .u8 10)), none⟩], some (40, 39)⟩]) (.kp [0, 3, 5, 6, 7, 8, 9, 10, 11, 40] (.cond (.t 40) (.seq (.reg [⟨some 41, .mv (.t 10), none⟩,
    ⟨some 42, .callp 16 [(.c (.int .i64 1)), (.t 41)], none⟩,
    ⟨some 4, .mv (.c (.sl 0 [] .nil)), none⟩,
    ⟨none, .store (some 2) (.t 5) (.t 42), none⟩]) (.ret)) (.skip)))) (c19_k17))
theorem c19_k18_go {Q : AExit → AS → Prop} {e : AEnv} {n : Nat} {H : AHeap} : aw Tryd.prog c19_k18 Q ⟨e, n, H⟩ = aw Tryd.prog (.kp [0, 3, 5, 6, 7, 8, 9, 10, 11] (.seq (.seq (.segs [⟨none, [⟨some 35, .mv (.t 9), none⟩,
      ⟨some 36, .bin .eql (.t 35) (.c (.int .i64 4)), none⟩,
      ⟨some 37, .mv (.t 36), none⟩], none⟩,
    ⟨some (37, true), [⟨some 38, .mv (.t 11), none⟩,
      ⟨some 39, .bin .neq (.t 38) (.c (.int .u8 10)), none⟩], some (40, 39)⟩]) (.kp [0, 3, 5, 6, 7, 8, 9, 10, 11, 40] (.cond (.t 40) (.seq (.reg [⟨some 41, .mv (.t 10), none⟩,
    ⟨some 42, .callp 16 [(.c (.int .i64 1)), (.t 41)], none⟩,
    ⟨some 4, .mv (.c (.sl 0 [] .nil)), none⟩,
    ⟨none, .store (some 2) (.t 5) (.t 42), none⟩]) (.ret)) (.skip)))) (c19_k17))) Q ⟨e, n, H⟩ := rfl
def c19_t19 : ACode := .kp [0, 3, 5, 6, 7, 8, 9, 10, 11] (.seq (.seq (.reg [⟨some 24, .mv (.t 11), none⟩,
    ⟨some 25, .faddr (.t 3) 1 none, none⟩,
    ⟨some 26, .load none (.t 25), none⟩,
    ⟨some 27, .bin .eql (.t 24) (.t 26), none⟩]) (.kp [0, 3, 5, 6, 7, 8, 9, 10, 27] (.cond (.t 27) (.reg [⟨some 9, .mv (.c (.int .i64 3)), none⟩]) (.reg [⟨some 28, .mv (.t 8), none⟩,
    ⟨some 29, .mv (.t 0), none⟩,
    ⟨some 30, .mv (.t 10), none⟩,
    ⟨some 31, .mv (.t 10), none⟩,
    ⟨some 32, .bin .add (.t 31) (.c (.int .i64 1)), none⟩,
    ⟨some 33, .cutS (.t 29) (some (.t 30)) (some (.t 32)), none⟩,
    ⟨some 34, .bin .add (.t 28) (.t 33), none⟩,
    ⟨some 8, .mv (.t 34), none⟩])))) (.exit 1))
theorem c19_t19_go {Q : AExit → AS → Prop} {e : AEnv} {n : Nat} {H : AHeap} : aw Tryd.prog c19_t19 Q ⟨e, n, H⟩ = aw Tryd.prog (.kp [0, 3, 5, 6, 7, 8, 9, 10, 11] (.seq (.seq (.reg [⟨some 24, .mv (.t 11), none⟩,
    ⟨some 25, .faddr (.t 3) 1 none, none⟩,
    ⟨some 26, .load none (.t 25), none⟩,
    ⟨some 27, .bin .eql (.t 24) (.t 26), none⟩]) (.kp [0, 3, 5, 6, 7, 8, 9, 10, 27] (.cond (.t 27) (.reg [⟨some 9, .mv (.c (.int .i64 3)), none⟩]) (.reg [⟨some 28, .mv (.t 8), none⟩,
    ⟨some 29, .mv (.t 0), none⟩,
    ⟨some 30, .mv (.t 10), none⟩,
    ⟨some 31, .mv (.t 10), none⟩,
    ⟨some 32, .bin .add (.t 31) (.c (.int .i64 1)), none⟩,
    ⟨some 33, .cutS (.t 29) (some (.t 30)) (some (.t 32)), none⟩,
    ⟨some 34, .bin .add (.t 28) (.t 33), none⟩,
    ⟨some 8, .mv (.t 34), none⟩])))) (.exit 1))) Q ⟨e, n, H⟩ := rfl
def c19_k20 : ACode := .kp [0, 3, 5, 6, 7, 8, 9, 10] (.seq (.block 1 (.seq (.reg [⟨some 19, .mv (.t 0), none⟩,
    ⟨some 20, .mv (.t 10), none⟩,
    ⟨some 21, .sidx (.t 19) (.t 20), none⟩,
    ⟨some 11, .mv (.t 21), none⟩]) (.kp [0, 3, 5, 6, 7, 8, 9, 10, 11] (.seq (.seq (.reg [⟨some 22, .mv (.t 9), none⟩,
    ⟨some 23, .bin .eql (.t 22) (.c (.int .i64 2)), none⟩]) (.kp [0, 3, 5, 6, 7, 8, 9, 10, 11, 23] (.cond (.t 23) (c19_t19) (.skip)))) (c19_k18))))) (c19_k6))
theorem c19_k20_go {Q : AExit → AS → Prop} {e : AEnv} {n : Nat} {H : AHeap} : aw Tryd.prog c19_k20 Q ⟨e, n, H⟩ = aw Tryd.prog (.kp [0, 3, 5, 6, 7, 8, 9, 10] (.seq (.block 1 (.seq (.reg [⟨some 19, .mv (.t 0), none⟩,
    ⟨some 20, .mv (.t 10), none⟩,
    ⟨some 21, .sidx (.t 19) (.t 20), none⟩,
    ⟨some 11, .mv (.t 21), none⟩]) (.kp [0, 3, 5, 6, 7, 8, 9, 10, 11] (.seq (.seq (.reg [⟨some 22, .mv (.t 9), none⟩,
    ⟨some 23, .bin .eql (.t 22) (.c (.int .i64 2)), none⟩]) (.kp [0, 3, 5, 6, 7, 8, 9, 10, 11, 23] (.cond (.t 23) (c19_t19) (.skip)))) (c19_k18))))) (c19_k6))) Q ⟨e, n, H⟩ := rfl
def c19_L21 : ACode := .ke [0, 3, 5, 6, 7, 8, 9, 10] (.seq (.seq (.reg [⟨some 13, .mv (.t 10), none⟩,
    ⟨some 14, .mv (.t 0), none⟩,
    ⟨some 15, .lenS (.t 14), none⟩,
    ⟨some 16, .bin .lss (.t 13) (.t 15), none⟩]) (.kp [0, 3, 5, 6, 7, 8, 9, 10, 16] (.cond (.t 16) (.skip) (.exit 0)))) (c19_k20))
theorem c19_L21_go {Q : AExit → AS → Prop} {e : AEnv} {n : Nat} {H : AHeap} : aw Tryd.prog c19_L21 Q ⟨e, n, H⟩ = aw Tryd.prog (.ke [0, 3, 5, 6, 7, 8, 9, 10] (.seq (.seq (.reg [⟨some 13, .mv (.t 10), none⟩,
    ⟨some 14, .mv (.t 0), none⟩,
    ⟨some 15, .lenS (.t 14), none⟩,
    ⟨some 16, .bin .lss (.t 13) (.t 15), none⟩]) (.kp [0, 3, 5, 6, 7, 8, 9, 10, 16] (.cond (.t 16) (.skip) (.exit 0)))) (c19_k20))) Q ⟨e, n, H⟩ := rfl
def c19 : AFun := { nargs := 2, nt := 133, res := [.tmp 4, .cell 5 (some 2)], code := .seq (.reg [⟨some 3, .box 24 (some 4) (.t 1), none⟩,
    ⟨some 4, .mv (.c (.sl 0 [] .nil)), none⟩,
    ⟨some 5, .alloc 26 [(.int .i64 0), (.int .i64 0)], none⟩]) (.kp [0, 3, 5] (.seq (.reg [⟨some 6, .mv (.c (.sl 0 [] .nil)), none⟩]) (.kp [0, 3, 5, 6] (.seq (.reg [⟨some 7, .mv (.c (.sl 0 [] .nil)), none⟩]) (.kp [0, 3, 5, 6, 7] (.seq (.reg [⟨some 8, .mv (.c (.str [])), none⟩]) (.kp [0, 3, 5, 6, 7, 8] (.seq (.reg [⟨some 9, .mv (.c (.int .i64 0)), none⟩]) (.kp [0, 3, 5, 6, 7, 8, 9] (.seq (.seq (.reg [⟨some 10, .mv (.c (.int .i64 0)), none⟩]) (.kp [0, 3, 5, 6, 7, 8, 9, 10] (.block 0 (.kp [0, 3, 5, 6, 7, 8, 9, 10] (.loop c19_L21))))) (c19_k5))))))))))) }
theorem cmp19 : (cFun Tryd.prog efs Tryd.f19).map (fun x => (x.nargs, x.nt, x.res, x.code)) = some (c19.nargs, c19.nt, c19.res, bare c19.code) := by kernel_rfl

end Go.Proofs.YtjkkpnkohaeoeaaDoor
