/- That the library texts at this seat are those that the contracts of the shelf speak of; no condition. -/
import Derived.Shelf.Strings.Fields
import Derived.Shelf.Strconv.Itoa3
import Derived.Shelf.Strings.OnBuilder
import Derived.Test.YtjdccdelcnmocaaGreatDoorProg
import Derived.Test.YtjdccdelcnmocaaGreatDoorMgA
import Derived.Test.YtjdccdelcnmocaaGreatDoorMgI
import Derived.Test.YtjdccdelcnmocaaGreatDoorAdE
import Derived.Test.YtjdccdelcnmocaaGreatDoorMgJ
import Derived.WalkKit
import Derived.ProofKit
import Derived.OpenShut
import Derived.LaidLaws
import Derived.Deep.DeepHandedRow
import Derived.Deep.DeepWitnessRowRef
import Derived.Lib.LaidTab
import Derived.Lib.LaidU8
import Derived.MakeChecks
import Derived.Lay
set_option linter.all false
set_option linter.unusedSimpArgs false
set_option linter.unusedVariables false
set_option maxHeartbeats 16000000
namespace Go.Proofs.YtjdccdelcnmocaaGreatDoor
open Go.Shelf
def Qk : Go.Shelf.Ren := ⟨fun | 171 => 120 | 243 => 140 | 246 => 149 | 283 => 155 | 284 => 156 | 285 => 157 | 286 => 158 | 129 => 167 | 317 => 166 | 318 => 168 | 319 => 169 | 320 => 170 | 337 => 174 | 338 => 175 | n => n, fun | 3 => 3 | 9 => 9 | 2 => 2 | 4 => 4 | 171 => 159 | 0 => 0 | 53 => 160 | 37 => 127 | 5 => 5 | 173 => 163 | 212 => 184 | 51 => 156 | 20 => 20 | 213 => 185 | 46 => 186 | 232 => 201 | 233 => 202 | n => n, fun | 17 => 3 | 18 => 6 | 19 => 7 | n => n⟩
theorem Xj : Go.Proofs.LaysM.n171 Tryz.prog Qk := {
 mixed := by kernel_rfl
 f129 := Tryz.func167.trans (congrArg some (by kernel_rfl))
 f171 := Tryz.func120.trans (congrArg some (by kernel_rfl))
 f243 := Tryz.func140.trans (congrArg some (by kernel_rfl))
 f246 := Tryz.func149.trans (congrArg some (by kernel_rfl))
 f283 := Tryz.func155.trans (congrArg some (by kernel_rfl))
 f284 := Tryz.func156.trans (congrArg some (by kernel_rfl))
 f285 := Tryz.func157.trans (congrArg some (by kernel_rfl))
 f286 := Tryz.func158.trans (congrArg some (by kernel_rfl))
 f317 := Tryz.func166.trans (congrArg some (by kernel_rfl))
 f318 := Tryz.func168.trans (congrArg some (by kernel_rfl))
 f319 := Tryz.func169.trans (congrArg some (by kernel_rfl))
 f320 := Tryz.func170.trans (congrArg some (by kernel_rfl))
 f337 := Tryz.func174.trans (congrArg some (by kernel_rfl))
 f338 := Tryz.func175.trans (congrArg some (by kernel_rfl))
 t0 := Tryz.underlying0
 a0 := Tryz.isAgg0
 z0 := Tryz.sizeOf0
 v0 := Tryz.zeroValue0
 t2 := Tryz.underlying2
 a2 := Tryz.isAgg2
 z2 := Tryz.sizeOf2
 v2 := Tryz.zeroValue2
 t3 := Tryz.underlying3
 a3 := Tryz.isAgg3
 z3 := Tryz.sizeOf3
 v3 := Tryz.zeroValue3
 t4 := Tryz.underlying4
 a4 := Tryz.isAgg4
 z4 := Tryz.sizeOf4
 v4 := Tryz.zeroValue4
 t5 := Tryz.underlying5
 a5 := Tryz.isAgg5
 z5 := Tryz.sizeOf5
 v5 := Tryz.zeroValue5
 t9 := Tryz.underlying9
 a9 := Tryz.isAgg9
 z9 := Tryz.sizeOf9
 v9 := Tryz.zeroValue9
 t20 := Tryz.underlying20
 a20 := Tryz.isAgg20
 z20 := Tryz.sizeOf20
 v20 := Tryz.zeroValue20
 t37 := Tryz.underlying127
 a37 := Tryz.isAgg127
 z37 := Tryz.sizeOf127
 v37 := Tryz.zeroValue127
 t46 := Tryz.underlying186
 a46 := Tryz.isAgg186
 z46 := Tryz.sizeOf186
 v46 := Tryz.zeroValue186
 t51 := Tryz.underlying156
 a51 := Tryz.isAgg156
 z51 := Tryz.sizeOf156
 v51 := Tryz.zeroValue156
 t53 := Tryz.underlying160
 a53 := Tryz.isAgg160
 z53 := Tryz.sizeOf160
 v53 := Tryz.zeroValue160
 t171 := Tryz.underlying159
 a171 := Tryz.isAgg159
 z171 := Tryz.sizeOf159
 v171 := Tryz.zeroValue159
 t173 := Tryz.underlying163
 a173 := Tryz.isAgg163
 z173 := Tryz.sizeOf163
 v173 := Tryz.zeroValue163
 t212 := Tryz.underlying184
 a212 := Tryz.isAgg184
 z212 := Tryz.sizeOf184
 v212 := Tryz.zeroValue184
 t213 := Tryz.underlying185
 a213 := Tryz.isAgg185
 z213 := Tryz.sizeOf185
 t232 := Tryz.underlying201
 a232 := Tryz.isAgg201
 z232 := Tryz.sizeOf201
 v232 := Tryz.zeroValue201
 t233 := Tryz.underlying202
 a233 := Tryz.isAgg202
 z233 := Tryz.sizeOf202
 v233 := Tryz.zeroValue202
 g17 := by kernel_rfl
 g18 := by kernel_rfl
 g19 := by kernel_rfl
 i0 := by kernel_rfl
 i2 := by kernel_rfl
 i3 := by kernel_rfl
 i4 := by kernel_rfl
 i5 := by kernel_rfl
 i9 := by kernel_rfl
 i20 := by kernel_rfl
 i37 := by kernel_rfl
 i46 := by kernel_rfl
 i51 := by kernel_rfl
 i53 := by kernel_rfl
 i171 := by kernel_rfl
 i173 := by kernel_rfl
 i212 := by kernel_rfl
 i232 := by kernel_rfl
 i233 := by kernel_rfl
 m17 := by kernel_rfl
 m18 := by kernel_rfl
 m19 := by kernel_rfl }
def Kn : Go.Shelf.Ren := ⟨fun | 156 => 83 | 165 => 121 | 166 => 122 | 169 => 123 | 240 => 141 | 241 => 142 | 276 => 150 | 277 => 151 | n => n, fun | 31 => 87 | 9 => 9 | 3 => 3 | 4 => 4 | 0 => 0 | 20 => 20 | 72 => 129 | 76 => 133 | 70 => 126 | 37 => 127 | 75 => 132 | 127 => 143 | 164 => 149 | 5 => 5 | 80 => 112 | n => n, fun | n => n⟩
theorem Ul : Go.Proofs.Lays.n156 Tryz.prog Kn := {
 mixed := by kernel_rfl
 f156 := Tryz.func83.trans (congrArg some (by kernel_rfl))
 f165 := Tryz.func121.trans (congrArg some (by kernel_rfl))
 f166 := Tryz.func122.trans (congrArg some (by kernel_rfl))
 f169 := Tryz.func123.trans (congrArg some (by kernel_rfl))
 f240 := Tryz.func141.trans (congrArg some (by kernel_rfl))
 f241 := Tryz.func142.trans (congrArg some (by kernel_rfl))
 f276 := Tryz.func150.trans (congrArg some (by kernel_rfl))
 f277 := Tryz.func151.trans (congrArg some (by kernel_rfl))
 t0 := Tryz.underlying0
 a0 := Tryz.isAgg0
 z0 := Tryz.sizeOf0
 v0 := Tryz.zeroValue0
 t3 := Tryz.underlying3
 a3 := Tryz.isAgg3
 z3 := Tryz.sizeOf3
 v3 := Tryz.zeroValue3
 t4 := Tryz.underlying4
 a4 := Tryz.isAgg4
 z4 := Tryz.sizeOf4
 v4 := Tryz.zeroValue4
 t9 := Tryz.underlying9
 a9 := Tryz.isAgg9
 z9 := Tryz.sizeOf9
 v9 := Tryz.zeroValue9
 t20 := Tryz.underlying20
 a20 := Tryz.isAgg20
 z20 := Tryz.sizeOf20
 v20 := Tryz.zeroValue20
 t31 := Tryz.underlying87
 a31 := Tryz.isAgg87
 z31 := Tryz.sizeOf87
 v31 := Tryz.zeroValue87
 t37 := Tryz.underlying127
 a37 := Tryz.isAgg127
 z37 := Tryz.sizeOf127
 v37 := Tryz.zeroValue127
 t70 := Tryz.underlying126
 a70 := Tryz.isAgg126
 z70 := Tryz.sizeOf126
 v70 := Tryz.zeroValue126
 t72 := Tryz.underlying129
 a72 := Tryz.isAgg129
 z72 := Tryz.sizeOf129
 v72 := Tryz.zeroValue129
 t75 := Tryz.underlying132
 a75 := Tryz.isAgg132
 z75 := Tryz.sizeOf132
 v75 := Tryz.zeroValue132
 t76 := Tryz.underlying133
 a76 := Tryz.isAgg133
 z76 := Tryz.sizeOf133
 v76 := Tryz.zeroValue133
 t127 := Tryz.underlying143
 a127 := Tryz.isAgg143
 z127 := Tryz.sizeOf143
 v127 := Tryz.zeroValue143
 t164 := Tryz.underlying149
 a164 := Tryz.isAgg149
 z164 := Tryz.sizeOf149
 v164 := Tryz.zeroValue149 }
theorem FY : Builder.Extra Tryz.prog Kn := {
 sizeBuilder := by kernel_rfl
 liesBuilder := by kernel_rfl
 t5 := Tryz.underlying5
 a5 := Tryz.isAgg5
 z5 := Tryz.sizeOf5
 v5 := Tryz.zeroValue5
 infoByte := by kernel_rfl
 cellsByte := by kernel_rfl
 sizeByte := by kernel_rfl
 neB5 := by decide }
def S6 : Go.Shelf.Ren := ⟨fun | 157 => 139 | 229 => 147 | 199 => 148 | 261 => 154 | 311 => 164 | 312 => 165 | n => n, fun | 9 => 9 | 31 => 87 | 3 => 3 | 5 => 5 | 4 => 4 | 119 => 145 | 0 => 0 | 40 => 147 | 152 => 153 | 21 => 21 | 154 => 155 | 51 => 156 | 141 => 158 | 196 => 174 | 193 => 171 | 198 => 177 | 49 => 175 | 194 => 172 | 201 => 180 | 226 => 194 | 46 => 186 | 227 => 195 | n => n, fun | 0 => 0 | 6 => 1 | n => n⟩
theorem ZP : Go.Proofs.Lays.n157 Tryz.prog S6 := {
 mixed := by kernel_rfl
 f157 := Tryz.func139.trans (congrArg some (by kernel_rfl))
 f199 := Tryz.func148.trans (congrArg some (by kernel_rfl))
 f229 := Tryz.func147.trans (congrArg some (by kernel_rfl))
 f261 := Tryz.func154.trans (congrArg some (by kernel_rfl))
 f311 := Tryz.func164.trans (congrArg some (by kernel_rfl))
 f312 := Tryz.func165.trans (congrArg some (by kernel_rfl))
 t0 := Tryz.underlying0
 a0 := Tryz.isAgg0
 z0 := Tryz.sizeOf0
 v0 := Tryz.zeroValue0
 t3 := Tryz.underlying3
 a3 := Tryz.isAgg3
 z3 := Tryz.sizeOf3
 v3 := Tryz.zeroValue3
 t4 := Tryz.underlying4
 a4 := Tryz.isAgg4
 z4 := Tryz.sizeOf4
 v4 := Tryz.zeroValue4
 t5 := Tryz.underlying5
 a5 := Tryz.isAgg5
 z5 := Tryz.sizeOf5
 v5 := Tryz.zeroValue5
 t9 := Tryz.underlying9
 a9 := Tryz.isAgg9
 z9 := Tryz.sizeOf9
 v9 := Tryz.zeroValue9
 t21 := Tryz.underlying21
 a21 := Tryz.isAgg21
 z21 := Tryz.sizeOf21
 v21 := Tryz.zeroValue21
 t31 := Tryz.underlying87
 a31 := Tryz.isAgg87
 z31 := Tryz.sizeOf87
 v31 := Tryz.zeroValue87
 t40 := Tryz.underlying147
 a40 := Tryz.isAgg147
 z40 := Tryz.sizeOf147
 v40 := Tryz.zeroValue147
 t46 := Tryz.underlying186
 a46 := Tryz.isAgg186
 z46 := Tryz.sizeOf186
 v46 := Tryz.zeroValue186
 t49 := Tryz.underlying175
 a49 := Tryz.isAgg175
 z49 := Tryz.sizeOf175
 v49 := Tryz.zeroValue175
 t51 := Tryz.underlying156
 a51 := Tryz.isAgg156
 z51 := Tryz.sizeOf156
 v51 := Tryz.zeroValue156
 t119 := Tryz.underlying145
 a119 := Tryz.isAgg145
 z119 := Tryz.sizeOf145
 t141 := Tryz.underlying158
 a141 := Tryz.isAgg158
 z141 := Tryz.sizeOf158
 v141 := Tryz.zeroValue158
 t152 := Tryz.underlying153
 a152 := Tryz.isAgg153
 z152 := Tryz.sizeOf153
 v152 := Tryz.zeroValue153
 t154 := Tryz.underlying155
 a154 := Tryz.isAgg155
 z154 := Tryz.sizeOf155
 v154 := Tryz.zeroValue155
 t193 := Tryz.underlying171
 a193 := Tryz.isAgg171
 z193 := Tryz.sizeOf171
 v193 := Tryz.zeroValue171
 t194 := Tryz.underlying172
 a194 := Tryz.isAgg172
 z194 := Tryz.sizeOf172
 v194 := Tryz.zeroValue172
 t196 := Tryz.underlying174
 a196 := Tryz.isAgg174
 z196 := Tryz.sizeOf174
 v196 := Tryz.zeroValue174
 t198 := Tryz.underlying177
 a198 := Tryz.isAgg177
 z198 := Tryz.sizeOf177
 v198 := Tryz.zeroValue177
 t201 := Tryz.underlying180
 a201 := Tryz.isAgg180
 z201 := Tryz.sizeOf180
 v201 := Tryz.zeroValue180
 t226 := Tryz.underlying194
 a226 := Tryz.isAgg194
 z226 := Tryz.sizeOf194
 v226 := Tryz.zeroValue194
 t227 := Tryz.underlying195
 a227 := Tryz.isAgg195
 z227 := Tryz.sizeOf195
 v227 := Tryz.zeroValue195
 g0 := by kernel_rfl
 g6 := by kernel_rfl }
abbrev Str := List UInt8
abbrev aI (n : Int) : AV := .int .i64 n
abbrev aF (f : Int × Int) : AV := .agg [.int .i64 f.1, .int .i64 f.2]
abbrev R5 (l : List Int) : AV := .sl 1 (l.map aI) .ro
inductive St where
 | mk (k o n : Int) (v : List Int) (p : List St)
def St.k : St → Int | .mk k _ _ _ _ => k
def St.o : St → Int | .mk _ o _ _ _ => o
def St.n : St → Int | .mk _ _ n _ _ => n
def St.v : St → List Int | .mk _ _ _ v _ => v
def St.p : St → List St | .mk _ _ _ _ p => p
mutual
theorem St.ind {Q : St → Prop} (h : ∀ k o n v p, (∀ s ∈ p, Q s) → Q (.mk k o n v p)) : ∀ s, Q s
 | .mk k o n v p => h k o n v p (St.indL h p)
theorem St.indL {Q : St → Prop} (h : ∀ k o n v p, (∀ s ∈ p, Q s) → Q (.mk k o n v p)) : ∀ p : List St, ∀ s ∈ p, Q s
 | [], s, hs => by cases hs
 | x :: r, s, hs => by
  rcases List.mem_cons.1 hs with e | hs
  ·rw [e]; exact St.ind h x
  ·exact St.indL h r s hs
end
mutual
def encS : St → AV
 | .mk k o n v p => .agg [aI k, aI o, aI n, R5 v, .sl 5 (AR p) .ro]
def AR : List St → List AV
 | [] => []
 | s :: r => encS s :: AR r
end
theorem FB : ∀ p : List St, AR p = p.map encS
 | [] => by simp [AR]
 | s :: r => by simp [AR, FB r]
mutual
def Ab : St → Nat
 | .mk _ _ _ _ p => Ak p + 1
def Ak : List St → Nat
 | [] => 0
 | s :: r => Ab s + Ak r
end
theorem LP (s : St) : 0 < Ab s := by cases s; simp [Ab]
def Da (k : Int) : Bool := decide (k = 1) || decide (k = 2)
def G9 (k : Int) : Bool := decide (k = 13) || decide (k = 14)
def Jf (k : Int) : Bool := decide (k = 15) || decide (k = 16)
def NW (k : Int) : Bool := decide (k = 3) || decide (k = 9) || decide (k = 10) || decide (k = 15)
def D6 (k : Int) : Bool := decide (k = 4) || decide (k = 7) || decide (k = 8)
def Hw (k : Int) : Bool := decide (k = 5) || decide (k = 6) || decide (k = 12)
def GI (k : Int) : Bool := (NW k && decide (k ≠ 15)) || D6 k || Hw k
def J6 (k o : Int) : Int := if k = 10 then 1 else if (k = 3 ∧ o = 6) ∨ (D6 k = true ∧ o = 3) then 1 else 0
def J7 (k : Int) : Int := if k = 12 then 20 else if k = 5 ∨ k = 6 then 5000 else if k = 10 then 8 else 9999
def FU (k : Int) (i : Nat) (x : Int) : Bool := decide ((if k = 2 ∧ i = 2 then 1 else 0) ≤ x) && decide (x ≤ if k = 2 ∧ i = 1 then 10000 else 9999)
def BU (k : Int) : Nat → List Int → Bool
 | _, [] => true
 | i, x :: r => FU k i x && BU k (i + 1) r
def Bs : St → Int
 | .mk k o n v p =>
  if ¬ (1 ≤ k ∧ k ≤ 16) then 5
  else if (Da k = true ∧ p.length ≠ 0) ∨ (G9 k = true ∧ p.length = 0) ∨ (Jf k = true ∧ p.length ≠ 2) ∨ (Da k = false ∧ G9 k = false ∧ Jf k = false ∧ p.length ≠ 1) ∨ (k = 2 ∧ v.length ≠ 3) then 9
  else if (Da k = false ∧ v.length ≠ 0) ∨ (GI k = false ∧ n ≠ 0) ∨ (NW k = false ∧ D6 k = false ∧ o ≠ 0) then 6
  else if (NW k = true ∧ ¬ (1 ≤ o ∧ o ≤ 5) ∧ ¬ (k = 3 ∧ o = 6)) ∨ (D6 k = true ∧ ¬ (1 ≤ o ∧ o ≤ 3)) then 4
  else if GI k = true ∧ ¬ (J6 k o ≤ n ∧ n ≤ J7 k) then 4
  else if BU k 0 v = true then 0 else 4
mutual
def Dd : St → Nat → Nat × Int
 | .mk k o n v p, i => if 60 ≤ i then (i, 2) else if Bs (.mk k o n v p) ≠ 0 then (i, Bs (.mk k o n v p)) else HG p (i + 1)
def HG : List St → Nat → Nat × Int
 | [], i => (i, 0)
 | s :: r, i => if (Dd s i).2 ≠ 0 then Dd s i else HG r (Dd s i).1
end
def G4 : List Int → Nat
 | a :: b :: c :: _ => ((b - a + c - 1) / c).toNat
 | _ => 0
def CB (k n : Int) (v : List Int) (bs : List Nat) : Nat :=
 if k = 1 then v.length else if k = 2 then G4 v else if k = 5 then min n.toNat (bs.getD 0 0) else if k = 12 then n.toNat * bs.getD 0 0 else if k = 15 then min (bs.getD 0 0) (bs.getD 1 0) else bs.sum
mutual
def AW : St → Nat
 | .mk k _ n v p => CB k n v (DK p)
def DK : List St → List Nat
 | [] => []
 | s :: r => AW s :: DK r
end
theorem FG : ∀ p : List St, DK p = p.map AW
 | [] => by simp [DK]
 | s :: r => by simp [DK, FG r]
mutual
def E9 : St → Nat → Nat × Int
 | .mk k o n v p, i => ((FN p (i + 1)).1, if 5000 < AW (.mk k o n v p) then (i : Int) else (FN p (i + 1)).2)
def FN : List St → Nat → Nat × Int
 | [], i => (i, -1)
 | s :: r, i => ((FN r (E9 s i).1).1, if (E9 s i).2 < 0 then (FN r (E9 s i).1).2 else (E9 s i).2)
end
def Eg (s : St) : Int × Int := if (Dd s 0).2 ≠ 0 then ((Dd s 0).2, ((Dd s 0).1 : Int)) else if 0 ≤ (E9 s 0).2 then (14, (E9 s 0).2) else (0, 0)
mutual
def HE : St → Prop
 | .mk k o n v p => Bs (.mk k o n v p) = 0 ∧ TS p
def TS : List St → Prop
 | [] => True
 | s :: r => HE s ∧ TS r
end
mutual
def Ks : St → Prop
 | .mk k o n v p => AW (.mk k o n v p) ≤ 5000 ∧ Sp p
def Sp : List St → Prop
 | [] => True
 | s :: r => Ks s ∧ Sp r
end
theorem De : ∀ {p : List St}, TS p → ∀ s ∈ p, HE s
 | [], _, s, h => by cases h
 | x :: r, h, s, hs => by
  rcases List.mem_cons.1 hs with e | hs
  ·rw [e]; exact h.1
  ·exact De h.2 s hs
theorem Gf : ∀ {p : List St}, Sp p → ∀ s ∈ p, Ks s
 | [], _, s, h => by cases h
 | x :: r, h, s, hs => by
  rcases List.mem_cons.1 hs with e | hs
  ·rw [e]; exact h.1
  ·exact Gf h.2 s hs
mutual
theorem Jp : ∀ (s : St) (i : Nat), (Dd s i).2 = 0 → HE s ∧ (Dd s i).1 = i + Ab s ∧ (Dd s i).1 ≤ 60
 | .mk k o n v p, i, h => by
  simp only [Dd] at h ⊢
  split at h
  ·cases h
  ·split at h
   ·rename_i h1; exact absurd h h1
   ·rename_i h0 h1
    rw [if_neg h0, if_neg h1]
    obtain ⟨h2, h3, h4⟩ := UG p (i + 1) (by omega) h
    exact ⟨⟨by omega, h2⟩, by rw [h3]; simp only [Ab]; omega, h4⟩
theorem UG : ∀ (p : List St) (i : Nat), i ≤ 60 → (HG p i).2 = 0 → TS p ∧ (HG p i).1 = i + Ak p ∧ (HG p i).1 ≤ 60
 | [], i, hi, _ => ⟨trivial, rfl, hi⟩
 | s :: r, i, hi, h => by
  simp only [HG] at h ⊢
  split at h
  ·rename_i h1; exact absurd h h1
  ·rename_i h1
   rw [if_neg h1]
   obtain ⟨h2, h3, h6⟩ := Jp s i (by omega)
   obtain ⟨h4, h5, h7⟩ := UG r _ h6 h
   exact ⟨⟨h2, h4⟩, by rw [h5, h3]; simp only [Ak]; omega, h7⟩
end
mutual
theorem Lz : ∀ (s : St) (i : Nat), (E9 s i).1 = i + Ab s
 | .mk k o n v p, i => by simp only [E9, KG p, Ab]; omega
theorem KG : ∀ (p : List St) (i : Nat), (FN p i).1 = i + Ak p
 | [], i => rfl
 | s :: r, i => by simp only [FN, KG r, Lz s, Ak]; omega
end
mutual
theorem IE : ∀ (s : St) (i : Nat), -1 ≤ (E9 s i).2 ∧ ((E9 s i).2 < 0 ↔ Ks s)
 | .mk k o n v p, i => by
  have ih := Uq p (i + 1)
  simp only [E9, Ks]
  split
  ·refine ⟨by omega, ⟨fun h => by omega, fun h => by omega⟩⟩
  ·exact ⟨ih.1, ⟨fun h => ⟨by omega, ih.2.1 h⟩, fun h => ih.2.2 h.2⟩⟩
theorem Uq : ∀ (p : List St) (i : Nat), -1 ≤ (FN p i).2 ∧ ((FN p i).2 < 0 ↔ Sp p)
 | [], i => by simp [FN, Sp]
 | s :: r, i => by
  have h1 := IE s i
  have h2 := Uq r (E9 s i).1
  simp only [FN, Sp]
  split
  ·rename_i h; exact ⟨h2.1, ⟨fun h' => ⟨h1.2.1 h, h2.2.1 h'⟩, fun h' => h2.2.2 h'.2⟩⟩
  ·rename_i h; exact ⟨h1.1, ⟨fun h' => absurd h' h, fun h' => absurd (h1.2.2 h'.1) h⟩⟩
end
theorem J3 {s : St} (h : (Eg s).1 = 0) : Eg s = (0, 0) ∧ HE s ∧ Ks s ∧ Ab s ≤ 60 := by
 unfold Eg at h ⊢
 split at h
 ·rename_i h1; exact absurd h h1
 ·rename_i h1
  rw [if_neg h1]
  split at h
  ·cases h
  ·rename_i h2
   rw [if_neg h2]
   obtain ⟨h3, h4, h5⟩ := Jp s 0 (by omega)
   exact ⟨rfl, h3, (IE s 0).2.1 (by omega), by omega⟩
def DZ (op x y : Int) : Int := if op = 1 then (x + y) % 10000 else if op = 2 then (x - y + 10000) % 10000 else if op = 3 then x * y % 10000 else if op = 4 then max x y else if op = 5 then min x y else x % y
def Fj (op x n : Int) : Bool := if op = 1 then decide (x < n) else if op = 2 then decide (n ≤ x) else decide (x % n = 0)
abbrev AZ := List Int
abbrev Aq := List (Int × AZ)
structure Fut where
 cur : AZ
 l : Aq
 fin : AZ
def Rb : Nat → List Int → Aq
 | _, [] => []
 | i, x :: r => (x, [((i + 1 : Nat) : Int)]) :: Rb (i + 1) r
def Gi (xs : List Int) : Fut := ⟨[0], Rb 0 xs, [(xs.length : Int)]⟩
def FO (v : List Int) : List Int := match v with
 | a :: b :: c :: r => (List.range (G4 (a :: b :: c :: r))).map fun (i : Nat) => a + (i : Int) * c
 | _ => []
def DE : Nat → AZ → Aq → AZ → Aq × AZ
 | 0, cur, _, _ => ([], cur)
 | _ + 1, _, [], fin => ([], fin)
 | n + 1, _, (x, c) :: r, fin => ((x, c) :: (DE n c r fin).1, (DE n c r fin).2)
def Ev (p : Int → Bool) : Aq → AZ → Aq × AZ
 | [], fin => ([], fin)
 | (x, c) :: r, fin => if p x = true then ((x, c) :: (Ev p r fin).1, (Ev p r fin).2) else ([], c)
def Ie (p : Int → Bool) : Aq → Aq
 | [] => []
 | (x, c) :: r => if p x = true then Ie p r else (x, c) :: r
def LQ (f : Int → Int → Int) : Int → Aq → Aq
 | _, [] => []
 | n, (x, c) :: r => (f n x, c) :: LQ f (f n x) r
def Lc (f : Int → Int → Int) : List Int → Int
 | [] => 0
 | x :: r => r.foldl f x
def FP (f : Int → Int → Int) (N : Nat) : List Int → Aq → Aq
 | _, [] => []
 | last, (x, c) :: r => if last.length + 1 < N then FP f N (last ++ [x]) r else (Lc f ((last ++ [x]).drop (last.length + 1 - N)), c) :: FP f N ((last ++ [x]).drop (last.length + 1 - N)) r
def Fh : Int → Aq → Aq
 | _, [] => []
 | last, (x, c) :: r => if x ≠ last then (x, c) :: Fh x r else Fh last r
def Eo (xs : List Int) (fin : AZ) : Nat → Aq
 | 0 => []
 | n + 1 => xs.map (fun x => (x, fin)) ++ Eo xs fin n
def MO (n : Nat) (F : Fut) : Fut := if n = 0 then ⟨F.cur, [], F.cur⟩ else ⟨F.cur, F.l ++ Eo (F.l.map (·.1)) F.fin (n - 1), F.fin⟩
def CC (k o n : Int) (F : Fut) : Fut :=
 if k = 3 then ⟨F.cur, F.l.map fun e => (DZ o e.1 n, e.2), F.fin⟩
 else if k = 4 then ⟨F.cur, F.l.filter fun e => Fj o e.1 n, F.fin⟩
 else if k = 5 then ⟨F.cur, (DE n.toNat F.cur F.l F.fin).1, (DE n.toNat F.cur F.l F.fin).2⟩
 else if k = 6 then ⟨F.cur, F.l.drop n.toNat, F.fin⟩
 else if k = 7 then ⟨F.cur, (Ev (fun x => Fj o x n) F.l F.fin).1, (Ev (fun x => Fj o x n) F.l F.fin).2⟩
 else if k = 8 then ⟨F.cur, Ie (fun x => Fj o x n) F.l, F.fin⟩
 else if k = 9 then ⟨F.cur, LQ (DZ o) n F.l, F.fin⟩
 else if k = 10 then ⟨F.cur, FP (DZ o) n.toNat [] F.l, F.fin⟩
 else if k = 11 then ⟨F.cur, Fh (-1) F.l, F.fin⟩
 else MO n.toNat F
def D0 : List Fut → Fut
 | [] => ⟨[], [], []⟩
 | F :: Fs => ⟨F.cur ++ (D0 Fs).cur, F.l.map (fun e => (e.1, e.2 ++ (D0 Fs).cur)) ++ (D0 Fs).l.map (fun e => (e.1, F.fin ++ e.2)), F.fin ++ (D0 Fs).fin⟩
def EH : Nat → List (Nat × Aq × AZ) → List AZ → Aq × List AZ
 | 0, _, cs => ([], cs)
 | _ + 1, [], cs => ([], cs)
 | m + 1, (i, [], fin) :: q, cs => EH m q (cs.set i fin)
 | m + 1, (i, (x, c) :: r, fin) :: q, cs => ((x, (cs.set i c).flatten) :: (EH m (q ++ [(i, r, fin)]) (cs.set i c)).1, (EH m (q ++ [(i, r, fin)]) (cs.set i c)).2)
def So (Fs : List Fut) : Nat := (Fs.map fun F => F.l.length + 1).sum
def Hv (Fs : List Fut) : Fut :=
 ⟨(Fs.map (·.cur)).flatten, (EH (So Fs) (Fs.zipIdx.map fun x => (x.2, x.1.l, x.1.fin)) (Fs.map (·.cur))).1, (EH (So Fs) (Fs.zipIdx.map fun x => (x.2, x.1.l, x.1.fin)) (Fs.map (·.cur))).2.flatten⟩
def G0 (f : Int → Int → Int) (fa fb : AZ) : Aq → AZ → Aq → Aq × AZ
 | [], cb, _ => ([], fa ++ cb)
 | (_, c) :: _, _, [] => ([], c ++ fb)
 | (x, c) :: r, _, (y, d) :: t => ((f x y, c ++ d) :: (G0 f fa fb r d t).1, (G0 f fa fb r d t).2)
def DY (fa fb : AZ) : Aq → Aq → Aq
 | [], [] => []
 | [], (y, d) :: t => (y, fa ++ d) :: DY fa fb [] t
 | (x, c) :: r, [] => (x, c ++ fb) :: DY fa fb r []
 | (x, c) :: r, (y, d) :: t => if x ≤ y then (x, c ++ d) :: DY fa fb r ((y, d) :: t) else (y, c ++ d) :: DY fa fb ((x, c) :: r) t
 termination_by a b => a.length + b.length
def CO (k o n : Int) (v : List Int) (Fs : List Fut) : Fut :=
 if k = 1 then Gi v
 else if k = 2 then Gi (FO v)
 else if k = 13 then D0 Fs
 else if k = 14 then Hv Fs
 else match Fs with
  | [F] => CC k o n F
  | [F, G] => if k = 15 then ⟨F.cur ++ G.cur, (G0 (DZ o) F.fin G.fin F.l G.cur G.l).1, (G0 (DZ o) F.fin G.fin F.l G.cur G.l).2⟩ else ⟨F.cur ++ G.cur, DY F.fin G.fin F.l G.l, F.fin ++ G.fin⟩
  | _ => ⟨[], [], []⟩
mutual
def AY : St → Fut
 | .mk k o n v p => CO k o n v (Es p)
def Es : List St → List Fut
 | [] => []
 | s :: r => AY s :: Es r
end
theorem F9 : ∀ p : List St, Es p = p.map AY
 | [] => by simp [Es]
 | s :: r => by simp [Es, F9 r]
attribute [local simp] Nt GX Gy PR NX Pd OR GG Gx I1 JS Qp Q2 PM RE QS Qq P7 RI Nb No Qt Np Qo QJ WK pe PO Pu Pe R3 QU RG Qh PB Oj Nj NF Nm Qz Gv Pp NY PV Ox NJ Pn OY QT Qy QR R9 PJ Ow Q9 Ot Pg PH O7 Pz NO RA GQ OV H7 OS Nd PG PT Ou Nk Og Qx RD Pf NZ RF PL PX R4 OZ Nc Qs NT Oh Pw P6 R6 Q5 NK Gr PA Q4 Qb OP NM P4 Qn P3 Oq OC PI OG Q8 Ni Nh Q3 Nr ON Qr P1 P5 Ov Nw QQ QO Pc NV PC Px R2 K6 OM List.mem_cons guardK FJ Fz Gu J5 O5 Gk Ge Gz Gj H8 GY GO GV H5 PD QM Gg PZ Oy OB O4 Nv QK GU P2 OQ Ql QP O9 R8 J0 Gq Gn Gm Gs RC Pr H6 Ns Gl Nq GS Gd NQ GL Gp Ok O6 Pa Na PK QD Q7 PU WJ MC MV JD MF MB MU Fe I3 I6 O0 Hz I4 Fd FD YP ME M8 I8 M9 MW El EL C6 Bo Cu EA AH ev get put Fa AN EK QA OI OA QC MH Od FW part BS IH RB Hx isNil Df EC Ep EG EE OW Oc NH OL Ng ML Pk PY Q6 Nf Qc Qv Of Ps OD Pi AV.fits AV.cells ones AV.one FF DC FI EF Fg FS Po Fk GZ Cz Br CH Er Gw AX Bq ZY J8 Oz PP List.getElem?_cons_zero List.getElem?_cons_succ Gc GJ Ga OE OX QB IB Qd Pj Qm Qf Pb QI QL Pq Nz Oa Nu
theorem Ze (c i : Int) : APure Tryz.prog 20 [aI c, aI i] (aF (c, i)) := by
 refine A7 Tryz.func20 A2b rfl fun n H hH => ?_
 repeat' (first | (simp -implicitDefEqProofs [c20, -getElem?_pos, aF, splice, AM, AQ]) | (simp (disch := omega) only [AA]) | (with_reducible first | refine A6 ?_ ?_ ?_ | exact AC | refine SameB.upd ?_ ?_ _ | assumption | refine A0 ?_ | refine KM.of ?_ | refine AB ?_ | refine A1 ?_ | refine A4 ?_ | intro _g _hg | refine AD ?_ ?_ | intro _hc) | omega)
theorem Ia (x a b : Int) : APure Tryz.prog 19 [aI x, aI a, aI b] (.bool (decide (a ≤ x) && decide (x ≤ b))) := by
 refine A7 Tryz.func19 A2m rfl fun n H hH => ?_
 repeat' (first | (simp -implicitDefEqProofs [c19, -getElem?_pos, AM]) | (simp (disch := omega) only [AA]) | (with_reducible first | refine A6 ?_ ?_ ?_ | exact AC | refine SameB.upd ?_ ?_ _ | assumption | refine A0 ?_ | refine KM.of ?_ | refine AB ?_ | intro _g _hg | refine AD ?_ ?_ | intro _hc) | omega)
def B5 (x : Int) : Prop := 0 ≤ x ∧ x ≤ 9999
theorem A1j {x y : Int} (hx : B5 x) (hy : B5 y) : 0 ≤ x * y ∧ x * y ≤ 99980001 := by
 obtain ⟨x0, x1⟩ := hx
 obtain ⟨y0, y1⟩ := hy
 refine ⟨Int.mul_nonneg x0 y0, ?_⟩
 calc x * y ≤ 9999 * y := Int.mul_le_mul_of_nonneg_right x1 y0
  _ ≤ 9999 * 9999 := Int.mul_le_mul_of_nonneg_left y1 (by decide)
theorem Ir (op x y : Int) (ho : 1 ≤ op ∧ op ≤ 6) (hx : B5 x) (hy : B5 y) (h0 : op = 6 → 1 ≤ y) : APure Tryz.prog 102 [aI op, aI x, aI y] (aI (DZ op x y)) := by
 have hm := A1j hx hy
 obtain ⟨x0, x1⟩ := hx
 obtain ⟨y0, y1⟩ := hy
 refine A7 Tryz.func102 A0e rfl fun n H hH => ?_
 rcases (by omega : op = 1 ∨ op = 2 ∨ op = 3 ∨ op = 4 ∨ op = 5 ∨ op = 6) with rfl | rfl | rfl | rfl | rfl | rfl
 ·repeat' (first | (simp -implicitDefEqProofs [EN, EW, Eh, EQ, EV, c102, -getElem?_pos, AM, DZ]) | (simp (disch := omega) only [AA]) | (with_reducible first | refine A6 ?_ ?_ ?_ | exact AC | refine SameB.upd ?_ ?_ _ | assumption | refine A0 ?_ | refine KM.of ?_ | refine AB ?_ | intro _g _hg | refine AD ?_ ?_ | intro _hc) | omega)
 ·repeat' (first | (simp -implicitDefEqProofs [EN, EW, Eh, EQ, EV, c102, -getElem?_pos, AM, DZ]) | (simp (disch := omega) only [AA]) | (with_reducible first | refine A6 ?_ ?_ ?_ | exact AC | refine SameB.upd ?_ ?_ _ | assumption | refine A0 ?_ | refine KM.of ?_ | refine AB ?_ | intro _g _hg | refine AD ?_ ?_ | intro _hc) | omega)
 ·have hw : IntKind.i64.wrap (x * y) = x * y := IntWalk.i64_in _ (by omega)
  have ht : (x * y).tmod 10000 = x * y % 10000 := Int.tmod_eq_emod_of_nonneg hm.1
  repeat' (first | (simp -implicitDefEqProofs [EN, EW, Eh, EQ, EV, c102, -getElem?_pos, AM, DZ, hw, ht]) | (simp (disch := omega) only [AA]) | (with_reducible first | refine A6 ?_ ?_ ?_ | exact AC | refine SameB.upd ?_ ?_ _ | assumption | refine A0 ?_ | refine KM.of ?_ | refine AB ?_ | intro _g _hg | refine AD ?_ ?_ | intro _hc) | omega)
 ·repeat' (first | (simp -implicitDefEqProofs [EN, EW, Eh, EQ, EV, c102, -getElem?_pos, AM, DZ]) | (simp (disch := omega) only [AA]) | (with_reducible first | refine A6 ?_ ?_ ?_ | exact AC | refine SameB.upd ?_ ?_ _ | assumption | refine A0 ?_ | refine KM.of ?_ | refine AB ?_ | intro _g _hg | refine AD ?_ ?_ | intro _hc) | omega)
 ·repeat' (first | (simp -implicitDefEqProofs [EN, EW, Eh, EQ, EV, c102, -getElem?_pos, AM, DZ]) | (simp (disch := omega) only [AA]) | (with_reducible first | refine A6 ?_ ?_ ?_ | exact AC | refine SameB.upd ?_ ?_ _ | assumption | refine A0 ?_ | refine KM.of ?_ | refine AB ?_ | intro _g _hg | refine AD ?_ ?_ | intro _hc) | omega)
 ·have hy1 := h0 rfl
  have hyn : y ≠ 0 := by omega
  repeat' (first | (simp -implicitDefEqProofs [EN, EW, Eh, EQ, EV, c102, -getElem?_pos, AM, DZ, hyn]) | (simp (disch := omega) only [AA]) | (with_reducible first | refine A6 ?_ ?_ ?_ | exact AC | refine SameB.upd ?_ ?_ _ | assumption | refine A0 ?_ | refine KM.of ?_ | refine AB ?_ | intro _g _hg | refine AD ?_ ?_ | intro _hc) | omega)
theorem OH (op x y : Int) (ho : 1 ≤ op ∧ op ≤ 3) (hx : B5 x) (hy : B5 y) (h0 : op = 3 → 1 ≤ y) : APure Tryz.prog 108 [aI op, aI x, aI y] (.bool (Fj op x y)) := by
 obtain ⟨x0, x1⟩ := hx
 obtain ⟨y0, y1⟩ := hy
 refine A7 Tryz.func108 A1l rfl fun n H hH => ?_
 rcases (by omega : op = 1 ∨ op = 2 ∨ op = 3) with rfl | rfl | rfl
 ·repeat' (first | (simp -implicitDefEqProofs [IJ, IP, c108, -getElem?_pos, AM, Fj]) | (simp (disch := omega) only [AA]) | (with_reducible first | refine A6 ?_ ?_ ?_ | exact AC | refine SameB.upd ?_ ?_ _ | assumption | refine A0 ?_ | refine KM.of ?_ | refine AB ?_ | intro _g _hg | refine AD ?_ ?_ | intro _hc) | omega)
  try all_goals (rw [Bool.eq_iff_iff]; simp only [decide_eq_true_eq, beq_iff_eq, Bool.or_eq_true, Bool.not_eq_true', decide_eq_false_iff_not]; try omega)
 ·repeat' (first | (simp -implicitDefEqProofs [IJ, IP, c108, -getElem?_pos, AM, Fj]) | (simp (disch := omega) only [AA]) | (with_reducible first | refine A6 ?_ ?_ ?_ | exact AC | refine SameB.upd ?_ ?_ _ | assumption | refine A0 ?_ | refine KM.of ?_ | refine AB ?_ | intro _g _hg | refine AD ?_ ?_ | intro _hc) | omega)
  try all_goals (rw [Bool.eq_iff_iff]; simp only [decide_eq_true_eq, beq_iff_eq, Bool.or_eq_true, Bool.not_eq_true', decide_eq_false_iff_not]; try omega)
 ·have hy1 := h0 rfl
  have hyn : y ≠ 0 := by omega
  repeat' (first | (simp -implicitDefEqProofs [IJ, IP, c108, -getElem?_pos, AM, Fj, hyn]) | (simp (disch := omega) only [AA]) | (with_reducible first | refine A6 ?_ ?_ ?_ | exact AC | refine SameB.upd ?_ ?_ _ | assumption | refine A0 ?_ | refine KM.of ?_ | refine AB ?_ | intro _g _hg | refine AD ?_ ?_ | intro _hc) | omega)
  all_goals (rw [Bool.eq_iff_iff]; simp only [decide_eq_true_eq, beq_iff_eq, Bool.or_eq_true, Bool.not_eq_true', decide_eq_false_iff_not]; try omega)
theorem QE (k : Int) : APure Tryz.prog 44 [aI k] (.bool (Da k)) := by
 refine A7 Tryz.func44 A2v rfl fun n H hH => ?_
 repeat' (first | (simp -implicitDefEqProofs [c44, -getElem?_pos, AM, Da]) | (simp (disch := omega) only [AA]) | (with_reducible first | refine A6 ?_ ?_ ?_ | exact AC | refine SameB.upd ?_ ?_ _ | assumption | refine A0 ?_ | refine KM.of ?_ | refine AB ?_ | intro _g _hg | refine AD ?_ ?_ | intro _hc) | omega)
 all_goals (rw [Bool.eq_iff_iff]; simp only [decide_eq_true_eq, beq_iff_eq, Bool.or_eq_true, Bool.not_eq_true', decide_eq_false_iff_not]; try omega)
theorem Ii (k : Int) : APure Tryz.prog 53 [aI k] (.bool (NW k)) := by
 refine A7 Tryz.func53 A2a rfl fun n H hH => ?_
 repeat' (first | (simp -implicitDefEqProofs [c53, -getElem?_pos, AM, NW]) | (simp (disch := omega) only [AA]) | (with_reducible first | refine A6 ?_ ?_ ?_ | exact AC | refine SameB.upd ?_ ?_ _ | assumption | refine A0 ?_ | refine KM.of ?_ | refine AB ?_ | intro _g _hg | refine AD ?_ ?_ | intro _hc) | omega)
 all_goals (rw [Bool.eq_iff_iff]; simp only [decide_eq_true_eq, beq_iff_eq, Bool.or_eq_true, Bool.not_eq_true', decide_eq_false_iff_not]; try omega)
theorem Ht (k : Int) : APure Tryz.prog 55 [aI k] (.bool (D6 k)) := by
 refine A7 Tryz.func55 A2c rfl fun n H hH => ?_
 repeat' (first | (simp -implicitDefEqProofs [c55, -getElem?_pos, AM, D6]) | (simp (disch := omega) only [AA]) | (with_reducible first | refine A6 ?_ ?_ ?_ | exact AC | refine SameB.upd ?_ ?_ _ | assumption | refine A0 ?_ | refine KM.of ?_ | refine AB ?_ | intro _g _hg | refine AD ?_ ?_ | intro _hc) | omega)
 all_goals (rw [Bool.eq_iff_iff]; simp only [decide_eq_true_eq, beq_iff_eq, Bool.or_eq_true, Bool.not_eq_true', decide_eq_false_iff_not]; try omega)
theorem Hh (k : Int) : APure Tryz.prog 58 [aI k] (.bool (Hw k)) := by
 refine A7 Tryz.func58 A2g rfl fun n H hH => ?_
 repeat' (first | (simp -implicitDefEqProofs [c58, -getElem?_pos, AM, Hw]) | (simp (disch := omega) only [AA]) | (with_reducible first | refine A6 ?_ ?_ ?_ | exact AC | refine SameB.upd ?_ ?_ _ | assumption | refine A0 ?_ | refine KM.of ?_ | refine AB ?_ | intro _g _hg | refine AD ?_ ?_ | intro _hc) | omega)
 all_goals (rw [Bool.eq_iff_iff]; simp only [decide_eq_true_eq, beq_iff_eq, Bool.or_eq_true, Bool.not_eq_true', decide_eq_false_iff_not]; try omega)
theorem drop_at {α : Type} {l : List α} {k : Nat} {x : α} (h : l[k]? = some x) : l.drop k = x :: l.drop (k + 1) := by
 have hk := (List.getElem?_eq_some_iff.1 h).1
 rw [List.drop_eq_getElem_cons hk, (List.getElem?_eq_some_iff.1 h).2]
theorem IF {α : Type} {f : α → AV} {l : List α} {k : Nat} {x : α} (h : l[k]? = some x) : (l.map f)[k]? = some (f x) := by
 rw [List.getElem?_map, h]; rfl
theorem AF (k o n : Int) (v : List Int) (p : List St) : encS (.mk k o n v p) = .agg [aI k, aI o, aI n, .sl 1 (v.map aI) .ro, .sl 5 (AR p) .ro] := by rw [encS]
theorem Ai (p : List St) : (AR p).length = p.length := by rw [FB]; simp
theorem UI {k : Int} {i : Nat} {v : List Int} {x : Int} (hx : v[i]? = some x) : BU k i (v.drop i) = (FU k i x && BU k (i + 1) (v.drop (i + 1))) := by
 rw [drop_at hx, BU]
theorem Rw {k : Int} {i : Nat} {v : List Int} (h : v.length ≤ i) : BU k i (v.drop i) = true := by
 rw [List.drop_eq_nil_of_le h, BU]
theorem Eu (k o m : Int) (v : List Int) (p : List St) (g n0 n1 : Nat) (H H1 : A3) (q : H1 g = some (.cells 25 [aI k, aI o, aI m, .sl 1 (v.map aI) .ro, .sl 5 (AR p) .ro])) (hn : n0 ≤ n1) (hs : SameB n0 H H1) (hvb : v.length ≤ 140737488355328) :
  LoopK (fun Q s => aw Tryz.prog c68_L6 Q s) (EY 0 (Ej (aw Tryz.prog c68_k1 (QW (aI (if BU k 0 v = true then 0 else 4)) n0 H [.tmp 2])) (QW (aI (if BU k 0 v = true then 0 else 4)) n0 H [.tmp 2]))) ⟨[(1, .ptr g 0), (3, aI k), (10, aI 0)], n1, H1⟩ := by
 refine LoopK.go (fun r s => ∃ i : Nat, i + r = v.length ∧ s = ⟨[(1, .ptr g 0), (3, aI k), (10, aI i)], n1, H1⟩ ∧ BU k 0 v = BU k i (v.drop i)) v.length ⟨0, by omega, rfl, rfl⟩ ?_
 rintro r s ⟨i, hi, rfl, hE⟩ J hJ
 by_cases hil : i < v.length
 ·obtain ⟨x, hx⟩ : ∃ x, v[i]? = some x := ⟨_, List.getElem?_eq_getElem hil⟩
  have hx' := IF (f := aI) hx
  have hil' : (i : Int) < v.length := by omega
  have hvl : (v.map aI).length = v.length := by simp
  rw [UI hx] at hE
  generalize v.map aI = va at *
  have hin := fun a b => Ia x a b
  by_cases hv : FU k i x = true
  ·rw [hv, Bool.true_and] at hE
   unfold FU at hv
   by_cases hk : k = 2
   ·subst hk
    by_cases h1 : i = 1
    ·subst h1
     have hv : (decide (0 ≤ x) && decide (x ≤ 10000)) = true := by simpa using hv
     have hin := Ia x 0 10000
     rw [hv] at hin
     
     repeat' (first | (simp -implicitDefEqProofs [DU, DR, DP, DW, DS, DQ, Bw, Bv, Bu, BW, Bl, Bf, Bh, Bd, Ba, c68, -getElem?_pos, q, hx', hvl, hil']) | (simp (disch := omega) only [AA]) | ((with_reducible refine Aa 19 ?_); refine' Am (hin) ?_) | (with_reducible first | refine A6 ?_ ?_ ?_ | exact AC | refine SameB.upd ?_ ?_ _ | assumption | refine A0 ?_ | refine KM.of ?_ | refine AB ?_ | refine A1 ?_ | refine A4 ?_ | intro _g _hg | refine AD ?_ ?_ | intro _hc) | omega)
     exact hJ (r - 1) _ (by omega) ⟨2, by omega, rfl, hE⟩
    ·by_cases h2 : i = 2
     ·subst h2
      have hv : (decide (1 ≤ x) && decide (x ≤ 9999)) = true := by simpa using hv
      have hin := Ia x 1 9999
      rw [hv] at hin
      
      repeat' (first | (simp -implicitDefEqProofs [DU, DR, DP, DW, DS, DQ, Bw, Bv, Bu, BW, Bl, Bf, Bh, Bd, Ba, c68, -getElem?_pos, q, hx', hvl, hil']) | (simp (disch := omega) only [AA]) | ((with_reducible refine Aa 19 ?_); refine' Am (hin) ?_) | (with_reducible first | refine A6 ?_ ?_ ?_ | exact AC | refine SameB.upd ?_ ?_ _ | assumption | refine A0 ?_ | refine KM.of ?_ | refine AB ?_ | refine A1 ?_ | refine A4 ?_ | intro _g _hg | refine AD ?_ ?_ | intro _hc) | omega)
      exact hJ (r - 1) _ (by omega) ⟨3, by omega, rfl, hE⟩
     ·have hv : (decide (0 ≤ x) && decide (x ≤ 9999)) = true := by simpa [h1, h2] using hv
      have hin := Ia x 0 9999
      rw [hv] at hin
      have h1' : ¬ (i : Int) = 1 := by omega
      have h2' : ¬ (i : Int) = 2 := by omega
      
      repeat' (first | (simp -implicitDefEqProofs [DU, DR, DP, DW, DS, DQ, Bw, Bv, Bu, BW, Bl, Bf, Bh, Bd, Ba, c68, -getElem?_pos, q, hx', hvl, hil', h1', h2']) | (simp (disch := omega) only [AA]) | ((with_reducible refine Aa 19 ?_); refine' Am (hin) ?_) | (with_reducible first | refine A6 ?_ ?_ ?_ | exact AC | refine SameB.upd ?_ ?_ _ | assumption | refine A0 ?_ | refine KM.of ?_ | refine AB ?_ | refine A1 ?_ | refine A4 ?_ | intro _g _hg | refine AD ?_ ?_ | intro _hc) | omega)
      exact hJ (r - 1) _ (by omega) ⟨i + 1, by omega, rfl, hE⟩
   ·have hv : (decide (0 ≤ x) && decide (x ≤ 9999)) = true := by simpa [hk] using hv
    have hin := Ia x 0 9999
    rw [hv] at hin
    
    repeat' (first | (simp -implicitDefEqProofs [DU, DR, DP, DW, DS, DQ, Bw, Bv, Bu, BW, Bl, Bf, Bh, Bd, Ba, c68, -getElem?_pos, q, hx', hvl, hil', hk]) | (simp (disch := omega) only [AA]) | ((with_reducible refine Aa 19 ?_); refine' Am (hin) ?_) | (with_reducible first | refine A6 ?_ ?_ ?_ | exact AC | refine SameB.upd ?_ ?_ _ | assumption | refine A0 ?_ | refine KM.of ?_ | refine AB ?_ | refine A1 ?_ | refine A4 ?_ | intro _g _hg | refine AD ?_ ?_ | intro _hc) | omega)
    exact hJ (r - 1) _ (by omega) ⟨i + 1, by omega, rfl, hE⟩
  ·have hv : FU k i x = false := by simpa using hv
   rw [hv, Bool.false_and] at hE
   rw [hE]
   unfold FU at hv
   by_cases hk : k = 2
   ·subst hk
    by_cases h1 : i = 1
    ·subst h1
     have hv : (decide (0 ≤ x) && decide (x ≤ 10000)) = false := by simpa using hv
     have hin := Ia x 0 10000
     rw [hv] at hin
     
     repeat' (first | (simp -implicitDefEqProofs [DU, DR, DP, DW, DS, DQ, Bw, Bv, Bu, BW, Bl, Bf, Bh, Bd, Ba, c68, -getElem?_pos, q, hx', hvl, hil', A5]) | (simp (disch := omega) only [AA]) | ((with_reducible refine Aa 19 ?_); refine' Am (hin) ?_) | (with_reducible first | refine A6 ?_ ?_ ?_ | exact AC | refine SameB.upd ?_ ?_ _ | assumption | refine A0 ?_ | refine KM.of ?_ | refine AB ?_ | refine A1 ?_ | refine A4 ?_ | intro _g _hg | refine AD ?_ ?_ | intro _hc) | omega)
    ·by_cases h2 : i = 2
     ·subst h2
      have hv : (decide (1 ≤ x) && decide (x ≤ 9999)) = false := by simpa using hv
      have hin := Ia x 1 9999
      rw [hv] at hin
      
      repeat' (first | (simp -implicitDefEqProofs [DU, DR, DP, DW, DS, DQ, Bw, Bv, Bu, BW, Bl, Bf, Bh, Bd, Ba, c68, -getElem?_pos, q, hx', hvl, hil', A5]) | (simp (disch := omega) only [AA]) | ((with_reducible refine Aa 19 ?_); refine' Am (hin) ?_) | (with_reducible first | refine A6 ?_ ?_ ?_ | exact AC | refine SameB.upd ?_ ?_ _ | assumption | refine A0 ?_ | refine KM.of ?_ | refine AB ?_ | refine A1 ?_ | refine A4 ?_ | intro _g _hg | refine AD ?_ ?_ | intro _hc) | omega)
     ·have hv : (decide (0 ≤ x) && decide (x ≤ 9999)) = false := by simpa [h1, h2] using hv
      have hin := Ia x 0 9999
      rw [hv] at hin
      have h1' : ¬ (i : Int) = 1 := by omega
      have h2' : ¬ (i : Int) = 2 := by omega
      
      repeat' (first | (simp -implicitDefEqProofs [DU, DR, DP, DW, DS, DQ, Bw, Bv, Bu, BW, Bl, Bf, Bh, Bd, Ba, c68, -getElem?_pos, q, hx', hvl, hil', h1', h2', A5]) | (simp (disch := omega) only [AA]) | ((with_reducible refine Aa 19 ?_); refine' Am (hin) ?_) | (with_reducible first | refine A6 ?_ ?_ ?_ | exact AC | refine SameB.upd ?_ ?_ _ | assumption | refine A0 ?_ | refine KM.of ?_ | refine AB ?_ | refine A1 ?_ | refine A4 ?_ | intro _g _hg | refine AD ?_ ?_ | intro _hc) | omega)
   ·have hv : (decide (0 ≤ x) && decide (x ≤ 9999)) = false := by simpa [hk] using hv
    have hin := Ia x 0 9999
    rw [hv] at hin
    
    repeat' (first | (simp -implicitDefEqProofs [DU, DR, DP, DW, DS, DQ, Bw, Bv, Bu, BW, Bl, Bf, Bh, Bd, Ba, c68, -getElem?_pos, q, hx', hvl, hil', hk, A5]) | (simp (disch := omega) only [AA]) | ((with_reducible refine Aa 19 ?_); refine' Am (hin) ?_) | (with_reducible first | refine A6 ?_ ?_ ?_ | exact AC | refine SameB.upd ?_ ?_ _ | assumption | refine A0 ?_ | refine KM.of ?_ | refine AB ?_ | refine A1 ?_ | refine A4 ?_ | intro _g _hg | refine AD ?_ ?_ | intro _hc) | omega)
 ·have hil' : ¬ (i : Int) < v.length := by omega
  rw [Rw (by omega)] at hE
  rw [hE]
  
  repeat' (first | (simp -implicitDefEqProofs [DU, DR, DP, DW, DS, DQ, Bw, Bv, Bu, BW, Bl, Bf, Bh, Bd, Ba, c68, -getElem?_pos, q, hil', A5]) | (simp (disch := omega) only [AA]) | (with_reducible first | refine A6 ?_ ?_ ?_ | exact AC | refine SameB.upd ?_ ?_ _ | assumption | refine A0 ?_ | refine KM.of ?_ | refine AB ?_ | refine A1 ?_ | refine A4 ?_ | intro _g _hg | refine AD ?_ ?_ | intro _hc) | omega)
theorem BR {a b : Int} (h : b = a) : AM (aI a) (aI b) := by subst h; exact A5 _
set_option maxRecDepth 8000 in
theorem WU (k o m : Int) (v : List Int) (p : List St) (hvb : v.length ≤ 140737488355328) (hk : k = 1 ∨ k = 3 ∨ k = 4 ∨ k = 5) : APure Tryz.prog 68 [encS (.mk k o m v p)] (aI (Bs (.mk k o m v p))) := by
 rw [AF]
 have hpl := Ai p
 obtain ⟨z, hz⟩ : ∃ z, Bs (.mk k o m v p) = z := ⟨_, rfl⟩
 obtain ⟨vb, hvv⟩ : ∃ b, BU k 0 v = b := ⟨_, rfl⟩
 have hgo := Eu k o m v p
 rw [hz]
 rcases hk with rfl | rfl | rfl | rfl
 all_goals
  simp [Bs, Da, G9, Jf, NW, D6, Hw, GI, J6, J7] at hz
  refine A7 Tryz.func68 RK rfl fun n H hH => ?_
  have hgo := fun g n1 H1 => hgo g n n1 H H1
  rw [hvv] at hgo
  repeat' (first | (simp -implicitDefEqProofs [c68, Ba, Bd, Bh, Bf, Bl, BW, Bu, Bv, Bw, -getElem?_pos, hpl, Da, NW, D6, Hw]) | (simp (disch := omega) only [AA]) | ((with_reducible refine Aa 19 ?_); refine' Am (Ia _ _ _) ?_) | ((with_reducible refine Aa 44 ?_); refine' Am (QE _) ?_) | ((with_reducible refine Aa 53 ?_); refine' Am (Ii _) ?_) | ((with_reducible refine Aa 55 ?_); refine' Am (Ht _) ?_) | ((with_reducible refine Aa 58 ?_); refine' Am (Hh _) ?_) | (with_reducible first | refine A6 ?_ ?_ ?_ | exact AC | refine SameB.upd ?_ ?_ _ | assumption | refine A0 ?_ | refine KM.of ?_ | refine AB ?_ | refine A1 ?_ | refine A4 ?_ | intro _g _hg | refine AD ?_ ?_ | intro _hc) | omega)
  all_goals (try (refine BR ?_; rw [← hz]; clear hz hvv hgo; (repeat' split) <;> first | rfl | (exfalso; simp_all; done) | (exfalso; simp_all; omega) | (exfalso; grind); done))
  all_goals (try (have hzz : z = (if vb = true then 0 else 4) := (by rw [← hz, ← hvv]; clear hz hvv hgo; simp_all; try omega); (rw [hzz]; exact hgo _ _ _ (AX _ _ _) (by omega) (fun k hk => upd_ne (by omega)) hvb)))
set_option maxRecDepth 8000 in
theorem X2 (k o m : Int) (v : List Int) (p : List St) (hvb : v.length ≤ 140737488355328) (hk : k = 2 ∨ k = 6 ∨ k = 7 ∨ k = 8) : APure Tryz.prog 68 [encS (.mk k o m v p)] (aI (Bs (.mk k o m v p))) := by
 rw [AF]
 have hpl := Ai p
 obtain ⟨z, hz⟩ : ∃ z, Bs (.mk k o m v p) = z := ⟨_, rfl⟩
 obtain ⟨vb, hvv⟩ : ∃ b, BU k 0 v = b := ⟨_, rfl⟩
 have hgo := Eu k o m v p
 rw [hz]
 rcases hk with rfl | rfl | rfl | rfl
 all_goals
  simp [Bs, Da, G9, Jf, NW, D6, Hw, GI, J6, J7] at hz
  refine A7 Tryz.func68 RK rfl fun n H hH => ?_
  have hgo := fun g n1 H1 => hgo g n n1 H H1
  rw [hvv] at hgo
  repeat' (first | (simp -implicitDefEqProofs [c68, Ba, Bd, Bh, Bf, Bl, BW, Bu, Bv, Bw, -getElem?_pos, hpl, Da, NW, D6, Hw]) | (simp (disch := omega) only [AA]) | ((with_reducible refine Aa 19 ?_); refine' Am (Ia _ _ _) ?_) | ((with_reducible refine Aa 44 ?_); refine' Am (QE _) ?_) | ((with_reducible refine Aa 53 ?_); refine' Am (Ii _) ?_) | ((with_reducible refine Aa 55 ?_); refine' Am (Ht _) ?_) | ((with_reducible refine Aa 58 ?_); refine' Am (Hh _) ?_) | (with_reducible first | refine A6 ?_ ?_ ?_ | exact AC | refine SameB.upd ?_ ?_ _ | assumption | refine A0 ?_ | refine KM.of ?_ | refine AB ?_ | refine A1 ?_ | refine A4 ?_ | intro _g _hg | refine AD ?_ ?_ | intro _hc) | omega)
  all_goals (try (refine BR ?_; rw [← hz]; clear hz hvv hgo; (repeat' split) <;> first | rfl | (exfalso; simp_all; done) | (exfalso; simp_all; omega) | (exfalso; grind); done))
  all_goals (try (have hzz : z = (if vb = true then 0 else 4) := (by rw [← hz, ← hvv]; clear hz hvv hgo; simp_all; try omega); (rw [hzz]; exact hgo _ _ _ (AX _ _ _) (by omega) (fun k hk => upd_ne (by omega)) hvb)))
set_option maxRecDepth 8000 in
theorem XS (k o m : Int) (v : List Int) (p : List St) (hvb : v.length ≤ 140737488355328) (hk : k = 9 ∨ k = 10 ∨ k = 11 ∨ k = 12) : APure Tryz.prog 68 [encS (.mk k o m v p)] (aI (Bs (.mk k o m v p))) := by
 rw [AF]
 have hpl := Ai p
 obtain ⟨z, hz⟩ : ∃ z, Bs (.mk k o m v p) = z := ⟨_, rfl⟩
 obtain ⟨vb, hvv⟩ : ∃ b, BU k 0 v = b := ⟨_, rfl⟩
 have hgo := Eu k o m v p
 rw [hz]
 rcases hk with rfl | rfl | rfl | rfl
 all_goals
  simp [Bs, Da, G9, Jf, NW, D6, Hw, GI, J6, J7] at hz
  refine A7 Tryz.func68 RK rfl fun n H hH => ?_
  have hgo := fun g n1 H1 => hgo g n n1 H H1
  rw [hvv] at hgo
  repeat' (first | (simp -implicitDefEqProofs [c68, Ba, Bd, Bh, Bf, Bl, BW, Bu, Bv, Bw, -getElem?_pos, hpl, Da, NW, D6, Hw]) | (simp (disch := omega) only [AA]) | ((with_reducible refine Aa 19 ?_); refine' Am (Ia _ _ _) ?_) | ((with_reducible refine Aa 44 ?_); refine' Am (QE _) ?_) | ((with_reducible refine Aa 53 ?_); refine' Am (Ii _) ?_) | ((with_reducible refine Aa 55 ?_); refine' Am (Ht _) ?_) | ((with_reducible refine Aa 58 ?_); refine' Am (Hh _) ?_) | (with_reducible first | refine A6 ?_ ?_ ?_ | exact AC | refine SameB.upd ?_ ?_ _ | assumption | refine A0 ?_ | refine KM.of ?_ | refine AB ?_ | refine A1 ?_ | refine A4 ?_ | intro _g _hg | refine AD ?_ ?_ | intro _hc) | omega)
  all_goals (try (refine BR ?_; rw [← hz]; clear hz hvv hgo; (repeat' split) <;> first | rfl | (exfalso; simp_all; done) | (exfalso; simp_all; omega) | (exfalso; grind); done))
  all_goals (try (have hzz : z = (if vb = true then 0 else 4) := (by rw [← hz, ← hvv]; clear hz hvv hgo; simp_all; try omega); (rw [hzz]; exact hgo _ _ _ (AX _ _ _) (by omega) (fun k hk => upd_ne (by omega)) hvb)))
set_option maxRecDepth 8000 in
theorem Xl (k o m : Int) (v : List Int) (p : List St) (hvb : v.length ≤ 140737488355328) (hk : k = 13 ∨ k = 14 ∨ k = 15 ∨ k = 16) : APure Tryz.prog 68 [encS (.mk k o m v p)] (aI (Bs (.mk k o m v p))) := by
 rw [AF]
 have hpl := Ai p
 obtain ⟨z, hz⟩ : ∃ z, Bs (.mk k o m v p) = z := ⟨_, rfl⟩
 obtain ⟨vb, hvv⟩ : ∃ b, BU k 0 v = b := ⟨_, rfl⟩
 have hgo := Eu k o m v p
 rw [hz]
 rcases hk with rfl | rfl | rfl | rfl
 all_goals
  simp [Bs, Da, G9, Jf, NW, D6, Hw, GI, J6, J7] at hz
  refine A7 Tryz.func68 RK rfl fun n H hH => ?_
  have hgo := fun g n1 H1 => hgo g n n1 H H1
  rw [hvv] at hgo
  repeat' (first | (simp -implicitDefEqProofs [c68, Ba, Bd, Bh, Bf, Bl, BW, Bu, Bv, Bw, -getElem?_pos, hpl, Da, NW, D6, Hw]) | (simp (disch := omega) only [AA]) | ((with_reducible refine Aa 19 ?_); refine' Am (Ia _ _ _) ?_) | ((with_reducible refine Aa 44 ?_); refine' Am (QE _) ?_) | ((with_reducible refine Aa 53 ?_); refine' Am (Ii _) ?_) | ((with_reducible refine Aa 55 ?_); refine' Am (Ht _) ?_) | ((with_reducible refine Aa 58 ?_); refine' Am (Hh _) ?_) | (with_reducible first | refine A6 ?_ ?_ ?_ | exact AC | refine SameB.upd ?_ ?_ _ | assumption | refine A0 ?_ | refine KM.of ?_ | refine AB ?_ | refine A1 ?_ | refine A4 ?_ | intro _g _hg | refine AD ?_ ?_ | intro _hc) | omega)
  all_goals (try (refine BR ?_; rw [← hz]; clear hz hvv hgo; (repeat' split) <;> first | rfl | (exfalso; simp_all; done) | (exfalso; simp_all; omega) | (exfalso; grind); done))
  all_goals (try (have hzz : z = (if vb = true then 0 else 4) := (by rw [← hz, ← hvv]; clear hz hvv hgo; simp_all; try omega); (rw [hzz]; exact hgo _ _ _ (AX _ _ _) (by omega) (fun k hk => upd_ne (by omega)) hvb)))
theorem NI (k o m : Int) (v : List Int) (p : List St) (hvb : v.length ≤ 140737488355328) : APure Tryz.prog 68 [encS (.mk k o m v p)] (aI (Bs (.mk k o m v p))) := by
 by_cases hk : 1 ≤ k ∧ k ≤ 16
 ·rcases (by omega : (k = 1 ∨ k = 3 ∨ k = 4 ∨ k = 5) ∨ (k = 2 ∨ k = 6 ∨ k = 7 ∨ k = 8) ∨ (k = 9 ∨ k = 10 ∨ k = 11 ∨ k = 12) ∨ (k = 13 ∨ k = 14 ∨ k = 15 ∨ k = 16)) with h | h | h | h
  ·exact WU k o m v p hvb h
  ·exact X2 k o m v p hvb h
  ·exact XS k o m v p hvb h
  ·exact Xl k o m v p hvb h
 ·have hin := Ia k 1 16
  have : (decide (1 ≤ k) && decide (k ≤ 16)) = false := by simp; omega
  rw [this] at hin
  have hnc : Bs (.mk k o m v p) = 5 := by simp only [Bs]; rw [if_pos hk]
  rw [hnc, AF]
  
  refine A7 Tryz.func68 RK rfl fun n H hH => ?_
  repeat' (first | (simp -implicitDefEqProofs [c68, -getElem?_pos, A5]) | (simp (disch := omega) only [AA]) | ((with_reducible refine Aa 19 ?_); refine' Am (hin) ?_) | (with_reducible first | refine A6 ?_ ?_ ?_ | exact AC | refine SameB.upd ?_ ?_ _ | assumption | refine A0 ?_ | refine KM.of ?_ | refine AB ?_ | refine A1 ?_ | refine A4 ?_ | intro _g _hg | refine AD ?_ ?_ | intro _hc) | omega)
structure Shq where
 w : Str
 parts : Int
 fn : Bool
 cd : Bool
 n0 : Int
 n1 : Int
 vs : Bool
abbrev shA (x : Shq) : AV := .agg [.str x.w, aI x.parts, .bool x.fn, .bool x.cd, aI x.n0, aI x.n1, .bool x.vs]
def Yt : List Shq := [
 ⟨[118, 97, 108, 117, 101, 115], 0, false, false, 0, 0, true⟩,
 ⟨[114, 97, 110, 103, 101], 0, false, false, 0, 0, true⟩,
 ⟨[109, 97, 112], 1, true, false, 0, 0, false⟩,
 ⟨[102, 105, 108, 116, 101, 114], 1, false, true, 0, 0, false⟩,
 ⟨[116, 97, 107, 101], 1, false, false, 0, 5000, false⟩,
 ⟨[100, 114, 111, 112], 1, false, false, 0, 5000, false⟩,
 ⟨[119, 104, 105, 108, 101], 1, false, true, 0, 0, false⟩,
 ⟨[115, 107, 105, 112], 1, false, true, 0, 0, false⟩,
 ⟨[115, 99, 97, 110], 1, true, false, 0, 0, false⟩,
 ⟨[119, 105, 110, 100, 111, 119], 1, true, false, 1, 8, false⟩,
 ⟨[114, 117, 110, 115], 1, false, false, 0, 0, false⟩,
 ⟨[114, 101, 112, 101, 97, 116], 1, false, false, 0, 20, false⟩,
 ⟨[99, 104, 97, 105, 110], -1, false, false, 0, 0, false⟩,
 ⟨[116, 117, 114, 110, 115], -1, false, false, 0, 0, false⟩,
 ⟨[122, 105, 112], 2, true, false, 0, 0, false⟩,
 ⟨[109, 101, 114, 103, 101], 2, false, false, 0, 0, false⟩]
def EZ : List (AV × AV) := [
 (aI 1, .agg [.str [118, 97, 108, 117, 101, 115], aI 0, .bool false, .bool false, aI 0, aI 0, .bool true]),
 (aI 2, .agg [.str [114, 97, 110, 103, 101], aI 0, .bool false, .bool false, aI 0, aI 0, .bool true]),
 (aI 3, .agg [.str [109, 97, 112], aI 1, .bool true, .bool false, aI 0, aI 0, .bool false]),
 (aI 4, .agg [.str [102, 105, 108, 116, 101, 114], aI 1, .bool false, .bool true, aI 0, aI 0, .bool false]),
 (aI 5, .agg [.str [116, 97, 107, 101], aI 1, .bool false, .bool false, aI 0, aI 5000, .bool false]),
 (aI 6, .agg [.str [100, 114, 111, 112], aI 1, .bool false, .bool false, aI 0, aI 5000, .bool false]),
 (aI 7, .agg [.str [119, 104, 105, 108, 101], aI 1, .bool false, .bool true, aI 0, aI 0, .bool false]),
 (aI 8, .agg [.str [115, 107, 105, 112], aI 1, .bool false, .bool true, aI 0, aI 0, .bool false]),
 (aI 9, .agg [.str [115, 99, 97, 110], aI 1, .bool true, .bool false, aI 0, aI 0, .bool false]),
 (aI 10, .agg [.str [119, 105, 110, 100, 111, 119], aI 1, .bool true, .bool false, aI 1, aI 8, .bool false]),
 (aI 11, .agg [.str [114, 117, 110, 115], aI 1, .bool false, .bool false, aI 0, aI 0, .bool false]),
 (aI 12, .agg [.str [114, 101, 112, 101, 97, 116], aI 1, .bool false, .bool false, aI 0, aI 20, .bool false]),
 (aI 13, .agg [.str [99, 104, 97, 105, 110], aI (-1), .bool false, .bool false, aI 0, aI 0, .bool false]),
 (aI 14, .agg [.str [116, 117, 114, 110, 115], aI (-1), .bool false, .bool false, aI 0, aI 0, .bool false]),
 (aI 15, .agg [.str [122, 105, 112], aI 2, .bool true, .bool false, aI 0, aI 0, .bool false]),
 (aI 16, .agg [.str [109, 101, 114, 103, 101], aI 2, .bool false, .bool false, aI 0, aI 0, .bool false])]
theorem LL (k o m : Int) (v : List Int) (p : List St) (x : Shq) : APure Tryz.prog 93 [encS (.mk k o m v p), shA x] (.bool (if x.cd = true then decide (1 ≤ o) && decide (o ≤ 3) else if x.fn = true ∧ k = 3 then decide (1 ≤ o) && decide (o ≤ 6) else if x.fn = true then decide (1 ≤ o) && decide (o ≤ 5) else true)) := by
 rw [AF]
 obtain ⟨w, parts, fn, cd, n0, n1, vs⟩ := x
 refine A7 Tryz.func93 A1s rfl fun n H hH => ?_
 repeat' (first | (simp -implicitDefEqProofs [WH, VV, VT, c93, -getElem?_pos, splice, AM]) | (simp (disch := omega) only [AA]) | (with_reducible first | refine A6 ?_ ?_ ?_ | exact AC | refine SameB.upd ?_ ?_ _ | assumption | refine A0 ?_ | refine KM.of ?_ | refine AB ?_ | refine A1 ?_ | refine A4 ?_ | intro _g _hg | refine AD ?_ ?_ | intro _hc) | omega)
 all_goals grind
theorem M1 (k o m : Int) (v : List Int) (p : List St) (x : Shq) : APure Tryz.prog 94 [encS (.mk k o m v p), shA x] (.bool (if 0 < x.n1 then decide (x.n0 ≤ m) && decide (m ≤ x.n1) else decide ((if (x.cd = true ∧ o = 3) ∨ (x.fn = true ∧ o = 6) then 1 else 0) ≤ m) && decide (m ≤ 9999))) := by
 rw [AF]
 obtain ⟨w, parts, fn, cd, n0, n1, vs⟩ := x
 refine A7 Tryz.func94 A2i rfl fun n H hH => ?_
 repeat' (first | (simp -implicitDefEqProofs [Ux, VQ, c94, -getElem?_pos, splice, AM]) | (simp (disch := omega) only [AA]) | (with_reducible first | refine A6 ?_ ?_ ?_ | exact AC | refine SameB.upd ?_ ?_ _ | assumption | refine A0 ?_ | refine KM.of ?_ | refine AB ?_ | refine A1 ?_ | refine A4 ?_ | intro _g _hg | refine AD ?_ ?_ | intro _hc) | omega)
 all_goals grind
theorem Rz (k o m : Int) (v : List Int) (p : List St) (hvb : v.length ≤ 140737488355328) (h3 : k = 2 → v.length = 3) : APure Tryz.prog 95 [encS (.mk k o m v p)] (.bool (BU k 0 v)) := by
 rw [AF]
 refine A7 Tryz.func95 A1y rfl fun n H hH => ?_
 repeat' (first | (simp -implicitDefEqProofs [c95, -getElem?_pos, AM]) | (simp (disch := omega) only [AA]) | (with_reducible first | refine A6 ?_ ?_ ?_ | exact AC | refine SameB.upd ?_ ?_ _ | assumption | refine A0 ?_ | refine KM.of ?_ | refine AB ?_ | refine A1 ?_ | refine A4 ?_ | intro _g _hg | refine AD ?_ ?_ | intro _hc) | omega)
 refine LoopK.go (fun r s => ∃ i : Nat, i + r = v.length ∧ s = ⟨[(1, .ptr _g 0), (8, .sl 1 (v.map aI) .ro), (9, aI v.length), (10, aI i)], _g + 1, upd H _g (some (.cells 25 [aI k, aI o, aI m, .sl 1 (v.map aI) .ro, .sl 5 (AR p) .ro]))⟩ ∧ BU k 0 v = BU k i (v.drop i)) v.length ⟨0, by omega, by simp, rfl⟩ ?_
 rintro r s ⟨i, hi, rfl, hE⟩ J hJ
 by_cases hil : i < v.length
 ·obtain ⟨x, hx⟩ : ∃ x, v[i]? = some x := ⟨_, List.getElem?_eq_getElem hil⟩
  have hx' := IF (f := aI) hx
  have hil' : (i : Int) < v.length := by omega
  have hvl : (v.map aI).length = v.length := by simp
  rw [UI hx] at hE
  generalize v.map aI = va at *
  by_cases hk : k = 2
  ·have h3 := h3 hk
   subst hk
   rcases (by omega : i = 0 ∨ i = 1 ∨ i = 2) with rfl | rfl | rfl
   all_goals (repeat' (first | (simp -implicitDefEqProofs [Jq, K0, KQ, JT, Je, KO, c95, -getElem?_pos, hx', hvl, hil', AM]) | (simp (disch := omega) only [AA]) | (with_reducible first | refine A6 ?_ ?_ ?_ | exact AC | refine SameB.upd ?_ ?_ _ | assumption | refine A0 ?_ | refine KM.of ?_ | refine AB ?_ | refine A1 ?_ | refine A4 ?_ | intro _g _hg | refine AD ?_ ?_ | intro _hc) | omega))
   all_goals (first | (exact hJ (r - 1) _ (by omega) ⟨1, by omega, rfl, by rw [hE]; simp only [FU]; grind⟩) | (exact hJ (r - 1) _ (by omega) ⟨2, by omega, rfl, by rw [hE]; simp only [FU]; grind⟩) | (exact hJ (r - 1) _ (by omega) ⟨3, by omega, rfl, by rw [hE]; simp only [FU]; grind⟩) | (rw [hE]; simp only [FU]; grind) | skip)
  ·repeat' (first | (simp -implicitDefEqProofs [Jq, K0, KQ, JT, Je, KO, c95, -getElem?_pos, hx', hvl, hil', hk, AM]) | (simp (disch := omega) only [AA]) | (with_reducible first | refine A6 ?_ ?_ ?_ | exact AC | refine SameB.upd ?_ ?_ _ | assumption | refine A0 ?_ | refine KM.of ?_ | refine AB ?_ | refine A1 ?_ | refine A4 ?_ | intro _g _hg | refine AD ?_ ?_ | intro _hc) | omega)
   all_goals (first | (exact hJ (r - 1) _ (by omega) ⟨i + 1, by omega, rfl, by rw [hE]; simp only [FU]; grind⟩) | (rw [hE]; simp only [FU]; grind) | skip)
 ·have hil' : ¬ (i : Int) < v.length := by omega
  rw [Rw (by omega)] at hE
  rw [hE]
  repeat' (first | (simp -implicitDefEqProofs [Jq, K0, KQ, JT, Je, KO, c95, -getElem?_pos, hil', AM]) | (simp (disch := omega) only [AA]) | (with_reducible first | refine A6 ?_ ?_ ?_ | exact AC | refine SameB.upd ?_ ?_ _ | assumption | refine A0 ?_ | refine KM.of ?_ | refine AB ?_ | refine A1 ?_ | refine A4 ?_ | intro _g _hg | refine AD ?_ ?_ | intro _hc) | omega)
set_option maxRecDepth 8000 in
theorem SB (n : Nat) (H : A3) : ACalls Tryz.prog 39 [] n H fun r n' H' => ∃ g, r = .mp g ∧ n ≤ g ∧ n' = g + 1 ∧ H' = upd H g (some (.map (some .i64) EZ)) := by
 refine A8 Tryz.func39 A2j rfl fun hs => ?_
 repeat' (first | (simp -implicitDefEqProofs [c39, -getElem?_pos]) | (simp (disch := omega) only [AA]) | (with_reducible first | refine A6 ?_ ?_ ?_ | exact AC | assumption | refine A0 ?_ | refine KM.of ?_ | refine AB ?_ | refine Yb ?_ | intro _g _hg | refine AD ?_ ?_ | intro _hc) | omega)
 simp only [J4]
 exact AI (r := .mp _) rfl (by omega) (fun k hk => by rw [upd_ne (by omega)]; exact hs k (by omega)) ⟨_, rfl, by omega, rfl, rfl⟩
set_option maxRecDepth 8000 in
theorem Yh (k o m : Int) (v : List Int) (p : List St) (hvb : v.length ≤ 140737488355328) (hk : k = 1 ∨ k = 2 ∨ k = 3 ∨ k = 4 ∨ k = 5 ∨ k = 6 ∨ k = 7 ∨ k = 8) (g gs n : Nat) (at_ : Int) (H : A3) (hg : H g = some (.cells 70 [.mp gs, aI at_])) (hgs : H gs = some (.map (some .i64) EZ)) : APureAt Tryz.prog 69 [.ptr g 0, encS (.mk k o m v p)] n H (aI (Bs (.mk k o m v p))) := by
 obtain ⟨z, hz⟩ : ∃ z, Bs (.mk k o m v p) = z := ⟨_, rfl⟩
 rw [hz]
 obtain ⟨x, hx, hfd⟩ : ∃ x, Yt[(k - 1).toNat]? = some x ∧ Bo (.int .i64 k) EZ = some (shA x) := by
  rcases hk with rfl | rfl | rfl | rfl | rfl | rfl | rfl | rfl <;> exact ⟨_, rfl, rfl⟩
 have ho := LL k o m v p x
 have hn := M1 k o m v p x
 have hpl := Ai p
 have hva : v.length = 3 ∨ k ≠ 2 → APure Tryz.prog 95 [encS (.mk k o m v p)] (.bool (BU k 0 v)) := fun h => Rz k o m v p hvb (fun e => by omega)
 rw [AF] at ho hn hva ⊢
 rcases hk with rfl | rfl | rfl | rfl | rfl | rfl | rfl | rfl
 all_goals
  simp [Bs, Da, G9, Jf, NW, D6, Hw, GI, J6, J7] at hz
  refine DH Tryz.func69 WY rfl fun hH => ?_
  have hgn : g < n := by
   rcases Nat.lt_or_ge g n with h | h
   ·exact h
   ·rw [hH g h] at hg; cases hg
  have hsn : gs < n := by
   rcases Nat.lt_or_ge gs n with h | h
   ·exact h
   ·rw [hH gs h] at hgs; cases hgs
  generalize EZ = sm at *
  simp [Yt] at hx
  subst hx
  simp only [shA] at ho hn hfd
  
  repeat' (first | (simp -implicitDefEqProofs [Jg, JY, KP, Jr, c69, -getElem?_pos, hg, hgs, hfd, hpl, splice]) | (simp (disch := omega) only [AA]) | ((with_reducible refine Aa 93 ?_); refine' Am (ho) ?_) | ((with_reducible refine Aa 94 ?_); refine' Am (hn) ?_) | ((with_reducible refine Aa 95 ?_); refine' Am ((hva (by omega))) ?_) | (with_reducible first | refine A6 ?_ ?_ ?_ | exact AC | refine SameB.upd ?_ ?_ _ | assumption | refine A0 ?_ | refine KM.of ?_ | refine AB ?_ | refine A1 ?_ | refine A4 ?_ | intro _g _hg | refine AD ?_ ?_ | intro _hc) | omega)
  all_goals (refine BR ?_; first | grind | (rw [← hz]; clear hz; (repeat' split) <;> first | rfl | (exfalso; simp_all; done) | (exfalso; simp_all; omega) | (exfalso; grind)))
set_option maxRecDepth 8000 in
theorem ZX (k o m : Int) (v : List Int) (p : List St) (hvb : v.length ≤ 140737488355328) (hk : k = 9 ∨ k = 10 ∨ k = 11 ∨ k = 12 ∨ k = 13 ∨ k = 14 ∨ k = 15 ∨ k = 16) (g gs n : Nat) (at_ : Int) (H : A3) (hg : H g = some (.cells 70 [.mp gs, aI at_])) (hgs : H gs = some (.map (some .i64) EZ)) : APureAt Tryz.prog 69 [.ptr g 0, encS (.mk k o m v p)] n H (aI (Bs (.mk k o m v p))) := by
 obtain ⟨z, hz⟩ : ∃ z, Bs (.mk k o m v p) = z := ⟨_, rfl⟩
 rw [hz]
 obtain ⟨x, hx, hfd⟩ : ∃ x, Yt[(k - 1).toNat]? = some x ∧ Bo (.int .i64 k) EZ = some (shA x) := by
  rcases hk with rfl | rfl | rfl | rfl | rfl | rfl | rfl | rfl <;> exact ⟨_, rfl, rfl⟩
 have ho := LL k o m v p x
 have hn := M1 k o m v p x
 have hpl := Ai p
 have hva : v.length = 3 ∨ k ≠ 2 → APure Tryz.prog 95 [encS (.mk k o m v p)] (.bool (BU k 0 v)) := fun h => Rz k o m v p hvb (fun e => by omega)
 rw [AF] at ho hn hva ⊢
 rcases hk with rfl | rfl | rfl | rfl | rfl | rfl | rfl | rfl
 all_goals
  simp [Bs, Da, G9, Jf, NW, D6, Hw, GI, J6, J7] at hz
  refine DH Tryz.func69 WY rfl fun hH => ?_
  have hgn : g < n := by
   rcases Nat.lt_or_ge g n with h | h
   ·exact h
   ·rw [hH g h] at hg; cases hg
  have hsn : gs < n := by
   rcases Nat.lt_or_ge gs n with h | h
   ·exact h
   ·rw [hH gs h] at hgs; cases hgs
  generalize EZ = sm at *
  simp [Yt] at hx
  subst hx
  simp only [shA] at ho hn hfd
  
  repeat' (first | (simp -implicitDefEqProofs [Jg, JY, KP, Jr, c69, -getElem?_pos, hg, hgs, hfd, hpl, splice]) | (simp (disch := omega) only [AA]) | ((with_reducible refine Aa 93 ?_); refine' Am (ho) ?_) | ((with_reducible refine Aa 94 ?_); refine' Am (hn) ?_) | ((with_reducible refine Aa 95 ?_); refine' Am ((hva (by omega))) ?_) | (with_reducible first | refine A6 ?_ ?_ ?_ | exact AC | refine SameB.upd ?_ ?_ _ | assumption | refine A0 ?_ | refine KM.of ?_ | refine AB ?_ | refine A1 ?_ | refine A4 ?_ | intro _g _hg | refine AD ?_ ?_ | intro _hc) | omega)
  all_goals (refine BR ?_; first | grind | (rw [← hz]; clear hz; (repeat' split) <;> first | rfl | (exfalso; simp_all; done) | (exfalso; simp_all; omega) | (exfalso; grind)))
theorem XD {k : Int} (h : ¬ (1 ≤ k ∧ k ≤ 16)) : Bo (.int .i64 k) EZ = none := by
 have hne : ∀ j : Int, 1 ≤ j → j ≤ 16 → EA (.int .i64 k) (.int .i64 j) = false := fun j h1 h2 => by
  simp only [EA, decide_true, Bool.true_and, decide_eq_false_iff_not]; omega
 simp only [EZ, Bo, hne _ (by omega : (1 : Int) ≤ 1) (by omega), hne 2 (by omega) (by omega), hne 3 (by omega) (by omega), hne 4 (by omega) (by omega), hne 5 (by omega) (by omega), hne 6 (by omega) (by omega), hne 7 (by omega) (by omega), hne 8 (by omega) (by omega), hne 9 (by omega) (by omega), hne 10 (by omega) (by omega), hne 11 (by omega) (by omega), hne 12 (by omega) (by omega), hne 13 (by omega) (by omega), hne 14 (by omega) (by omega), hne 15 (by omega) (by omega), hne 16 (by omega) (by omega), Bool.false_eq_true, if_false]
theorem A0d (k o m : Int) (v : List Int) (p : List St) (hvb : v.length ≤ 140737488355328) (g gs n : Nat) (at_ : Int) (H : A3) (hg : H g = some (.cells 70 [.mp gs, aI at_])) (hgs : H gs = some (.map (some .i64) EZ)) : APureAt Tryz.prog 69 [.ptr g 0, encS (.mk k o m v p)] n H (aI (Bs (.mk k o m v p))) := by
 by_cases hk : 1 ≤ k ∧ k ≤ 16
 ·rcases (by omega : (k = 1 ∨ k = 2 ∨ k = 3 ∨ k = 4 ∨ k = 5 ∨ k = 6 ∨ k = 7 ∨ k = 8) ∨ (k = 9 ∨ k = 10 ∨ k = 11 ∨ k = 12 ∨ k = 13 ∨ k = 14 ∨ k = 15 ∨ k = 16)) with h | h
  ·exact Yh k o m v p hvb h g gs n at_ H hg hgs
  ·exact ZX k o m v p hvb h g gs n at_ H hg hgs
 ·have hnc : Bs (.mk k o m v p) = 5 := by simp only [Bs]; rw [if_pos hk]
  have hfd := XD hk
  rw [hnc, AF]
  
  refine DH Tryz.func69 WY rfl fun hH => ?_
  have hgn : g < n := by
   rcases Nat.lt_or_ge g n with h | h
   ·exact h
   ·rw [hH g h] at hg; cases hg
  have hsn : gs < n := by
   rcases Nat.lt_or_ge gs n with h | h
   ·exact h
   ·rw [hH gs h] at hgs; cases hgs
  generalize EZ = sm at *
  repeat' (first | (simp -implicitDefEqProofs [Jg, JY, KP, Jr, c69, -getElem?_pos, hg, hgs, hfd, splice, A5]) | (simp (disch := omega) only [AA]) | (with_reducible first | refine A6 ?_ ?_ ?_ | exact AC | refine SameB.upd ?_ ?_ _ | assumption | refine A0 ?_ | refine KM.of ?_ | refine AB ?_ | refine A1 ?_ | refine A4 ?_ | intro _g _hg | refine AD ?_ ?_ | intro _hc) | omega)
mutual
def Cy : St → Prop
 | .mk _ _ _ v p => v.length ≤ 140737488355328 ∧ p.length ≤ 140737488355328 ∧ Lv p
def Lv : List St → Prop
 | [] => True
 | s :: r => Cy s ∧ Lv r
end
theorem Cq : ∀ {p : List St}, Lv p → ∀ s ∈ p, Cy s
 | [], _, s, h => by cases h
 | x :: r, h, s, hs => by
  rcases List.mem_cons.1 hs with e | hs
  ·rw [e]; exact h.1
  ·exact Cq h.2 s hs
theorem Ax (s : St) : (encS s).fits (some 5) = true := by cases s; rw [AF]; rfl
theorem DX {p : List St} {i : Nat} {s : St} (h : p[i]? = some s) : (AR p)[i]? = some (encS s) := by rw [FB, List.getElem?_map, h]; rfl
theorem UZ {p : List St} {i j : Nat} {s : St} (h : p[j]? = some s) : HG (p.drop j) i = if (Dd s i).2 ≠ 0 then Dd s i else HG (p.drop (j + 1)) (Dd s i).1 := by
 rw [drop_at h, HG]
theorem XM (s : St) : Cy s → ∀ i : Nat, i ≤ 60 → APure Tryz.prog 37 [encS s, aI i] (.tup [aI ((Dd s i).1 : Nat), aI (Dd s i).2]) := by
 refine St.ind (Q := fun s => Cy s → ∀ i : Nat, i ≤ 60 → APure Tryz.prog 37 [encS s, aI i] (.tup [aI ((Dd s i).1 : Nat), aI (Dd s i).2])) ?_ s
 intro k o m v p ih hfit i hi
 obtain ⟨hv, hp, hpp⟩ := hfit
 have hsf := NI k o m v p hv
 rw [Dd]
 rw [AF] at hsf ⊢
 
 refine A7 Tryz.func37 A20 rfl fun n H hH => ?_
 by_cases h60 : 60 ≤ i
 ·rw [if_pos h60]
  have h60' : (60 : Int) ≤ i := by omega
  repeat' (first | (simp -implicitDefEqProofs [c37, -getElem?_pos, h60', AM, AQ]) | (simp (disch := omega) only [AA]) | (with_reducible first | refine A6 ?_ ?_ ?_ | exact AC | refine SameB.upd ?_ ?_ _ | assumption | refine A0 ?_ | refine KM.of ?_ | refine AB ?_ | refine A1 ?_ | refine A4 ?_ | intro _g _hg | refine AD ?_ ?_ | intro _hc) | omega)
 ·rw [if_neg h60]
  have h60' : ¬ (60 : Int) ≤ i := by omega
  generalize hc : Bs (.mk k o m v p) = c at *
  by_cases hc0 : c = 0
  ·rw [if_neg (by simpa using hc0)]
   have hpl := Ai p
   subst hc0
   repeat' (first | (simp -implicitDefEqProofs [c37, Fw, Fx, -getElem?_pos, h60']) | (simp (disch := omega) only [AA]) | ((with_reducible refine Aa 68 ?_); refine' Am (hsf) ?_) | (with_reducible first | refine A6 ?_ ?_ ?_ | exact AC | refine SameB.upd ?_ ?_ _ | assumption | refine A0 ?_ | refine KM.of ?_ | refine AB ?_ | refine A1 ?_ | refine A4 ?_ | intro _g _hg | refine AD ?_ ?_ | intro _hc) | omega)
   refine LoopK.go (fun r st => ∃ (j q : Nat), j + r = p.length ∧ st = ⟨[(2, .ptr _g 0), (7, aI q), (8, aI j)], _g + 1, upd H _g (some (.cells 25 [aI k, aI o, aI m, R5 v, .sl 5 (AR p) .ro]))⟩ ∧ q ≤ 60 ∧ HG p (i + 1) = HG (p.drop j) q) p.length ⟨0, i + 1, by omega, by simp, by omega, rfl⟩ ?_
   rintro r st ⟨j, q, hj, rfl, hq, hE⟩ J hJ
   by_cases hjl : j < p.length
   ·obtain ⟨x, hx⟩ : ∃ x, p[j]? = some x := ⟨_, List.getElem?_eq_getElem hjl⟩
    have hxm := List.mem_of_getElem? hx
    have hst := ih x hxm (Cq hpp x hxm) q hq
    have hxe := DX hx
    have hxf := Ax x
    have hjl' : (j : Int) < p.length := by omega
    rw [UZ hx] at hE
    generalize encS x = ex at *
    generalize AR p = ep at *
    by_cases h2 : (Dd x q).2 = 0
    ·rw [if_neg (by simpa using h2)] at hE
     obtain ⟨_, _, h3⟩ := Jp x q h2
     rw [h2] at hst
     
     repeat' (first | (simp -implicitDefEqProofs [Hq, HX, Hp, HW, Hc, Fx, Fw, c37, -getElem?_pos, hpl, hjl', hxe, hxf, -AV.fits]) | (simp (disch := omega) only [AA]) | ((with_reducible refine Aa 37 ?_); refine' Am (hst) ?_) | (with_reducible first | refine A6 ?_ ?_ ?_ | exact AC | refine SameB.upd ?_ ?_ _ | assumption | refine A0 ?_ | refine KM.of ?_ | refine AB ?_ | refine A1 ?_ | refine A4 ?_ | intro _g _hg | refine AD ?_ ?_ | intro _hc) | omega)
     exact hJ (r - 1) _ (by omega) ⟨j + 1, (Dd x q).1, by omega, rfl, h3, hE⟩
    ·rw [if_pos h2] at hE
     rw [hE]
     
     repeat' (first | (simp -implicitDefEqProofs [Hq, HX, Hp, HW, Hc, Fx, Fw, c37, -getElem?_pos, hpl, hjl', hxe, hxf, -AV.fits, h2, AM, AQ]) | (simp (disch := omega) only [AA]) | ((with_reducible refine Aa 37 ?_); refine' Am (hst) ?_) | (with_reducible first | refine A6 ?_ ?_ ?_ | exact AC | refine SameB.upd ?_ ?_ _ | assumption | refine A0 ?_ | refine KM.of ?_ | refine AB ?_ | refine A1 ?_ | refine A4 ?_ | intro _g _hg | refine AD ?_ ?_ | intro _hc) | omega)
   ·have hjl' : ¬ (j : Int) < p.length := by omega
    rw [List.drop_eq_nil_of_le (by omega), HG] at hE
    rw [hE]
    
    repeat' (first | (simp -implicitDefEqProofs [Hq, HX, Hp, HW, Hc, Fx, Fw, c37, -getElem?_pos, hpl, hjl', AM, AQ]) | (simp (disch := omega) only [AA]) | (with_reducible first | refine A6 ?_ ?_ ?_ | exact AC | refine SameB.upd ?_ ?_ _ | assumption | refine A0 ?_ | refine KM.of ?_ | refine AB ?_ | refine A1 ?_ | refine A4 ?_ | intro _g _hg | refine AD ?_ ?_ | intro _hc) | omega)
  ·rw [if_pos hc0]
   repeat' (first | (simp -implicitDefEqProofs [Hq, HX, Hp, HW, Hc, Fx, Fw, c37, -getElem?_pos, h60', hc0, AM, AQ]) | (simp (disch := omega) only [AA]) | ((with_reducible refine Aa 68 ?_); refine' Am (hsf) ?_) | (with_reducible first | refine A6 ?_ ?_ ?_ | exact AC | refine SameB.upd ?_ ?_ _ | assumption | refine A0 ?_ | refine KM.of ?_ | refine AB ?_ | refine A1 ?_ | refine A4 ?_ | intro _g _hg | refine AD ?_ ?_ | intro _hc) | omega)
open Go.ChangeShapes Go.WideShapes Go.ChangeAt Go.RowKit Go.Deep
theorem A2z : ownKnob Tryz.prog.godebug = none := by kernel_rfl
theorem A26 : laidOutB Tryz.prog = true := by kernel_rfl
theorem Wu {w : World} {v : Value} {x : AV} (h : RepL (Tq w) [v] [x]) : Rep (Tq w) v x := by cases h; assumption
abbrev laidL : List (String × DataW Unit) := Rows.streamsBoundMatchesSpecRow.laid
abbrev A2p : String := Rows.streamsBoundMatchesSpecRow.laid[2].1
abbrev A1x : String := Rows.streamsBoundMatchesSpecRow.laid[6].1
theorem Y9 {P : Program} {w : World} {name : String} {d : DataW Unit} {k : IntKind} {zs : List Int} {g t e : Nat} {n : Nat} (h : Lib.VarReads P w name d) (hd : d = Lib.tabData k zs) (hg : P.globalNamed name = some g) (hty : (P.globals[g]?).map (·.type) = some t)
  (ht : P.underlying t = some (.array n e)) (he : P.underlying e = some (.int k)) (hce : P.cellsOf e = 1) (hct : P.cellsOf t = n) : ∃ t fz, w.heap[g]? = some (.cells (zs.map fun z => Value.int k z).toArray t fz) := by
 subst hd
 obtain ⟨g', t', cs, fuel, p, hg', ht', hvar, htr⟩ := h
 obtain rfl := Option.some.inj (hg.symm.trans hg')
 obtain rfl := Option.some.inj (hty.symm.trans ht')
 have hc := Lib.cells_of_tab ht he hce hct htr
 unfold World.var? at hvar
 rw [hg, Option.bind_some] at hvar
 split at hvar
 ·rename_i cs' t2 fz hh
  injection hvar with hvar
  subst hvar
  exact ⟨t2, fz, by rw [hh, ← hc]⟩
 ·cases hvar
theorem Y0 {P : Program} {w : World} {name nm : String} {d0 d : DataW Unit} {g t : Nat} {ms : Array (String × TypeId)} (h : Lib.VarReads P w name d0) (hd : d0 = .iface nm d) (hg : P.globalNamed name = some g) (hty : (P.globals[g]?).map (·.type) = some t)
  (ht : P.underlying t = some (.interface ms)) : ∃ v, w.cell? ⟨g, 0, none⟩ = some v ∧ (v = .nilIface ∨ ∃ te pe, v = .iface te pe) := by
 subst hd
 obtain ⟨g', t', cs, fuel, p, hg', ht', hvar, htr⟩ := h
 obtain rfl := Option.some.inj (hg.symm.trans hg')
 obtain rfl := Option.some.inj (hty.symm.trans ht')
 obtain ⟨_, u, v, hcs, _, _⟩ := iface_of_trod ht htr
 unfold World.var? at hvar
 rw [hg, Option.bind_some] at hvar
 split at hvar
 ·rename_i cs' t2 fz hh
  injection hvar with hvar
  subst hvar
  refine ⟨.iface u v, ?_, .inr ⟨u, v, rfl⟩⟩
  simp [World.cell?, hh, hcs]
  rw [← Array.getElem?_toList, hcs]; rfl
 ·cases hvar
theorem ZC {w : World} (h : laidMetH Tryz.prog laidL w) : Laid w := by
 rw [MakeChecks.laidMetH_plain _ _ _ (by kernel_rfl)] at h
 exact ⟨Y9 (Lib.laidMet.reads h (n := A1x) (d := Rows.streamsBoundMatchesSpecRow.laid[6].2) (List.getElem_mem (by decide : 6 < laidL.length))) (by kernel_rfl) (by kernel_rfl) (by kernel_rfl) Tryz.underlying145 Tryz.underlying5 (by kernel_rfl) (by kernel_rfl),
  Y9 (Lib.laidMet.reads h (n := A2p) (d := Rows.streamsBoundMatchesSpecRow.laid[2].2) (List.getElem_mem (by decide : 2 < laidL.length))) (by kernel_rfl) (by kernel_rfl) (by kernel_rfl) Tryz.underlying184 Tryz.underlying160 (by kernel_rfl) (by kernel_rfl),
  Y0 (Lib.laidMet.reads h (n := Rows.streamsBoundMatchesSpecRow.laid[4].1) (d := Rows.streamsBoundMatchesSpecRow.laid[4].2) (List.getElem_mem (by decide : 4 < laidL.length))) (by rfl) (by kernel_rfl) (by kernel_rfl) Tryz.underlying132,
  Y0 (Lib.laidMet.reads h (n := Rows.streamsBoundMatchesSpecRow.laid[3].1) (d := Rows.streamsBoundMatchesSpecRow.laid[3].2) (List.getElem_mem (by decide : 3 < laidL.length))) (by rfl) (by kernel_rfl) (by kernel_rfl) Tryz.underlying132⟩
noncomputable def JV (os : Os) : World := World.laidAll Tryz.prog os laidL
instance : Inhabited St := ⟨.mk 0 0 0 [] []⟩
section
variable {H : Type} {enc : TypeId × Value → H} {w : World} {base : Nat} {spare : Nat → Bool} {held : Bool} {fuel : Nat}
theorem A0v : Tryz.prog.cellsOf 3 = 1 := by kernel_rfl
theorem XB : Tryz.prog.cellsOf 25 = 5 := by kernel_rfl
theorem A1b : Tryz.prog.bytesOf 3 = 8 := by kernel_rfl
theorem A18 : Tryz.prog.bytesOf 25 = 72 := by kernel_rfl
theorem Yk : Tryz.prog.underlying 25 = some (.struct (Tryz.prog.fieldsOf 25)) := by kernel_rfl
theorem fsS : (Tryz.prog.fieldsOf 25).toList.map (fun f => (f.type, f.offset, Tryz.prog.cellsOf f.type)) = [(3, 0, 1), (3, 1, 1), (3, 2, 1), (22, 3, 1), (23, 4, 1)] := by kernel_rfl
theorem IQ {α : Type} {l : List α} (h : l.length = 5) : ∃ a0 a1 a2 a3 a4, l = [a0, a1, a2, a3, a4] := by
 rcases l with _ | ⟨a0, _ | ⟨a1, _ | ⟨a2, _ | ⟨a3, _ | ⟨a4, _ | ⟨a5, l⟩⟩⟩⟩⟩⟩
 ·simp at h
 ·simp at h
 ·simp at h
 ·simp at h
 ·simp at h
 ·exact ⟨a0, a1, a2, a3, a4, rfl⟩
 ·simp at h
theorem Sy {v : Value} {x : DataW H × List MemPlace} (h : DataW.trod enc Tryz.prog w base spare held fuel 22 [v] = some x) : ∃ l : List Int, RepL (Tq w) [v] [R5 l] ∧ ((∀ y ∈ x.1.weights Tryz.prog 22, y ≤ reachBytes) → l.length ≤ 140737488355328) := by
 obtain ⟨l, h1, h2, _⟩ := open_list (P := Tryz.prog) aI (fun _ => True) (fun _ => 0) Tryz.underlying22 A0v (by decide) (fun a => ⟨rfl, fun y hy => by simp [AV.cells] at hy; subst hy; rfl⟩) (fun k cs y _ hy => by
  obtain ⟨n, e, _, _⟩ := DataW.trod_int Tryz.underlying3 hy
  subst e
  exact ⟨n, .cons .int .nil, fun _ => trivial, Nat.zero_le _⟩) h
 refine ⟨l, h1, fun hw => ?_⟩
 have := (h2 hw).1
 rw [A1b] at this
 have hr : reachBytes ≤ 140737488355328 := by decide
 omega
theorem To {es sp : List (DataW H)} {d : DataW H} (h : d ∈ es) : SizeOf.sizeOf d < SizeOf.sizeOf (DataW.slice es sp) := by
 have := List.sizeOf_lt_of_mem h
 simp only [DataW.slice.sizeOf_spec]; omega
theorem Xm {es : List (DataW H)} {d : DataW H} (h : d ∈ es) : SizeOf.sizeOf d < SizeOf.sizeOf (DataW.agg es) := by
 have := List.sizeOf_lt_of_mem h
 simp only [DataW.agg.sizeOf_spec]; omega
theorem SL {v : Value} {x : DataW H × List MemPlace} (he : ∀ k cs (y : DataW H × List MemPlace), SizeOf.sizeOf y.1 < SizeOf.sizeOf x.1 → DataW.trod enc Tryz.prog w base spare held k 25 cs = some y → ∃ s : St, RepL (Tq w) cs (encS s).cells ∧ ((∀ z ∈ y.1.weights Tryz.prog 25, z ≤ reachBytes) → Cy s))
  (h : DataW.trod enc Tryz.prog w base spare held fuel 23 [v] = some x) : ∃ p : List St, Rep (Tq w) v (.sl 5 (AR p) .ro) ∧ ((∀ z ∈ x.1.weights Tryz.prog 23, z ≤ reachBytes) → p.length ≤ 140737488355328 ∧ Lv p) := by
 obtain ⟨n, k, X, Y, hr, hX, hY⟩ := Ly Tryz.underlying23 XB (by decide) h
 have hlt : ∀ i, i < n → SizeOf.sizeOf (Y i).1 < SizeOf.sizeOf x.1 := fun i hi => by
  rcases hY with ⟨h0, _⟩ | ⟨sp, h1⟩
  ·omega
  ·rw [h1]; exact To (List.mem_map.2 ⟨i, List.mem_range.2 hi, rfl⟩)
 obtain ⟨f, hf⟩ := choose_lt (n := n) (p := fun i (s : St) => RepL (Tq w) (X i) (encS s).cells ∧ ((∀ z ∈ (Y i).1.weights Tryz.prog 25, z ≤ reachBytes) → Cy s)) (fun i hi => he k (X i) (Y i) (hlt i hi) (hX i hi).2)
 have hlen : (((List.range n).map f).map encS).length = n := by simp
 have hu : ∀ s : St, (encS s).cells.length = 5 ∧ ∀ y ∈ (encS s).cells, y.one = true := fun s => by
  obtain ⟨k, o, m, v, p⟩ := s
  rw [AF]
  refine ⟨rfl, fun y hy => ?_⟩
  simp only [AV.cells, List.mem_cons, List.not_mem_nil, or_false] at hy
  rcases hy with rfl | rfl | rfl | rfl | rfl <;> rfl
 refine ⟨(List.range n).map f, ?_, fun hw => ?_⟩
 ·rw [FB]
  refine N0 hr ?_ hlen (by decide) ?_ ?_
  ·rw [List.map_map]
   exact NE fun i hi => (hf i hi).1
  ·intro y hy
   obtain ⟨a, _, rfl⟩ := List.mem_map.1 hy
   exact (hu a).1
  ·intro y hy
   obtain ⟨z, hz, hy⟩ := List.mem_flatMap.1 hy
   obtain ⟨a, _, rfl⟩ := List.mem_map.1 hz
   exact (hu a).2 y hy
 ·have key : ∀ p : List St, (∀ s ∈ p, Cy s) → Lv p := by
   intro p
   induction p with
   | nil => intro _; trivial
   | cons s r ih => intro h; exact ⟨h s List.mem_cons_self, ih fun y hy => h y (List.mem_cons_of_mem _ hy)⟩
  rcases hY with ⟨h0, h1⟩ | ⟨sp, h1⟩
  ·subst h0; exact ⟨by simp, trivial⟩
  ·rw [h1] at hw
   simp only [DataW.weights, Tryz.underlying23, List.mem_cons, List.mem_append, List.length_map, List.length_range] at hw
   refine ⟨?_, key _ fun s hs => ?_⟩
   ·have := hw _ (.inl rfl)
    rw [A18] at this
    have hr : reachBytes ≤ 140737488355328 := by decide
    simp; omega
   ·obtain ⟨i, hi, rfl⟩ := List.mem_map.1 hs
    have hi' : i < n := List.mem_range.1 hi
    exact (hf i hi').2 fun y hy => hw y (.inr (.inl (Km (List.mem_map.2 ⟨i, hi, rfl⟩) hy)))
set_option maxRecDepth 100000 in
theorem Qj : ∀ (N : Nat) {fuel : Nat} {cs : List Value} {x : DataW H × List MemPlace}, SizeOf.sizeOf x.1 ≤ N → DataW.trod enc Tryz.prog w base spare held fuel 25 cs = some x → ∃ s : St, RepL (Tq w) cs (encS s).cells ∧ ((∀ z ∈ x.1.weights Tryz.prog 25, z ≤ reachBytes) → Cy s) := by
 intro N
 induction N with
 | zero =>
  intro fuel cs x hN h
  obtain ⟨ys, m, _, hx, _⟩ := DataW.trod_struct Yk h
  rw [hx] at hN
  simp at hN
 | succ N ih =>
  intro fuel cs x hN h
  obtain ⟨ys, m, _, hx, hcl, hyl, hf⟩ := DataW.trod_struct Yk h
  have hfs := fsS
  obtain ⟨f0, f1, f2, f3, f4, hq⟩ := IQ (by have := congrArg List.length fsS; simpa using this : (Tryz.prog.fieldsOf 25).toList.length = 5)
  rw [hq] at hfs
  simp only [List.map_cons, List.map_nil, List.cons.injEq, Prod.mk.injEq, and_true] at hfs
  obtain ⟨⟨t0, o0, k0⟩, ⟨t1, o1, k1⟩, ⟨t2, o2, k2⟩, ⟨t3, o3, k3⟩, ⟨t4, o4, k4⟩⟩ := hfs
  have h0 : (Tryz.prog.fieldsOf 25)[0]? = some f0 := by rw [← Array.getElem?_toList, hq]; rfl
  have h1 : (Tryz.prog.fieldsOf 25)[1]? = some f1 := by rw [← Array.getElem?_toList, hq]; rfl
  have h2 : (Tryz.prog.fieldsOf 25)[2]? = some f2 := by rw [← Array.getElem?_toList, hq]; rfl
  have h3 : (Tryz.prog.fieldsOf 25)[3]? = some f3 := by rw [← Array.getElem?_toList, hq]; rfl
  have h4 : (Tryz.prog.fieldsOf 25)[4]? = some f4 := by rw [← Array.getElem?_toList, hq]; rfl
  have hn : (Tryz.prog.fieldsOf 25).size = 5 := by rw [← Array.length_toList, hq]; rfl
  have g0 := hf 0 f0 h0
  rw [k0, o0, t0] at g0
  have g1 := hf 1 f1 h1
  rw [k1, o1, t1] at g1
  have g2 := hf 2 f2 h2
  rw [k2, o2, t2] at g2
  have g3 := hf 3 f3 h3
  rw [k3, o3, t3] at g3
  have g4 := hf 4 f4 h4
  rw [k4, o4, t4] at g4
  rw [hn] at hyl
  obtain ⟨y0, y1, y2, y3, y4, hys⟩ := IQ hyl
  subst hys
  obtain ⟨z0, z1, z2, z3, z4, hz⟩ := IQ (hcl.trans XB)
  subst hz
  simp only [List.drop, List.take] at g0 g1 g2 g3 g4
  obtain ⟨n0, e0, _, w0⟩ := DataW.trod_int Tryz.underlying3 g0
  simp at e0
  subst e0
  obtain ⟨n1, e1, _, w1⟩ := DataW.trod_int Tryz.underlying3 g1
  simp at e1
  subst e1
  obtain ⟨n2, e2, _, w2⟩ := DataW.trod_int Tryz.underlying3 g2
  simp at e2
  subst e2
  obtain ⟨n3, r3, v3⟩ := Sy g3
  have hy4 : SizeOf.sizeOf y4.1 < SizeOf.sizeOf x.1 := by rw [hx]; exact Xm (by simp)
  obtain ⟨n4, r4, v4⟩ := SL (fun k cs y hy hk => ih (by omega) hk) g4
  refine ⟨.mk n0 n1 n2 n3 n4, ?_, fun hw => ?_⟩
  ·rw [AF]
   exact .cons .int (.cons .int (.cons .int (.cons (Wu r3) (.cons r4 .nil))))
  ·rw [hx] at hw
   simp only [DataW.weights, Yk, hq, List.map_cons, List.map_nil, DataW.weightsEach, t0, t1, t2, t3, t4, List.mem_append] at hw
   obtain ⟨a1, a2⟩ := v4 fun z hz => hw z (by simp [hz])
   exact ⟨v3 fun z hz => hw z (by simp [hz]), a1, a2⟩
end
set_option maxRecDepth 100000 in
theorem WV {H : Type} {enc : TypeId × Value → H} {w : World} {base b0 : Nat} {spare : Nat → Bool} {held : Bool} {r : Reach} {v : Value} {fuel : Nat} {x : DataW H × List MemPlace}
  (hv : Value.okWide Tryz.prog w r b0 25 v) (hf : DataW.trod enc Tryz.prog w base spare held fuel 25 v.cells.toList = some x) : ∃ s : St, Rep (Tq w) v (encS s) ∧ ((∀ z ∈ x.1.weights Tryz.prog 25, z ≤ reachBytes) → Cy s) := by
 obtain ⟨cs, rfl, hsz⟩ := okWide_struct Yk hv
 obtain ⟨s, hs, hw⟩ := Qj _ (Nat.le_refl _) hf
 refine ⟨s, ?_, hw⟩
 obtain ⟨k, o, m, l, p⟩ := s
 rw [AF] at hs ⊢
 have h2 : Rep (Tq w) (.agg cs.toList.toArray) (.agg [aI k, aI o, aI m, R5 l, .sl 5 (AR p) .ro]) := .agg hs (by intro y hy; simp only [List.mem_cons, List.not_mem_nil, or_false] at hy; rcases hy with rfl | rfl | rfl | rfl | rfl <;> rfl)
 simpa only [Array.toArray_toList] using h2
end Go.Proofs.YtjdccdelcnmocaaGreatDoor
