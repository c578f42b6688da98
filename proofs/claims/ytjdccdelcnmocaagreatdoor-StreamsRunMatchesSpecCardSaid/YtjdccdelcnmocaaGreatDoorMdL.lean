/- That the library texts at this seat are those that the contracts of the shelf speak of; no condition. -/
import Derived.Test.YtjdccdelcnmocaaGreatDoorMgK
import Derived.Shelf.Strings.Fields
import Derived.Shelf.Strconv.Itoa3
import Derived.Shelf.Strings.OnBuilder
import Derived.Test.YtjdccdelcnmocaaGreatDoorProg
import Derived.Shelf.Strconv.AtoiAll
import Derived.Test.YtjdccdelcnmocaaGreatDoorMgA
import Derived.Test.YtjdccdelcnmocaaGreatDoorMgJ
import Derived.Test.YtjdccdelcnmocaaGreatDoorAdE
import Derived.Lib.AppendIntMem
import Derived.Lib.AtoiAllCases
import Derived.Lib.ItoaLen
import Derived.Lib.Split
import Derived.Lib.SplitLaws
set_option linter.all false
set_option maxHeartbeats 16000000
namespace Go.Proofs.YtjdccdelcnmocaaGreatDoor
open Go.Shelf
def Qz : Go.Shelf.Ren := ⟨fun | 171 => 120 | 243 => 140 | 246 => 149 | 283 => 155 | 284 => 156 | 285 => 157 | 286 => 158 | 129 => 167 | 317 => 166 | 318 => 168 | 319 => 169 | 320 => 170 | 337 => 174 | 338 => 175 | n => n, fun | 3 => 3 | 9 => 9 | 2 => 2 | 4 => 4 | 171 => 159 | 0 => 0 | 53 => 160 | 37 => 127 | 5 => 5 | 173 => 163 | 212 => 184 | 51 => 156 | 20 => 20 | 213 => 185 | 46 => 186 | 232 => 201 | 233 => 202 | n => n, fun | 17 => 3 | 18 => 6 | 19 => 7 | n => n⟩
theorem Xe : Go.Proofs.LaysM.n171 Tryz.prog Qz := {
 mixed := by kernel_rfl
 f129 := Tryz.func167.trans (congrArg some (by kernel_rfl))
 f171 := Tryz.func120.trans (congrArg some (by kernel_rfl))
 f243 := Tryz.func140.trans (congrArg some (by kernel_rfl))
 f246 := Tryz.func149.trans (congrArg some (by kernel_rfl))
 f283 := Tryz.func155.trans (congrArg some (by kernel_rfl))
 f284 := Tryz.func156.trans (congrArg some (by kernel_rfl))
 f285 := Tryz.func157.trans (congrArg some (by kernel_rfl))
 f286 := Tryz.func158.trans (congrArg some (by kernel_rfl))
 f317 := Tryz.func166.trans (congrArg some (by kernel_rfl))
 f318 := Tryz.func168.trans (congrArg some (by kernel_rfl))
 f319 := Tryz.func169.trans (congrArg some (by kernel_rfl))
 f320 := Tryz.func170.trans (congrArg some (by kernel_rfl))
 f337 := Tryz.func174.trans (congrArg some (by kernel_rfl))
 f338 := Tryz.func175.trans (congrArg some (by kernel_rfl))
 t0 := Tryz.underlying0
 a0 := Tryz.isAgg0
 z0 := Tryz.sizeOf0
 v0 := Tryz.zeroValue0
 t2 := Tryz.underlying2
 a2 := Tryz.isAgg2
 z2 := Tryz.sizeOf2
 v2 := Tryz.zeroValue2
 t3 := Tryz.underlying3
 a3 := Tryz.isAgg3
 z3 := Tryz.sizeOf3
 v3 := Tryz.zeroValue3
 t4 := Tryz.underlying4
 a4 := Tryz.isAgg4
 z4 := Tryz.sizeOf4
 v4 := Tryz.zeroValue4
 t5 := Tryz.underlying5
 a5 := Tryz.isAgg5
 z5 := Tryz.sizeOf5
 v5 := Tryz.zeroValue5
 t9 := Tryz.underlying9
 a9 := Tryz.isAgg9
 z9 := Tryz.sizeOf9
 v9 := Tryz.zeroValue9
 t20 := Tryz.underlying20
 a20 := Tryz.isAgg20
 z20 := Tryz.sizeOf20
 v20 := Tryz.zeroValue20
 t37 := Tryz.underlying127
 a37 := Tryz.isAgg127
 z37 := Tryz.sizeOf127
 v37 := Tryz.zeroValue127
 t46 := Tryz.underlying186
 a46 := Tryz.isAgg186
 z46 := Tryz.sizeOf186
 v46 := Tryz.zeroValue186
 t51 := Tryz.underlying156
 a51 := Tryz.isAgg156
 z51 := Tryz.sizeOf156
 v51 := Tryz.zeroValue156
 t53 := Tryz.underlying160
 a53 := Tryz.isAgg160
 z53 := Tryz.sizeOf160
 v53 := Tryz.zeroValue160
 t171 := Tryz.underlying159
 a171 := Tryz.isAgg159
 z171 := Tryz.sizeOf159
 v171 := Tryz.zeroValue159
 t173 := Tryz.underlying163
 a173 := Tryz.isAgg163
 z173 := Tryz.sizeOf163
 v173 := Tryz.zeroValue163
 t212 := Tryz.underlying184
 a212 := Tryz.isAgg184
 z212 := Tryz.sizeOf184
 v212 := Tryz.zeroValue184
 t213 := Tryz.underlying185
 a213 := Tryz.isAgg185
 z213 := Tryz.sizeOf185
 t232 := Tryz.underlying201
 a232 := Tryz.isAgg201
 z232 := Tryz.sizeOf201
 v232 := Tryz.zeroValue201
 t233 := Tryz.underlying202
 a233 := Tryz.isAgg202
 z233 := Tryz.sizeOf202
 v233 := Tryz.zeroValue202
 g17 := by kernel_rfl
 g18 := by kernel_rfl
 g19 := by kernel_rfl
 i0 := by kernel_rfl
 i2 := by kernel_rfl
 i3 := by kernel_rfl
 i4 := by kernel_rfl
 i5 := by kernel_rfl
 i9 := by kernel_rfl
 i20 := by kernel_rfl
 i37 := by kernel_rfl
 i46 := by kernel_rfl
 i51 := by kernel_rfl
 i53 := by kernel_rfl
 i171 := by kernel_rfl
 i173 := by kernel_rfl
 i212 := by kernel_rfl
 i232 := by kernel_rfl
 i233 := by kernel_rfl
 m17 := by kernel_rfl
 m18 := by kernel_rfl
 m19 := by kernel_rfl }
def L1 : Go.Shelf.Ren := ⟨fun | 156 => 83 | 165 => 121 | 166 => 122 | 169 => 123 | 240 => 141 | 241 => 142 | 276 => 150 | 277 => 151 | n => n, fun | 31 => 87 | 9 => 9 | 3 => 3 | 4 => 4 | 0 => 0 | 20 => 20 | 72 => 129 | 76 => 133 | 70 => 126 | 37 => 127 | 75 => 132 | 127 => 143 | 164 => 149 | 5 => 5 | 80 => 112 | n => n, fun | n => n⟩
theorem V2 : Go.Proofs.Lays.n156 Tryz.prog L1 := {
 mixed := by kernel_rfl
 f156 := Tryz.func83.trans (congrArg some (by kernel_rfl))
 f165 := Tryz.func121.trans (congrArg some (by kernel_rfl))
 f166 := Tryz.func122.trans (congrArg some (by kernel_rfl))
 f169 := Tryz.func123.trans (congrArg some (by kernel_rfl))
 f240 := Tryz.func141.trans (congrArg some (by kernel_rfl))
 f241 := Tryz.func142.trans (congrArg some (by kernel_rfl))
 f276 := Tryz.func150.trans (congrArg some (by kernel_rfl))
 f277 := Tryz.func151.trans (congrArg some (by kernel_rfl))
 t0 := Tryz.underlying0
 a0 := Tryz.isAgg0
 z0 := Tryz.sizeOf0
 v0 := Tryz.zeroValue0
 t3 := Tryz.underlying3
 a3 := Tryz.isAgg3
 z3 := Tryz.sizeOf3
 v3 := Tryz.zeroValue3
 t4 := Tryz.underlying4
 a4 := Tryz.isAgg4
 z4 := Tryz.sizeOf4
 v4 := Tryz.zeroValue4
 t9 := Tryz.underlying9
 a9 := Tryz.isAgg9
 z9 := Tryz.sizeOf9
 v9 := Tryz.zeroValue9
 t20 := Tryz.underlying20
 a20 := Tryz.isAgg20
 z20 := Tryz.sizeOf20
 v20 := Tryz.zeroValue20
 t31 := Tryz.underlying87
 a31 := Tryz.isAgg87
 z31 := Tryz.sizeOf87
 v31 := Tryz.zeroValue87
 t37 := Tryz.underlying127
 a37 := Tryz.isAgg127
 z37 := Tryz.sizeOf127
 v37 := Tryz.zeroValue127
 t70 := Tryz.underlying126
 a70 := Tryz.isAgg126
 z70 := Tryz.sizeOf126
 v70 := Tryz.zeroValue126
 t72 := Tryz.underlying129
 a72 := Tryz.isAgg129
 z72 := Tryz.sizeOf129
 v72 := Tryz.zeroValue129
 t75 := Tryz.underlying132
 a75 := Tryz.isAgg132
 z75 := Tryz.sizeOf132
 v75 := Tryz.zeroValue132
 t76 := Tryz.underlying133
 a76 := Tryz.isAgg133
 z76 := Tryz.sizeOf133
 v76 := Tryz.zeroValue133
 t127 := Tryz.underlying143
 a127 := Tryz.isAgg143
 z127 := Tryz.sizeOf143
 v127 := Tryz.zeroValue143
 t164 := Tryz.underlying149
 a164 := Tryz.isAgg149
 z164 := Tryz.sizeOf149
 v164 := Tryz.zeroValue149 }
theorem GQ : Builder.Extra Tryz.prog L1 := {
 sizeBuilder := by kernel_rfl
 liesBuilder := by kernel_rfl
 t5 := Tryz.underlying5
 a5 := Tryz.isAgg5
 z5 := Tryz.sizeOf5
 v5 := Tryz.zeroValue5
 infoByte := by kernel_rfl
 cellsByte := by kernel_rfl
 sizeByte := by kernel_rfl
 neB5 := by decide }
def Sv : Go.Shelf.Ren := ⟨fun | 157 => 139 | 229 => 147 | 199 => 148 | 261 => 154 | 311 => 164 | 312 => 165 | n => n, fun | 9 => 9 | 31 => 87 | 3 => 3 | 5 => 5 | 4 => 4 | 119 => 145 | 0 => 0 | 40 => 147 | 152 => 153 | 21 => 21 | 154 => 155 | 51 => 156 | 141 => 158 | 196 => 174 | 193 => 171 | 198 => 177 | 49 => 175 | 194 => 172 | 201 => 180 | 226 => 194 | 46 => 186 | 227 => 195 | n => n, fun | 0 => 0 | 6 => 1 | n => n⟩
theorem A0n : Go.Proofs.Lays.n157 Tryz.prog Sv := {
 mixed := by kernel_rfl
 f157 := Tryz.func139.trans (congrArg some (by kernel_rfl))
 f199 := Tryz.func148.trans (congrArg some (by kernel_rfl))
 f229 := Tryz.func147.trans (congrArg some (by kernel_rfl))
 f261 := Tryz.func154.trans (congrArg some (by kernel_rfl))
 f311 := Tryz.func164.trans (congrArg some (by kernel_rfl))
 f312 := Tryz.func165.trans (congrArg some (by kernel_rfl))
 t0 := Tryz.underlying0
 a0 := Tryz.isAgg0
 z0 := Tryz.sizeOf0
 v0 := Tryz.zeroValue0
 t3 := Tryz.underlying3
 a3 := Tryz.isAgg3
 z3 := Tryz.sizeOf3
 v3 := Tryz.zeroValue3
 t4 := Tryz.underlying4
 a4 := Tryz.isAgg4
 z4 := Tryz.sizeOf4
 v4 := Tryz.zeroValue4
 t5 := Tryz.underlying5
 a5 := Tryz.isAgg5
 z5 := Tryz.sizeOf5
 v5 := Tryz.zeroValue5
 t9 := Tryz.underlying9
 a9 := Tryz.isAgg9
 z9 := Tryz.sizeOf9
 v9 := Tryz.zeroValue9
 t21 := Tryz.underlying21
 a21 := Tryz.isAgg21
 z21 := Tryz.sizeOf21
 v21 := Tryz.zeroValue21
 t31 := Tryz.underlying87
 a31 := Tryz.isAgg87
 z31 := Tryz.sizeOf87
 v31 := Tryz.zeroValue87
 t40 := Tryz.underlying147
 a40 := Tryz.isAgg147
 z40 := Tryz.sizeOf147
 v40 := Tryz.zeroValue147
 t46 := Tryz.underlying186
 a46 := Tryz.isAgg186
 z46 := Tryz.sizeOf186
 v46 := Tryz.zeroValue186
 t49 := Tryz.underlying175
 a49 := Tryz.isAgg175
 z49 := Tryz.sizeOf175
 v49 := Tryz.zeroValue175
 t51 := Tryz.underlying156
 a51 := Tryz.isAgg156
 z51 := Tryz.sizeOf156
 v51 := Tryz.zeroValue156
 t119 := Tryz.underlying145
 a119 := Tryz.isAgg145
 z119 := Tryz.sizeOf145
 t141 := Tryz.underlying158
 a141 := Tryz.isAgg158
 z141 := Tryz.sizeOf158
 v141 := Tryz.zeroValue158
 t152 := Tryz.underlying153
 a152 := Tryz.isAgg153
 z152 := Tryz.sizeOf153
 v152 := Tryz.zeroValue153
 t154 := Tryz.underlying155
 a154 := Tryz.isAgg155
 z154 := Tryz.sizeOf155
 v154 := Tryz.zeroValue155
 t193 := Tryz.underlying171
 a193 := Tryz.isAgg171
 z193 := Tryz.sizeOf171
 v193 := Tryz.zeroValue171
 t194 := Tryz.underlying172
 a194 := Tryz.isAgg172
 z194 := Tryz.sizeOf172
 v194 := Tryz.zeroValue172
 t196 := Tryz.underlying174
 a196 := Tryz.isAgg174
 z196 := Tryz.sizeOf174
 v196 := Tryz.zeroValue174
 t198 := Tryz.underlying177
 a198 := Tryz.isAgg177
 z198 := Tryz.sizeOf177
 v198 := Tryz.zeroValue177
 t201 := Tryz.underlying180
 a201 := Tryz.isAgg180
 z201 := Tryz.sizeOf180
 v201 := Tryz.zeroValue180
 t226 := Tryz.underlying194
 a226 := Tryz.isAgg194
 z226 := Tryz.sizeOf194
 v226 := Tryz.zeroValue194
 t227 := Tryz.underlying195
 a227 := Tryz.isAgg195
 z227 := Tryz.sizeOf195
 v227 := Tryz.zeroValue195
 g0 := by kernel_rfl
 g6 := by kernel_rfl }
abbrev R4 := List UInt8
abbrev aI (n : Int) : AV := .int .i64 n
abbrev aF (f : Int × Int) : AV := .agg [.int .i64 f.1, .int .i64 f.2]
abbrev BX (l : List Int) : AV := .sl 1 (l.map aI) .ro
inductive St where
 | mk (k o n : Int) (v : List Int) (p : List St)
def St.k : St → Int | .mk k _ _ _ _ => k
def St.o : St → Int | .mk _ o _ _ _ => o
def St.n : St → Int | .mk _ _ n _ _ => n
def St.v : St → List Int | .mk _ _ _ v _ => v
def St.p : St → List St | .mk _ _ _ _ p => p
mutual
theorem St.ind {Q : St → Prop} (h : ∀ k o n v p, (∀ s ∈ p, Q s) → Q (.mk k o n v p)) : ∀ s, Q s
 | .mk k o n v p => h k o n v p (St.indL h p)
theorem St.indL {Q : St → Prop} (h : ∀ k o n v p, (∀ s ∈ p, Q s) → Q (.mk k o n v p)) : ∀ p : List St, ∀ s ∈ p, Q s
 | [], s, hs => by cases hs
 | x :: r, s, hs => by
  rcases List.mem_cons.1 hs with e | hs
  ·rw [e]; exact St.ind h x
  ·exact St.indL h r s hs
end
mutual
def encS : St → AV
 | .mk k o n v p => .agg [aI k, aI o, aI n, BX v, .sl 5 (AZ p) .ro]
def AZ : List St → List AV
 | [] => []
 | s :: r => encS s :: AZ r
end
theorem JH : ∀ p : List St, AZ p = p.map encS
 | [] => by simp [AZ]
 | s :: r => by simp [AZ, JH r]
mutual
def Bj : St → Nat
 | .mk _ _ _ _ p => CX p + 1
def CX : List St → Nat
 | [] => 0
 | s :: r => Bj s + CX r
end
theorem Xh (s : St) : 0 < Bj s := by cases s; simp [Bj]
def DY (k : Int) : Bool := decide (k = 1) || decide (k = 2)
def Hb (k : Int) : Bool := decide (k = 13) || decide (k = 14)
def Oc (k : Int) : Bool := decide (k = 15) || decide (k = 16)
def Sg (k : Int) : Bool := decide (k = 3) || decide (k = 9) || decide (k = 10) || decide (k = 15)
def Cj (k : Int) : Bool := decide (k = 4) || decide (k = 7) || decide (k = 8)
def Kc (k : Int) : Bool := decide (k = 5) || decide (k = 6) || decide (k = 12)
def Pm (k : Int) : Bool := (Sg k && decide (k ≠ 15)) || Cj k || Kc k
def Io (k o : Int) : Int := if k = 10 then 1 else if (k = 3 ∧ o = 6) ∨ (Cj k = true ∧ o = 3) then 1 else 0
def Iv (k : Int) : Int := if k = 12 then 20 else if k = 5 ∨ k = 6 then 5000 else if k = 10 then 8 else 9999
def Fw (k : Int) (i : Nat) (x : Int) : Bool := decide ((if k = 2 ∧ i = 2 then 1 else 0) ≤ x) && decide (x ≤ if k = 2 ∧ i = 1 then 10000 else 9999)
def B5 (k : Int) : Nat → List Int → Bool
 | _, [] => true
 | i, x :: r => Fw k i x && B5 k (i + 1) r
def Bm : St → Int
 | .mk k o n v p =>
  if ¬ (1 ≤ k ∧ k ≤ 16) then 5
  else if (DY k = true ∧ p.length ≠ 0) ∨ (Hb k = true ∧ p.length = 0) ∨ (Oc k = true ∧ p.length ≠ 2) ∨ (DY k = false ∧ Hb k = false ∧ Oc k = false ∧ p.length ≠ 1) ∨ (k = 2 ∧ v.length ≠ 3) then 9
  else if (DY k = false ∧ v.length ≠ 0) ∨ (Pm k = false ∧ n ≠ 0) ∨ (Sg k = false ∧ Cj k = false ∧ o ≠ 0) then 6
  else if (Sg k = true ∧ ¬ (1 ≤ o ∧ o ≤ 5) ∧ ¬ (k = 3 ∧ o = 6)) ∨ (Cj k = true ∧ ¬ (1 ≤ o ∧ o ≤ 3)) then 4
  else if Pm k = true ∧ ¬ (Io k o ≤ n ∧ n ≤ Iv k) then 4
  else if B5 k 0 v = true then 0 else 4
mutual
def E8 : St → Nat → Nat × Int
 | .mk k o n v p, i => if 60 ≤ i then (i, 2) else if Bm (.mk k o n v p) ≠ 0 then (i, Bm (.mk k o n v p)) else Ie p (i + 1)
def Ie : List St → Nat → Nat × Int
 | [], i => (i, 0)
 | s :: r, i => if (E8 s i).2 ≠ 0 then E8 s i else Ie r (E8 s i).1
end
def Eg : List Int → Nat
 | a :: b :: c :: _ => ((b - a + c - 1) / c).toNat
 | _ => 0
def Ei (k n : Int) (v : List Int) (bs : List Nat) : Nat :=
 if k = 1 then v.length else if k = 2 then Eg v else if k = 5 then min n.toNat (bs.getD 0 0) else if k = 12 then n.toNat * bs.getD 0 0 else if k = 15 then min (bs.getD 0 0) (bs.getD 1 0) else bs.sum
mutual
def Ac : St → Nat
 | .mk k _ n v p => Ei k n v (Of p)
def Of : List St → List Nat
 | [] => []
 | s :: r => Ac s :: Of r
end
theorem Hm : ∀ p : List St, Of p = p.map Ac
 | [] => by simp [Of]
 | s :: r => by simp [Of, Hm r]
mutual
def E9 : St → Nat → Nat × Int
 | .mk k o n v p, i => ((GF p (i + 1)).1, if 5000 < Ac (.mk k o n v p) then (i : Int) else (GF p (i + 1)).2)
def GF : List St → Nat → Nat × Int
 | [], i => (i, -1)
 | s :: r, i => ((GF r (E9 s i).1).1, if (E9 s i).2 < 0 then (GF r (E9 s i).1).2 else (E9 s i).2)
end
def HM (s : St) : Int × Int := if (E8 s 0).2 ≠ 0 then ((E8 s 0).2, ((E8 s 0).1 : Int)) else if 0 ≤ (E9 s 0).2 then (14, (E9 s 0).2) else (0, 0)
mutual
def T8 : St → Prop
 | .mk k o n v p => Bm (.mk k o n v p) = 0 ∧ okP p
def okP : List St → Prop
 | [] => True
 | s :: r => T8 s ∧ okP r
end
mutual
def smS : St → Prop
 | .mk k o n v p => Ac (.mk k o n v p) ≤ 5000 ∧ smP p
def smP : List St → Prop
 | [] => True
 | s :: r => smS s ∧ smP r
end
theorem GM : ∀ {p : List St}, okP p → ∀ s ∈ p, T8 s
 | [], _, s, h => by cases h
 | x :: r, h, s, hs => by
  rcases List.mem_cons.1 hs with e | hs
  ·rw [e]; exact h.1
  ·exact GM h.2 s hs
theorem Rc : ∀ {p : List St}, smP p → ∀ s ∈ p, smS s
 | [], _, s, h => by cases h
 | x :: r, h, s, hs => by
  rcases List.mem_cons.1 hs with e | hs
  ·rw [e]; exact h.1
  ·exact Rc h.2 s hs
mutual
theorem KO : ∀ (s : St) (i : Nat), (E8 s i).2 = 0 → T8 s ∧ (E8 s i).1 = i + Bj s ∧ (E8 s i).1 ≤ 60
 | .mk k o n v p, i, h => by
  simp only [E8] at h ⊢
  split at h
  ·cases h
  ·split at h
   ·rename_i h1; exact absurd h h1
   ·rename_i h0 h1
    rw [if_neg h0, if_neg h1]
    obtain ⟨h2, h3, h4⟩ := V1 p (i + 1) (by omega) h
    exact ⟨⟨by omega, h2⟩, by rw [h3]; simp only [Bj]; omega, h4⟩
theorem V1 : ∀ (p : List St) (i : Nat), i ≤ 60 → (Ie p i).2 = 0 → okP p ∧ (Ie p i).1 = i + CX p ∧ (Ie p i).1 ≤ 60
 | [], i, hi, _ => ⟨trivial, rfl, hi⟩
 | s :: r, i, hi, h => by
  simp only [Ie] at h ⊢
  split at h
  ·rename_i h1; exact absurd h h1
  ·rename_i h1
   rw [if_neg h1]
   obtain ⟨h2, h3, h6⟩ := KO s i (by omega)
   obtain ⟨h4, h5, h7⟩ := V1 r _ h6 h
   exact ⟨⟨h2, h4⟩, by rw [h5, h3]; simp only [CX]; omega, h7⟩
end
mutual
theorem Om : ∀ (s : St) (i : Nat), (E9 s i).1 = i + Bj s
 | .mk k o n v p, i => by simp only [E9, Jp p, Bj]; omega
theorem Jp : ∀ (p : List St) (i : Nat), (GF p i).1 = i + CX p
 | [], i => rfl
 | s :: r, i => by simp only [GF, Jp r, Om s, CX]; omega
end
mutual
theorem Ks : ∀ (s : St) (i : Nat), -1 ≤ (E9 s i).2 ∧ ((E9 s i).2 < 0 ↔ smS s)
 | .mk k o n v p, i => by
  have ih := Vh p (i + 1)
  simp only [E9, smS]
  split
  ·refine ⟨by omega, ⟨fun h => by omega, fun h => by omega⟩⟩
  ·exact ⟨ih.1, ⟨fun h => ⟨by omega, ih.2.1 h⟩, fun h => ih.2.2 h.2⟩⟩
theorem Vh : ∀ (p : List St) (i : Nat), -1 ≤ (GF p i).2 ∧ ((GF p i).2 < 0 ↔ smP p)
 | [], i => by simp [GF, smP]
 | s :: r, i => by
  have h1 := Ks s i
  have h2 := Vh r (E9 s i).1
  simp only [GF, smP]
  split
  ·rename_i h; exact ⟨h2.1, ⟨fun h' => ⟨h1.2.1 h, h2.2.1 h'⟩, fun h' => h2.2.2 h'.2⟩⟩
  ·rename_i h; exact ⟨h1.1, ⟨fun h' => absurd h' h, fun h' => absurd (h1.2.2 h'.1) h⟩⟩
end
theorem OH {s : St} (h : (HM s).1 = 0) : HM s = (0, 0) ∧ T8 s ∧ smS s ∧ Bj s ≤ 60 := by
 unfold HM at h ⊢
 split at h
 ·rename_i h1; exact absurd h h1
 ·rename_i h1
  rw [if_neg h1]
  split at h
  ·cases h
  ·rename_i h2
   rw [if_neg h2]
   obtain ⟨h3, h4, h5⟩ := KO s 0 (by omega)
   exact ⟨rfl, h3, (Ks s 0).2.1 (by omega), by omega⟩
open Go.RowKit
theorem Pz {P : Program} {w0 w w' : World} {G : Gh} {n : Nat} {H : A1} (h0 : Rel0 P w0 G n H w) (hb : Below w.heap.size w w') : Rel0 P w0 G n H w' := by
 have hbl : ∀ g, g < w.heap.size → w'.heap[g]? = w.heap[g]? := fun g hg => hb.block g hg
 refine ⟨h0.ext.tr hb, h0.lo, Nat.le_trans h0.hi hb.size, fun b o v hv => ?_, fun g e c hg => ?_, h0.capLo, fun g ob hob => ?_⟩
 ·have hc := h0.seal_ b o v hv
  have hlt : b < w.heap.size := World.block_lt_of_cell? _ _ hc
  rw [hb.cell (p := ⟨b, o, none⟩) hlt]; exact hc
 ·obtain ⟨cur, fz, h1, h2⟩ := h0.caps g e c hg
  refine ⟨cur, fz, ?_, h2⟩
  rw [hbl g (Array.getElem?_eq_some_iff.1 h1).1]; exact h1
 ·obtain ⟨h1, h2, h3⟩ := h0.objs g ob hob
  have hlt : g < w.heap.size := Nat.lt_of_lt_of_le h2 h0.hi
  exact ⟨h1, h2, h3.keep (hbl g hlt) (fun _ => rfl) rfl (Gh.Le.rfl_ G) (MapsKeep.lt hbl)⟩
theorem WY {P : Program} {f : Nat} {args : List AV} {v : AV} (h : ∀ (G : Gh) (vs : List Value), RepL G vs args → ∃ u : Value, (∀ G', Rep G' u v) ∧ ∀ w : World, Laid w → Calls P f vs.toArray w fun e w' => e = .returned u ∧ Below w.heap.size w w') : APure P f args v := by
 intro n H hs w0 G w vs hl h0 hrep
 obtain ⟨u, hu, hc⟩ := h G vs hrep
 refine (hc w (hl.ext h0.ext)).mono ?_
 rintro e w' ⟨rfl, hb⟩
 exact ⟨u, v, G, n, H, rfl, ⟨rfl, rfl, rfl⟩, hu G, Gh.Le.rfl_ _, Nat.le_refl _, Pz h0 hb⟩
theorem Xw (s : ByteArray) (l : List UInt8) (h : s.data.toList = l) : s = ⟨l.toArray⟩ := by cases s; subst h; simp
theorem Oe (n : Int) (h : -9223372036854775808 ≤ n ∧ n ≤ 9223372036854775807) : APure Tryz.prog 120 [.int .i64 n] (.str (Lib.itoa n)) := by
 refine WY fun G vs hr => ⟨.string ⟨(Lib.itoa n).toArray⟩, fun _ => .str (by simp), fun w hl => ?_⟩
 cases hr with | cons h1 h2 =>
 cases h2; cases h1
 refine (Any.strconv_Itoa Xe n h.1 h.2 w (Yr (by kernel_rfl) hl.pow)).mono ?_
 rintro e w' ⟨rfl, k, os, rfl⟩
 exact ⟨rfl, Lib.below_grow _ _ (Nat.le_refl _) _ _⟩
theorem Kg (l : List R4) : AM (l.map AV.str) = l.map AV.str := by
 induction l with
 | nil => rfl
 | cons x l ih => simp only [List.map_cons, AM, List.flatMap_cons, AV.cells, List.singleton_append] at ih ⊢; rw [ih]
theorem WW {G : Gh} (l : List R4) : RepL G (l.map fun x => Value.string ⟨x.toArray⟩) (l.map AV.str) := by
 induction l with
 | nil => exact .nil
 | cons x l ih => exact .cons (.str (by simp)) ih
theorem Sp (s : R4) (hs : s.length < 4294967281) (ha : ∀ b ∈ s, b.toNat < 128) (hk : (Lib.fields s).length ≤ 1000000) : APure Tryz.prog 139 [.str s] (.sl 1 ((Lib.fields s).map AV.str) .ro) := by
 intro n H hH w0 G w vs hl h0 hrep
 cases hrep with | cons h1 h2 =>
 cases h2; cases h1
 rename_i sb hsb
 subst hsb
 refine (Any.strings_Fields A0n (by kernel_rfl) (by kernel_rfl) sb w (by rw [Lib.size_eq]; exact hs) (fun j b hj => ha b (List.mem_of_getElem? hj)) (Yr (by kernel_rfl) (hl.ext h0.ext).spc)).mono ?_
 rintro e w' ⟨rfl, rfl⟩
 have hrel := h0.newRow (w' := w.alloc (.cells ((Lib.fields sb.data.toList).map fun l => Value.string ⟨l.toArray⟩).toArray 9)) (cur := ((Lib.fields sb.data.toList).map fun l => Value.string ⟨l.toArray⟩).toArray) (e := 9) (fz := (0, 0)) (vs := (Lib.fields sb.data.toList).map fun l => Value.string ⟨l.toArray⟩) (c := none) (ob := none) rfl rfl rfl rfl
  (fun j u hu => by simpa using hu) (fun e' c' hc => by cases hc) (.inl rfl)
 have hle := h0.addLe ((Lib.fields sb.data.toList).map fun l => Value.string ⟨l.toArray⟩) none
 have hhi := h0.hi
 refine ⟨_, _, _, n, H, rfl, ⟨rfl, rfl, rfl⟩, .slro (vs := (Lib.fields sb.data.toList).map fun l => Value.string ⟨l.toArray⟩) ?_ (Gh.add_sealed _ _ _) ?_ (by simp), hle, Nat.le_refl _, hrel.less h0.lo (by omega) hH ?_⟩
 ·rw [Kg]; exact WW _
 ·refine ⟨by simp, by simp only [maxLen]; omega, by decide, fun x hx => ?_, fun x hx => ?_⟩
  ·obtain ⟨y, _, rfl⟩ := List.mem_map.1 hx; rfl
  ·rw [Kg] at hx; obtain ⟨y, _, rfl⟩ := List.mem_map.1 hx; rfl
 ·intro k hk'
  rw [upd_ne (by omega)]
abbrev aSs (l : List R4) : AV := .sl 1 (l.map AV.str) .ro
theorem A3i (l : List R4) (sep : R4) (hl : l.length ≤ 140737488355328) (hlen : (Lib.join l sep).length ≤ 140737488355328) : APure Tryz.prog 83 [aSs l, .str sep] (.str (Lib.join l sep)) := by
 intro n H hH w0 G w vs hl0 h0 hrep
 cases hrep with | cons h1 h2 =>
 cases h2 with | cons h3 h4 =>
 cases h4; cases h3
 rename_i sb hsb
 subst hsb
 obtain ⟨A, c, rfl, hc, hm, hA⟩ := h1.slOut
 have key : ∀ {W : World} {e : Ending}, e = .returned (.string ⟨(Lib.join l sb.data.toList).toArray⟩) → Below w.heap.size w W → ∃ (v : Value) (r : AV) (G' : Gh) (n' : Nat) (H' : A1), e = .returned v ∧ (r = .str (Lib.join l sb.data.toList) ∧ n' = n ∧ H' = H) ∧ Rep G' v r ∧ G.Le G' ∧ n ≤ n' ∧ Rel0 Tryz.prog w0 G' n' H' W := fun he hb =>
  ⟨_, _, G, n, H, he, ⟨rfl, rfl, rfl⟩, .str (by simp), Gh.Le.rfl_ _, Nat.le_refl _, Pz h0 hb⟩
 by_cases hl0 : l = []
 ·subst hl0
  refine (Any.strings_Join_none V2 GQ A c sb w).mono ?_
  rintro e w' ⟨he, rfl⟩
  exact key (by rw [he]; rfl) (Below.refl _ _)
 ·obtain ⟨g, off, us, rfl, hr, hs, ho⟩ := hA (by simpa using hl0)
  rw [Kg] at hr
  have hcell : ∀ (j : Nat) (x : ByteArray), (l.map fun x => (⟨x.toArray⟩ : ByteArray))[j]? = some x → w.cell? ⟨g, off + j, none⟩ = some (.string x) := by
   intro j x hj
   obtain ⟨y, hy, rfl⟩ : ∃ y, l[j]? = some y ∧ (⟨y.toArray⟩ : ByteArray) = x := by simpa [List.getElem?_map] using hj
   obtain ⟨u, hu, hru⟩ := hr.at (i := j) (x := .str y) (by simp [List.getElem?_map, hy])
   have h5 := h0.seal_ _ _ _ (hs j u hu)
   cases hru
   rename_i s hsy
   rw [h5, Xw _ _ hsy]
  have hlt : g < w.heap.size := by
   obtain ⟨y, hy⟩ : ∃ y, l[0]? = some y := ⟨_, List.getElem?_eq_getElem (List.length_pos_iff.2 hl0)⟩
   have := World.block_lt_of_cell? w _ (hcell 0 ⟨y.toArray⟩ (by simp [List.getElem?_map, hy]))
   simpa using this
  have hmap : (l.map fun x => (⟨x.toArray⟩ : ByteArray)).map (·.data.toList) = l := by
   rw [List.map_map]; conv => rhs; rw [← List.map_id l]
   apply List.map_congr_left; intro x _; simp
  have hj := Any.strings_Join V2 GQ g off c (l.map fun x => (⟨x.toArray⟩ : ByteArray)) sb w hcell hlt (by simpa using hl) (by simpa using hc) (by rw [hmap]; exact hlen)
  rw [hmap, List.length_map] at hj
  simp only [List.length_map] at *
  refine hj.mono ?_
  rintro e w' ⟨he, hb⟩
  exact key he hb
def CH (op x y : Int) : Int := if op = 1 then (x + y) % 10000 else if op = 2 then (x - y + 10000) % 10000 else if op = 3 then x * y % 10000 else if op = 4 then max x y else if op = 5 then min x y else x % y
def FE (op x n : Int) : Bool := if op = 1 then decide (x < n) else if op = 2 then decide (n ≤ x) else decide (x % n = 0)
abbrev AQ := List Int
abbrev Ad := List (Int × AQ)
structure Fut where
 cur : AQ
 l : Ad
 fin : AQ
def LO : Nat → List Int → Ad
 | _, [] => []
 | i, x :: r => (x, [((i + 1 : Nat) : Int)]) :: LO (i + 1) r
def EK (xs : List Int) : Fut := ⟨[0], LO 0 xs, [(xs.length : Int)]⟩
def E7 (v : List Int) : List Int := match v with
 | a :: b :: c :: r => (List.range (Eg (a :: b :: c :: r))).map fun (i : Nat) => a + (i : Int) * c
 | _ => []
def Da : Nat → AQ → Ad → AQ → Ad × AQ
 | 0, cur, _, _ => ([], cur)
 | _ + 1, _, [], fin => ([], fin)
 | n + 1, _, (x, c) :: r, fin => ((x, c) :: (Da n c r fin).1, (Da n c r fin).2)
def Di (p : Int → Bool) : Ad → AQ → Ad × AQ
 | [], fin => ([], fin)
 | (x, c) :: r, fin => if p x = true then ((x, c) :: (Di p r fin).1, (Di p r fin).2) else ([], c)
def GG (p : Int → Bool) : Ad → Ad
 | [] => []
 | (x, c) :: r => if p x = true then GG p r else (x, c) :: r
def IT (f : Int → Int → Int) : Int → Ad → Ad
 | _, [] => []
 | n, (x, c) :: r => (f n x, c) :: IT f (f n x) r
def G0 (f : Int → Int → Int) : List Int → Int
 | [] => 0
 | x :: r => r.foldl f x
def EB (f : Int → Int → Int) (N : Nat) : List Int → Ad → Ad
 | _, [] => []
 | last, (x, c) :: r => if last.length + 1 < N then EB f N (last ++ [x]) r else (G0 f ((last ++ [x]).drop (last.length + 1 - N)), c) :: EB f N ((last ++ [x]).drop (last.length + 1 - N)) r
def GB : Int → Ad → Ad
 | _, [] => []
 | last, (x, c) :: r => if x ≠ last then (x, c) :: GB x r else GB last r
def DJ (xs : List Int) (fin : AQ) : Nat → Ad
 | 0 => []
 | n + 1 => xs.map (fun x => (x, fin)) ++ DJ xs fin n
def FR (n : Nat) (F : Fut) : Fut := if n = 0 then ⟨F.cur, [], F.cur⟩ else ⟨F.cur, F.l ++ DJ (F.l.map (·.1)) F.fin (n - 1), F.fin⟩
def B6 (k o n : Int) (F : Fut) : Fut :=
 if k = 3 then ⟨F.cur, F.l.map fun e => (CH o e.1 n, e.2), F.fin⟩
 else if k = 4 then ⟨F.cur, F.l.filter fun e => FE o e.1 n, F.fin⟩
 else if k = 5 then ⟨F.cur, (Da n.toNat F.cur F.l F.fin).1, (Da n.toNat F.cur F.l F.fin).2⟩
 else if k = 6 then ⟨F.cur, F.l.drop n.toNat, F.fin⟩
 else if k = 7 then ⟨F.cur, (Di (fun x => FE o x n) F.l F.fin).1, (Di (fun x => FE o x n) F.l F.fin).2⟩
 else if k = 8 then ⟨F.cur, GG (fun x => FE o x n) F.l, F.fin⟩
 else if k = 9 then ⟨F.cur, IT (CH o) n F.l, F.fin⟩
 else if k = 10 then ⟨F.cur, EB (CH o) n.toNat [] F.l, F.fin⟩
 else if k = 11 then ⟨F.cur, GB (-1) F.l, F.fin⟩
 else FR n.toNat F
def BU : List Fut → Fut
 | [] => ⟨[], [], []⟩
 | F :: Fs => ⟨F.cur ++ (BU Fs).cur, F.l.map (fun e => (e.1, e.2 ++ (BU Fs).cur)) ++ (BU Fs).l.map (fun e => (e.1, F.fin ++ e.2)), F.fin ++ (BU Fs).fin⟩
def E6 : Nat → List (Nat × Ad × AQ) → List AQ → Ad × List AQ
 | 0, _, cs => ([], cs)
 | _ + 1, [], cs => ([], cs)
 | m + 1, (i, [], fin) :: q, cs => E6 m q (cs.set i fin)
 | m + 1, (i, (x, c) :: r, fin) :: q, cs => ((x, (cs.set i c).flatten) :: (E6 m (q ++ [(i, r, fin)]) (cs.set i c)).1, (E6 m (q ++ [(i, r, fin)]) (cs.set i c)).2)
def Rr (Fs : List Fut) : Nat := (Fs.map fun F => F.l.length + 1).sum
def Dc (Fs : List Fut) : Fut :=
 ⟨(Fs.map (·.cur)).flatten, (E6 (Rr Fs) (Fs.zipIdx.map fun x => (x.2, x.1.l, x.1.fin)) (Fs.map (·.cur))).1, (E6 (Rr Fs) (Fs.zipIdx.map fun x => (x.2, x.1.l, x.1.fin)) (Fs.map (·.cur))).2.flatten⟩
def De (f : Int → Int → Int) (fa fb : AQ) : Ad → AQ → Ad → Ad × AQ
 | [], cb, _ => ([], fa ++ cb)
 | (_, c) :: _, _, [] => ([], c ++ fb)
 | (x, c) :: r, _, (y, d) :: t => ((f x y, c ++ d) :: (De f fa fb r d t).1, (De f fa fb r d t).2)
def Bf (fa fb : AQ) : Ad → Ad → Ad
 | [], [] => []
 | [], (y, d) :: t => (y, fa ++ d) :: Bf fa fb [] t
 | (x, c) :: r, [] => (x, c ++ fb) :: Bf fa fb r []
 | (x, c) :: r, (y, d) :: t => if x ≤ y then (x, c ++ d) :: Bf fa fb r ((y, d) :: t) else (y, c ++ d) :: Bf fa fb ((x, c) :: r) t
 termination_by a b => a.length + b.length
def DZ (k o n : Int) (v : List Int) (Fs : List Fut) : Fut :=
 if k = 1 then EK v
 else if k = 2 then EK (E7 v)
 else if k = 13 then BU Fs
 else if k = 14 then Dc Fs
 else match Fs with
  | [F] => B6 k o n F
  | [F, G] => if k = 15 then ⟨F.cur ++ G.cur, (De (CH o) F.fin G.fin F.l G.cur G.l).1, (De (CH o) F.fin G.fin F.l G.cur G.l).2⟩ else ⟨F.cur ++ G.cur, Bf F.fin G.fin F.l G.l, F.fin ++ G.fin⟩
  | _ => ⟨[], [], []⟩
mutual
def AR : St → Fut
 | .mk k o n v p => DZ k o n v (BA p)
def BA : List St → List Fut
 | [] => []
 | s :: r => AR s :: BA r
end
theorem D5 : ∀ p : List St, BA p = p.map AR
 | [] => by simp [BA]
 | s :: r => by simp [BA, D5 r]
attribute [local simp] Ng FD FC Lc MV LI Ni FN FF HQ HO Lg MC Nq MZ Ny No NG NY LV LZ M0 MT Ly LJ Tq pe N9 Ld MD Lv N1 Nf Li O7 Mz N4 Mx Mc Ln FU O5 OC Lk Nt NR Na Mr Ma OD Mh LX NT LR Ms MX LN Np N0 Ls LH Lf Ey MY F4 LL Lo OA O0 M9 Nj M4 MF MA MG NF N7 Mt Mi Mo Lw Mq MQ MH Mj N8 Nv Nr Ns Nm FX M1 Nh Mw Lu Mk Md M8 NZ O8 NJ MJ MS Nd M2 Lp NA N5 Mn Lt NQ NX NN MI Nc NW LW NK Mf Mp Nu Ja Ll List.mem_cons guardK EE G9 GK HN LK F3 FL F8 FO FJ FG FQ FY Ez LF ME FV LM MP M7 Lh N3 MM F1 MW NL NV LG LU Lr HS FT FB FS FM Nn M5 FP LQ F9 Lj F6 FA Nz F5 F2 Lq My ND NU NH MB Lm OB Tt KK Ki Hc KI Ju K7 Eb Gt HA MN Gm Gu EZ ED Wm Jx Kn Gq Ji Js E5 Dd BZ B9 CA DW AA ev get put Fc AC EC Mb MK Lx O4 KL NP Eu part B8 HY N2 HB isNil DA DG Dz DK DH NO O6 OF NS M3 Ke LY Mu Nl MR OE Nk Nb LT Nw Mv AV.fits AV.cells ones AV.one EP Bw EN DX Fb Ev Mm Fy GE CW Bd CB F7 GI AP BD Xd HU N6 Me List.getElem?_cons_zero List.getElem?_cons_succ FW FH F0 NB NM NI HW Ml MO NE Lz ML M6 Mg MU Nx O9 LP
theorem ZE (c i : Int) : APure Tryz.prog 20 [aI c, aI i] (aF (c, i)) := by
 refine A8 Tryz.func20 A5p rfl fun n H hH => ?_
 repeat' (first | simp -implicitDefEqProofs [c20, -getElem?_pos, aF, splice, AH, AK] | simp (disch := omega) only [A6] | (with_reducible first | exact AG | refine Ai ?_ | intro _g _hg | refine A5 ?_ ?_ | intro _hc) | omega)
theorem Ik (x a b : Int) : APure Tryz.prog 19 [aI x, aI a, aI b] (.bool (decide (a ≤ x) && decide (x ≤ b))) := by
 refine A8 Tryz.func19 A66 rfl fun n H hH => ?_
 repeat' (first | simp -implicitDefEqProofs [c19, -getElem?_pos, AH] | simp (disch := omega) only [A6] | (with_reducible first | exact AG | refine Dl ?_ | intro _g _hg | refine A5 ?_ ?_ | intro _hc) | omega)
def AW (x : Int) : Prop := 0 ≤ x ∧ x ≤ 9999
theorem Xs {x y : Int} (hx : AW x) (hy : AW y) : 0 ≤ x * y ∧ x * y ≤ 99980001 := by
 obtain ⟨x0, x1⟩ := hx
 obtain ⟨y0, y1⟩ := hy
 refine ⟨Int.mul_nonneg x0 y0, ?_⟩
 calc x * y ≤ 9999 * y := Int.mul_le_mul_of_nonneg_right x1 y0
  _ ≤ 9999 * 9999 := Int.mul_le_mul_of_nonneg_left y1 (by decide)
theorem OL (op x y : Int) (ho : 1 ≤ op ∧ op ≤ 6) (hx : AW x) (hy : AW y) (h0 : op = 6 → 1 ≤ y) : APure Tryz.prog 102 [aI op, aI x, aI y] (aI (CH op x y)) := by
 have hm := Xs hx hy
 obtain ⟨x0, x1⟩ := hx
 obtain ⟨y0, y1⟩ := hy
 refine A8 Tryz.func102 A3s rfl fun n H hH => ?_
 rcases (by omega : op = 1 ∨ op = 2 ∨ op = 3 ∨ op = 4 ∨ op = 5 ∨ op = 6) with rfl | rfl | rfl | rfl | rfl | rfl
 ·repeat' (first | simp -implicitDefEqProofs [Ea, El, EY, ER, Ee, TW, -getElem?_pos, AH, CH] | simp (disch := omega) only [A6] | (with_reducible first | exact AG | refine Dl ?_ | intro _g _hg | refine A5 ?_ ?_ | intro _hc) | omega)
 ·repeat' (first | simp -implicitDefEqProofs [Ea, El, EY, ER, Ee, TW, -getElem?_pos, AH, CH] | simp (disch := omega) only [A6] | (with_reducible first | exact AG | refine Dl ?_ | intro _g _hg | refine A5 ?_ ?_ | intro _hc) | omega)
 ·have hw : IntKind.i64.wrap (x * y) = x * y := IntWalk.i64_in _ (by omega)
  have ht : (x * y).tmod 10000 = x * y % 10000 := Int.tmod_eq_emod_of_nonneg hm.1
  repeat' (first | simp -implicitDefEqProofs [Ea, El, EY, ER, Ee, TW, -getElem?_pos, AH, CH, hw, ht] | simp (disch := omega) only [A6] | (with_reducible first | exact AG | refine Dl ?_ | intro _g _hg | refine A5 ?_ ?_ | intro _hc) | omega)
 ·repeat' (first | simp -implicitDefEqProofs [Ea, El, EY, ER, Ee, TW, -getElem?_pos, AH, CH] | simp (disch := omega) only [A6] | (with_reducible first | exact AG | refine Dl ?_ | intro _g _hg | refine A5 ?_ ?_ | intro _hc) | omega)
 ·repeat' (first | simp -implicitDefEqProofs [Ea, El, EY, ER, Ee, TW, -getElem?_pos, AH, CH] | simp (disch := omega) only [A6] | (with_reducible first | exact AG | refine Dl ?_ | intro _g _hg | refine A5 ?_ ?_ | intro _hc) | omega)
 ·have hy1 := h0 rfl
  have hyn : y ≠ 0 := by omega
  repeat' (first | simp -implicitDefEqProofs [Ea, El, EY, ER, Ee, TW, -getElem?_pos, AH, CH, hyn] | simp (disch := omega) only [A6] | (with_reducible first | exact AG | refine Dl ?_ | intro _g _hg | refine A5 ?_ ?_ | intro _hc) | omega)
theorem JN (op x y : Int) (ho : 1 ≤ op ∧ op ≤ 6) (hx : AW x) (hy : AW y) (h0 : op = 6 → 1 ≤ y) : APure Tryz.prog 80 [aI op, aI x, aI y] (aI (CH op x y)) := by
 have hm := Xs hx hy
 obtain ⟨x0, x1⟩ := hx
 obtain ⟨y0, y1⟩ := hy
 refine A8 Tryz.func80 A6b rfl fun n H hH => ?_
 rcases (by omega : op = 1 ∨ op = 2 ∨ op = 3 ∨ op = 4 ∨ op = 5 ∨ op = 6) with rfl | rfl | rfl | rfl | rfl | rfl
 ·repeat' (first | simp -implicitDefEqProofs [Ff, Fg, Fj, Fq, Fh, c80, -getElem?_pos, AH, CH] | simp (disch := omega) only [A6] | (with_reducible first | exact AG | refine Dl ?_ | intro _g _hg | refine A5 ?_ ?_ | intro _hc) | omega)
 ·repeat' (first | simp -implicitDefEqProofs [Ff, Fg, Fj, Fq, Fh, c80, -getElem?_pos, AH, CH] | simp (disch := omega) only [A6] | (with_reducible first | exact AG | refine Dl ?_ | intro _g _hg | refine A5 ?_ ?_ | intro _hc) | omega)
 ·have hw : IntKind.i64.wrap (x * y) = x * y := IntWalk.i64_in _ (by omega)
  have ht : (x * y).tmod 10000 = x * y % 10000 := Int.tmod_eq_emod_of_nonneg hm.1
  repeat' (first | simp -implicitDefEqProofs [Ff, Fg, Fj, Fq, Fh, c80, -getElem?_pos, AH, CH, hw, ht] | simp (disch := omega) only [A6] | (with_reducible first | exact AG | refine Dl ?_ | intro _g _hg | refine A5 ?_ ?_ | intro _hc) | omega)
 ·repeat' (first | simp -implicitDefEqProofs [Ff, Fg, Fj, Fq, Fh, c80, -getElem?_pos, AH, CH] | simp (disch := omega) only [A6] | (with_reducible first | exact AG | refine Dl ?_ | intro _g _hg | refine A5 ?_ ?_ | intro _hc) | omega)
 ·repeat' (first | simp -implicitDefEqProofs [Ff, Fg, Fj, Fq, Fh, c80, -getElem?_pos, AH, CH] | simp (disch := omega) only [A6] | (with_reducible first | exact AG | refine Dl ?_ | intro _g _hg | refine A5 ?_ ?_ | intro _hc) | omega)
 ·have hy1 := h0 rfl
  have hyn : y ≠ 0 := by omega
  repeat' (first | simp -implicitDefEqProofs [Ff, Fg, Fj, Fq, Fh, c80, -getElem?_pos, AH, CH, hyn] | simp (disch := omega) only [A6] | (with_reducible first | exact AG | refine Dl ?_ | intro _g _hg | refine A5 ?_ ?_ | intro _hc) | omega)
theorem RZ (op x y : Int) (ho : 1 ≤ op ∧ op ≤ 3) (hx : AW x) (hy : AW y) (h0 : op = 3 → 1 ≤ y) : APure Tryz.prog 108 [aI op, aI x, aI y] (.bool (FE op x y)) := by
 obtain ⟨x0, x1⟩ := hx
 obtain ⟨y0, y1⟩ := hy
 refine A8 Tryz.func108 A3q rfl fun n H hH => ?_
 rcases (by omega : op = 1 ∨ op = 2 ∨ op = 3) with rfl | rfl | rfl
 ·repeat' (first | simp -implicitDefEqProofs [Ib, Is, A0g, -getElem?_pos, AH, FE] | simp (disch := omega) only [A6] | (with_reducible first | exact AG | refine Dl ?_ | intro _g _hg | refine A5 ?_ ?_ | intro _hc) | omega)
  try all_goals (rw [Bool.eq_iff_iff]; simp only [decide_eq_true_eq, beq_iff_eq, Bool.or_eq_true, Bool.not_eq_true', decide_eq_false_iff_not]; try omega)
 ·repeat' (first | simp -implicitDefEqProofs [Ib, Is, A0g, -getElem?_pos, AH, FE] | simp (disch := omega) only [A6] | (with_reducible first | exact AG | refine Dl ?_ | intro _g _hg | refine A5 ?_ ?_ | intro _hc) | omega)
  try all_goals (rw [Bool.eq_iff_iff]; simp only [decide_eq_true_eq, beq_iff_eq, Bool.or_eq_true, Bool.not_eq_true', decide_eq_false_iff_not]; try omega)
 ·have hy1 := h0 rfl
  have hyn : y ≠ 0 := by omega
  repeat' (first | simp -implicitDefEqProofs [Ib, Is, A0g, -getElem?_pos, AH, FE, hyn] | simp (disch := omega) only [A6] | (with_reducible first | exact AG | refine Dl ?_ | intro _g _hg | refine A5 ?_ ?_ | intro _hc) | omega)
  all_goals (rw [Bool.eq_iff_iff]; simp only [decide_eq_true_eq, beq_iff_eq, Bool.or_eq_true, Bool.not_eq_true', decide_eq_false_iff_not]; try omega)
theorem PG (op x y : Int) (ho : 1 ≤ op ∧ op ≤ 3) (hx : AW x) (hy : AW y) (h0 : op = 3 → 1 ≤ y) : APure Tryz.prog 81 [aI op, aI x, aI y] (.bool (FE op x y)) := by
 obtain ⟨x0, x1⟩ := hx
 obtain ⟨y0, y1⟩ := hy
 refine A8 Tryz.func81 A4u rfl fun n H hH => ?_
 rcases (by omega : op = 1 ∨ op = 2 ∨ op = 3) with rfl | rfl | rfl
 ·repeat' (first | simp -implicitDefEqProofs [Kd, KF, c81, -getElem?_pos, AH, FE] | simp (disch := omega) only [A6] | (with_reducible first | exact AG | refine Dl ?_ | intro _g _hg | refine A5 ?_ ?_ | intro _hc) | omega)
  try all_goals (rw [Bool.eq_iff_iff]; simp only [decide_eq_true_eq, beq_iff_eq, Bool.or_eq_true, Bool.not_eq_true', decide_eq_false_iff_not]; try omega)
 ·repeat' (first | simp -implicitDefEqProofs [Kd, KF, c81, -getElem?_pos, AH, FE] | simp (disch := omega) only [A6] | (with_reducible first | exact AG | refine Dl ?_ | intro _g _hg | refine A5 ?_ ?_ | intro _hc) | omega)
  try all_goals (rw [Bool.eq_iff_iff]; simp only [decide_eq_true_eq, beq_iff_eq, Bool.or_eq_true, Bool.not_eq_true', decide_eq_false_iff_not]; try omega)
 ·have hy1 := h0 rfl
  have hyn : y ≠ 0 := by omega
  repeat' (first | simp -implicitDefEqProofs [Kd, KF, c81, -getElem?_pos, AH, FE, hyn] | simp (disch := omega) only [A6] | (with_reducible first | exact AG | refine Dl ?_ | intro _g _hg | refine A5 ?_ ?_ | intro _hc) | omega)
  all_goals (rw [Bool.eq_iff_iff]; simp only [decide_eq_true_eq, beq_iff_eq, Bool.or_eq_true, Bool.not_eq_true', decide_eq_false_iff_not]; try omega)
theorem PV (k : Int) : APure Tryz.prog 44 [aI k] (.bool (DY k)) := by
 refine A8 Tryz.func44 A5y rfl fun n H hH => ?_
 repeat' (first | simp -implicitDefEqProofs [c44, -getElem?_pos, AH, DY] | simp (disch := omega) only [A6] | (with_reducible first | exact AG | refine Dl ?_ | intro _g _hg | refine A5 ?_ ?_ | intro _hc) | omega)
 all_goals (rw [Bool.eq_iff_iff]; simp only [decide_eq_true_eq, beq_iff_eq, Bool.or_eq_true, Bool.not_eq_true', decide_eq_false_iff_not]; try omega)
theorem Jc (k : Int) : APure Tryz.prog 53 [aI k] (.bool (Sg k)) := by
 refine A8 Tryz.func53 A5i rfl fun n H hH => ?_
 repeat' (first | simp -implicitDefEqProofs [c53, -getElem?_pos, AH, Sg] | simp (disch := omega) only [A6] | (with_reducible first | exact AG | refine Dl ?_ | intro _g _hg | refine A5 ?_ ?_ | intro _hc) | omega)
 all_goals (rw [Bool.eq_iff_iff]; simp only [decide_eq_true_eq, beq_iff_eq, Bool.or_eq_true, Bool.not_eq_true', decide_eq_false_iff_not]; try omega)
theorem IP (k : Int) : APure Tryz.prog 55 [aI k] (.bool (Cj k)) := by
 refine A8 Tryz.func55 A5z rfl fun n H hH => ?_
 repeat' (first | simp -implicitDefEqProofs [c55, -getElem?_pos, AH, Cj] | simp (disch := omega) only [A6] | (with_reducible first | exact AG | refine Dl ?_ | intro _g _hg | refine A5 ?_ ?_ | intro _hc) | omega)
 all_goals (rw [Bool.eq_iff_iff]; simp only [decide_eq_true_eq, beq_iff_eq, Bool.or_eq_true, Bool.not_eq_true', decide_eq_false_iff_not]; try omega)
theorem IR (k : Int) : APure Tryz.prog 58 [aI k] (.bool (Kc k)) := by
 refine A8 Tryz.func58 A5h rfl fun n H hH => ?_
 repeat' (first | simp -implicitDefEqProofs [c58, -getElem?_pos, AH, Kc] | simp (disch := omega) only [A6] | (with_reducible first | exact AG | refine Dl ?_ | intro _g _hg | refine A5 ?_ ?_ | intro _hc) | omega)
 all_goals (rw [Bool.eq_iff_iff]; simp only [decide_eq_true_eq, beq_iff_eq, Bool.or_eq_true, Bool.not_eq_true', decide_eq_false_iff_not]; try omega)
theorem drop_at {α : Type} {l : List α} {k : Nat} {x : α} (h : l[k]? = some x) : l.drop k = x :: l.drop (k + 1) := by
 have hk := (List.getElem?_eq_some_iff.1 h).1
 rw [List.drop_eq_getElem_cons hk, (List.getElem?_eq_some_iff.1 h).2]
theorem Iu {α : Type} {f : α → AV} {l : List α} {k : Nat} {x : α} (h : l[k]? = some x) : (l.map f)[k]? = some (f x) := by
 rw [List.getElem?_map, h]; rfl
theorem AN (k o n : Int) (v : List Int) (p : List St) : encS (.mk k o n v p) = .agg [aI k, aI o, aI n, .sl 1 (v.map aI) .ro, .sl 5 (AZ p) .ro] := by rw [encS]
theorem Bn (p : List St) : (AZ p).length = p.length := by rw [JH]; simp
theorem VX {k : Int} {i : Nat} {v : List Int} {x : Int} (hx : v[i]? = some x) : B5 k i (v.drop i) = (Fw k i x && B5 k (i + 1) (v.drop (i + 1))) := by
 rw [drop_at hx, B5]
theorem SS {k : Int} {i : Nat} {v : List Int} (h : v.length ≤ i) : B5 k i (v.drop i) = true := by
 rw [List.drop_eq_nil_of_le h, B5]
theorem Fa (k o m : Int) (v : List Int) (p : List St) (g n0 n1 : Nat) (H H1 : A1) (q : H1 g = some (.cells 25 [aI k, aI o, aI m, .sl 1 (v.map aI) .ro, .sl 5 (AZ p) .ro])) (hn : n0 ≤ n1) (hs : SameB n0 H H1) (hvb : v.length ≤ 140737488355328) :
  LoopK (fun Q s => aw Tryz.prog c68_L6 Q s) (CD 0 (D6 (aw Tryz.prog c68_k1 (GD (aI (if B5 k 0 v = true then 0 else 4)) n0 H [.tmp 2])) (GD (aI (if B5 k 0 v = true then 0 else 4)) n0 H [.tmp 2]))) ⟨[(1, .ptr g 0), (3, aI k), (10, aI 0)], n1, H1⟩ := by
 refine LoopK.go (fun r s => ∃ i : Nat, i + r = v.length ∧ s = ⟨[(1, .ptr g 0), (3, aI k), (10, aI i)], n1, H1⟩ ∧ B5 k 0 v = B5 k i (v.drop i)) v.length ⟨0, by omega, rfl, rfl⟩ ?_
 rintro r s ⟨i, hi, rfl, hE⟩ J hJ
 by_cases hil : i < v.length
 ·obtain ⟨x, hx⟩ : ∃ x, v[i]? = some x := ⟨_, List.getElem?_eq_getElem hil⟩
  have hx' := Iu (f := aI) hx
  have hil' : (i : Int) < v.length := by omega
  have hvl : (v.map aI).length = v.length := by simp
  rw [VX hx] at hE
  generalize v.map aI = va at *
  have hin := fun a b => Ik x a b
  by_cases hv : Fw k i x = true
  ·rw [hv, Bool.true_and] at hE
   unfold Fw at hv
   by_cases hk : k = 2
   ·subst hk
    by_cases h1 : i = 1
    ·subst h1
     have hv : (decide (0 ≤ x) && decide (x ≤ 10000)) = true := by simpa using hv
     have hin := Ik x 0 10000
     rw [hv] at hin
     
     repeat' (first | simp -implicitDefEqProofs [DQ, DT, DO, DP, DU, DN, Bk, Bi, Bl, BL, BE, BP, BG, BK, BJ, Ud, -getElem?_pos, q, hx', hvl, hil'] | simp (disch := omega) only [A6] | ((with_reducible refine AO 19 ?_); refine' Aa (hin) ?_) | (with_reducible first | exact AG | refine Ai ?_ | intro _g _hg | refine A5 ?_ ?_ | intro _hc) | omega)
     exact hJ (r - 1) _ (by omega) ⟨2, by omega, rfl, hE⟩
    ·by_cases h2 : i = 2
     ·subst h2
      have hv : (decide (1 ≤ x) && decide (x ≤ 9999)) = true := by simpa using hv
      have hin := Ik x 1 9999
      rw [hv] at hin
      
      repeat' (first | simp -implicitDefEqProofs [DQ, DT, DO, DP, DU, DN, Bk, Bi, Bl, BL, BE, BP, BG, BK, BJ, Ud, -getElem?_pos, q, hx', hvl, hil'] | simp (disch := omega) only [A6] | ((with_reducible refine AO 19 ?_); refine' Aa (hin) ?_) | (with_reducible first | exact AG | refine Ai ?_ | intro _g _hg | refine A5 ?_ ?_ | intro _hc) | omega)
      exact hJ (r - 1) _ (by omega) ⟨3, by omega, rfl, hE⟩
     ·have hv : (decide (0 ≤ x) && decide (x ≤ 9999)) = true := by simpa [h1, h2] using hv
      have hin := Ik x 0 9999
      rw [hv] at hin
      have h1' : ¬ (i : Int) = 1 := by omega
      have h2' : ¬ (i : Int) = 2 := by omega
      
      repeat' (first | simp -implicitDefEqProofs [DQ, DT, DO, DP, DU, DN, Bk, Bi, Bl, BL, BE, BP, BG, BK, BJ, Ud, -getElem?_pos, q, hx', hvl, hil', h1', h2'] | simp (disch := omega) only [A6] | ((with_reducible refine AO 19 ?_); refine' Aa (hin) ?_) | (with_reducible first | exact AG | refine Ai ?_ | intro _g _hg | refine A5 ?_ ?_ | intro _hc) | omega)
      exact hJ (r - 1) _ (by omega) ⟨i + 1, by omega, rfl, hE⟩
   ·have hv : (decide (0 ≤ x) && decide (x ≤ 9999)) = true := by simpa [hk] using hv
    have hin := Ik x 0 9999
    rw [hv] at hin
    
    repeat' (first | simp -implicitDefEqProofs [DQ, DT, DO, DP, DU, DN, Bk, Bi, Bl, BL, BE, BP, BG, BK, BJ, Ud, -getElem?_pos, q, hx', hvl, hil', hk] | simp (disch := omega) only [A6] | ((with_reducible refine AO 19 ?_); refine' Aa (hin) ?_) | (with_reducible first | exact AG | refine Ai ?_ | intro _g _hg | refine A5 ?_ ?_ | intro _hc) | omega)
    exact hJ (r - 1) _ (by omega) ⟨i + 1, by omega, rfl, hE⟩
  ·have hv : Fw k i x = false := by simpa using hv
   rw [hv, Bool.false_and] at hE
   rw [hE]
   unfold Fw at hv
   by_cases hk : k = 2
   ·subst hk
    by_cases h1 : i = 1
    ·subst h1
     have hv : (decide (0 ≤ x) && decide (x ≤ 10000)) = false := by simpa using hv
     have hin := Ik x 0 10000
     rw [hv] at hin
     
     repeat' (first | simp -implicitDefEqProofs [DQ, DT, DO, DP, DU, DN, Bk, Bi, Bl, BL, BE, BP, BG, BK, BJ, Ud, -getElem?_pos, q, hx', hvl, hil', A4] | simp (disch := omega) only [A6] | ((with_reducible refine AO 19 ?_); refine' Aa (hin) ?_) | (with_reducible first | exact AG | refine Ai ?_ | intro _g _hg | refine A5 ?_ ?_ | intro _hc) | omega)
    ·by_cases h2 : i = 2
     ·subst h2
      have hv : (decide (1 ≤ x) && decide (x ≤ 9999)) = false := by simpa using hv
      have hin := Ik x 1 9999
      rw [hv] at hin
      
      repeat' (first | simp -implicitDefEqProofs [DQ, DT, DO, DP, DU, DN, Bk, Bi, Bl, BL, BE, BP, BG, BK, BJ, Ud, -getElem?_pos, q, hx', hvl, hil', A4] | simp (disch := omega) only [A6] | ((with_reducible refine AO 19 ?_); refine' Aa (hin) ?_) | (with_reducible first | exact AG | refine Ai ?_ | intro _g _hg | refine A5 ?_ ?_ | intro _hc) | omega)
     ·have hv : (decide (0 ≤ x) && decide (x ≤ 9999)) = false := by simpa [h1, h2] using hv
      have hin := Ik x 0 9999
      rw [hv] at hin
      have h1' : ¬ (i : Int) = 1 := by omega
      have h2' : ¬ (i : Int) = 2 := by omega
      
      repeat' (first | simp -implicitDefEqProofs [DQ, DT, DO, DP, DU, DN, Bk, Bi, Bl, BL, BE, BP, BG, BK, BJ, Ud, -getElem?_pos, q, hx', hvl, hil', h1', h2', A4] | simp (disch := omega) only [A6] | ((with_reducible refine AO 19 ?_); refine' Aa (hin) ?_) | (with_reducible first | exact AG | refine Ai ?_ | intro _g _hg | refine A5 ?_ ?_ | intro _hc) | omega)
   ·have hv : (decide (0 ≤ x) && decide (x ≤ 9999)) = false := by simpa [hk] using hv
    have hin := Ik x 0 9999
    rw [hv] at hin
    
    repeat' (first | simp -implicitDefEqProofs [DQ, DT, DO, DP, DU, DN, Bk, Bi, Bl, BL, BE, BP, BG, BK, BJ, Ud, -getElem?_pos, q, hx', hvl, hil', hk, A4] | simp (disch := omega) only [A6] | ((with_reducible refine AO 19 ?_); refine' Aa (hin) ?_) | (with_reducible first | exact AG | refine Ai ?_ | intro _g _hg | refine A5 ?_ ?_ | intro _hc) | omega)
 ·have hil' : ¬ (i : Int) < v.length := by omega
  rw [SS (by omega)] at hE
  rw [hE]
  
  repeat' (first | simp -implicitDefEqProofs [DQ, DT, DO, DP, DU, DN, Bk, Bi, Bl, BL, BE, BP, BG, BK, BJ, Ud, -getElem?_pos, q, hil', A4] | simp (disch := omega) only [A6] | (with_reducible first | exact AG | refine Ai ?_ | intro _g _hg | refine A5 ?_ ?_ | intro _hc) | omega)
theorem Bh {a b : Int} (h : b = a) : AH (aI a) (aI b) := by subst h; exact A4 _
set_option maxRecDepth 8000 in
theorem Zk (k o m : Int) (v : List Int) (p : List St) (hvb : v.length ≤ 140737488355328) (hk : k = 1 ∨ k = 3 ∨ k = 4 ∨ k = 5) : APure Tryz.prog 68 [encS (.mk k o m v p)] (aI (Bm (.mk k o m v p))) := by
 rw [AN]
 have hpl := Bn p
 obtain ⟨z, hz⟩ : ∃ z, Bm (.mk k o m v p) = z := ⟨_, rfl⟩
 obtain ⟨vb, hvv⟩ : ∃ b, B5 k 0 v = b := ⟨_, rfl⟩
 have hgo := Fa k o m v p
 rw [hz]
 rcases hk with rfl | rfl | rfl | rfl
 all_goals
  simp [Bm, DY, Hb, Oc, Sg, Cj, Kc, Pm, Io, Iv] at hz
  refine A8 Tryz.func68 TN rfl fun n H hH => ?_
  have hgo := fun g n1 H1 => hgo g n n1 H H1
  rw [hvv] at hgo
  repeat' (first | simp -implicitDefEqProofs [Ud, BJ, BK, BG, BP, BE, BL, Bl, Bi, Bk, -getElem?_pos, hpl, DY, Sg, Cj, Kc] | simp (disch := omega) only [A6] | ((with_reducible refine AO 19 ?_); refine' Aa (Ik _ _ _) ?_) | ((with_reducible refine AO 44 ?_); refine' Aa (PV _) ?_) | ((with_reducible refine AO 53 ?_); refine' Aa (Jc _) ?_) | ((with_reducible refine AO 55 ?_); refine' Aa (IP _) ?_) | ((with_reducible refine AO 58 ?_); refine' Aa (IR _) ?_) | (with_reducible first | exact AG | refine Ai ?_ | intro _g _hg | refine A5 ?_ ?_ | intro _hc) | omega)
  all_goals (try (refine Bh ?_; rw [← hz]; clear hz hvv hgo; (repeat' split) <;> first | rfl | (exfalso; simp_all; done) | (exfalso; simp_all; omega) | (exfalso; grind); done))
  all_goals (try (have hzz : z = (if vb = true then 0 else 4) := (by rw [← hz, ← hvv]; clear hz hvv hgo; simp_all; try omega); (rw [hzz]; exact hgo _ _ _ (AP _ _ _) (by omega) (fun k hk => upd_ne (by omega)) hvb)))
set_option maxRecDepth 8000 in
theorem ZI (k o m : Int) (v : List Int) (p : List St) (hvb : v.length ≤ 140737488355328) (hk : k = 2 ∨ k = 6 ∨ k = 7 ∨ k = 8) : APure Tryz.prog 68 [encS (.mk k o m v p)] (aI (Bm (.mk k o m v p))) := by
 rw [AN]
 have hpl := Bn p
 obtain ⟨z, hz⟩ : ∃ z, Bm (.mk k o m v p) = z := ⟨_, rfl⟩
 obtain ⟨vb, hvv⟩ : ∃ b, B5 k 0 v = b := ⟨_, rfl⟩
 have hgo := Fa k o m v p
 rw [hz]
 rcases hk with rfl | rfl | rfl | rfl
 all_goals
  simp [Bm, DY, Hb, Oc, Sg, Cj, Kc, Pm, Io, Iv] at hz
  refine A8 Tryz.func68 TN rfl fun n H hH => ?_
  have hgo := fun g n1 H1 => hgo g n n1 H H1
  rw [hvv] at hgo
  repeat' (first | simp -implicitDefEqProofs [Ud, BJ, BK, BG, BP, BE, BL, Bl, Bi, Bk, -getElem?_pos, hpl, DY, Sg, Cj, Kc] | simp (disch := omega) only [A6] | ((with_reducible refine AO 19 ?_); refine' Aa (Ik _ _ _) ?_) | ((with_reducible refine AO 44 ?_); refine' Aa (PV _) ?_) | ((with_reducible refine AO 53 ?_); refine' Aa (Jc _) ?_) | ((with_reducible refine AO 55 ?_); refine' Aa (IP _) ?_) | ((with_reducible refine AO 58 ?_); refine' Aa (IR _) ?_) | (with_reducible first | exact AG | refine Ai ?_ | intro _g _hg | refine A5 ?_ ?_ | intro _hc) | omega)
  all_goals (try (refine Bh ?_; rw [← hz]; clear hz hvv hgo; (repeat' split) <;> first | rfl | (exfalso; simp_all; done) | (exfalso; simp_all; omega) | (exfalso; grind); done))
  all_goals (try (have hzz : z = (if vb = true then 0 else 4) := (by rw [← hz, ← hvv]; clear hz hvv hgo; simp_all; try omega); (rw [hzz]; exact hgo _ _ _ (AP _ _ _) (by omega) (fun k hk => upd_ne (by omega)) hvb)))
set_option maxRecDepth 8000 in
theorem Z9 (k o m : Int) (v : List Int) (p : List St) (hvb : v.length ≤ 140737488355328) (hk : k = 9 ∨ k = 10 ∨ k = 11 ∨ k = 12) : APure Tryz.prog 68 [encS (.mk k o m v p)] (aI (Bm (.mk k o m v p))) := by
 rw [AN]
 have hpl := Bn p
 obtain ⟨z, hz⟩ : ∃ z, Bm (.mk k o m v p) = z := ⟨_, rfl⟩
 obtain ⟨vb, hvv⟩ : ∃ b, B5 k 0 v = b := ⟨_, rfl⟩
 have hgo := Fa k o m v p
 rw [hz]
 rcases hk with rfl | rfl | rfl | rfl
 all_goals
  simp [Bm, DY, Hb, Oc, Sg, Cj, Kc, Pm, Io, Iv] at hz
  refine A8 Tryz.func68 TN rfl fun n H hH => ?_
  have hgo := fun g n1 H1 => hgo g n n1 H H1
  rw [hvv] at hgo
  repeat' (first | simp -implicitDefEqProofs [Ud, BJ, BK, BG, BP, BE, BL, Bl, Bi, Bk, -getElem?_pos, hpl, DY, Sg, Cj, Kc] | simp (disch := omega) only [A6] | ((with_reducible refine AO 19 ?_); refine' Aa (Ik _ _ _) ?_) | ((with_reducible refine AO 44 ?_); refine' Aa (PV _) ?_) | ((with_reducible refine AO 53 ?_); refine' Aa (Jc _) ?_) | ((with_reducible refine AO 55 ?_); refine' Aa (IP _) ?_) | ((with_reducible refine AO 58 ?_); refine' Aa (IR _) ?_) | (with_reducible first | exact AG | refine Ai ?_ | intro _g _hg | refine A5 ?_ ?_ | intro _hc) | omega)
  all_goals (try (refine Bh ?_; rw [← hz]; clear hz hvv hgo; (repeat' split) <;> first | rfl | (exfalso; simp_all; done) | (exfalso; simp_all; omega) | (exfalso; grind); done))
  all_goals (try (have hzz : z = (if vb = true then 0 else 4) := (by rw [← hz, ← hvv]; clear hz hvv hgo; simp_all; try omega); (rw [hzz]; exact hgo _ _ _ (AP _ _ _) (by omega) (fun k hk => upd_ne (by omega)) hvb)))
set_option maxRecDepth 8000 in
theorem ZA (k o m : Int) (v : List Int) (p : List St) (hvb : v.length ≤ 140737488355328) (hk : k = 13 ∨ k = 14 ∨ k = 15 ∨ k = 16) : APure Tryz.prog 68 [encS (.mk k o m v p)] (aI (Bm (.mk k o m v p))) := by
 rw [AN]
 have hpl := Bn p
 obtain ⟨z, hz⟩ : ∃ z, Bm (.mk k o m v p) = z := ⟨_, rfl⟩
 obtain ⟨vb, hvv⟩ : ∃ b, B5 k 0 v = b := ⟨_, rfl⟩
 have hgo := Fa k o m v p
 rw [hz]
 rcases hk with rfl | rfl | rfl | rfl
 all_goals
  simp [Bm, DY, Hb, Oc, Sg, Cj, Kc, Pm, Io, Iv] at hz
  refine A8 Tryz.func68 TN rfl fun n H hH => ?_
  have hgo := fun g n1 H1 => hgo g n n1 H H1
  rw [hvv] at hgo
  repeat' (first | simp -implicitDefEqProofs [Ud, BJ, BK, BG, BP, BE, BL, Bl, Bi, Bk, -getElem?_pos, hpl, DY, Sg, Cj, Kc] | simp (disch := omega) only [A6] | ((with_reducible refine AO 19 ?_); refine' Aa (Ik _ _ _) ?_) | ((with_reducible refine AO 44 ?_); refine' Aa (PV _) ?_) | ((with_reducible refine AO 53 ?_); refine' Aa (Jc _) ?_) | ((with_reducible refine AO 55 ?_); refine' Aa (IP _) ?_) | ((with_reducible refine AO 58 ?_); refine' Aa (IR _) ?_) | (with_reducible first | exact AG | refine Ai ?_ | intro _g _hg | refine A5 ?_ ?_ | intro _hc) | omega)
  all_goals (try (refine Bh ?_; rw [← hz]; clear hz hvv hgo; (repeat' split) <;> first | rfl | (exfalso; simp_all; done) | (exfalso; simp_all; omega) | (exfalso; grind); done))
  all_goals (try (have hzz : z = (if vb = true then 0 else 4) := (by rw [← hz, ← hvv]; clear hz hvv hgo; simp_all; try omega); (rw [hzz]; exact hgo _ _ _ (AP _ _ _) (by omega) (fun k hk => upd_ne (by omega)) hvb)))
theorem RE (k o m : Int) (v : List Int) (p : List St) (hvb : v.length ≤ 140737488355328) : APure Tryz.prog 68 [encS (.mk k o m v p)] (aI (Bm (.mk k o m v p))) := by
 by_cases hk : 1 ≤ k ∧ k ≤ 16
 ·rcases (by omega : (k = 1 ∨ k = 3 ∨ k = 4 ∨ k = 5) ∨ (k = 2 ∨ k = 6 ∨ k = 7 ∨ k = 8) ∨ (k = 9 ∨ k = 10 ∨ k = 11 ∨ k = 12) ∨ (k = 13 ∨ k = 14 ∨ k = 15 ∨ k = 16)) with h | h | h | h
  ·exact Zk k o m v p hvb h
  ·exact ZI k o m v p hvb h
  ·exact Z9 k o m v p hvb h
  ·exact ZA k o m v p hvb h
 ·have hin := Ik k 1 16
  have : (decide (1 ≤ k) && decide (k ≤ 16)) = false := by simp; omega
  rw [this] at hin
  have hnc : Bm (.mk k o m v p) = 5 := by simp only [Bm]; rw [if_pos hk]
  rw [hnc, AN]
  
  refine A8 Tryz.func68 TN rfl fun n H hH => ?_
  repeat' (first | simp -implicitDefEqProofs [Ud, -getElem?_pos, A4] | simp (disch := omega) only [A6] | ((with_reducible refine AO 19 ?_); refine' Aa (hin) ?_) | (with_reducible first | exact AG | refine Ai ?_ | intro _g _hg | refine A5 ?_ ?_ | intro _hc) | omega)
structure Shq where
 w : R4
 parts : Int
 fn : Bool
 cd : Bool
 n0 : Int
 n1 : Int
 vs : Bool
abbrev shA (x : Shq) : AV := .agg [.str x.w, aI x.parts, .bool x.fn, .bool x.cd, aI x.n0, aI x.n1, .bool x.vs]
def A1t : List Shq := [
 ⟨[118, 97, 108, 117, 101, 115], 0, false, false, 0, 0, true⟩,
 ⟨[114, 97, 110, 103, 101], 0, false, false, 0, 0, true⟩,
 ⟨[109, 97, 112], 1, true, false, 0, 0, false⟩,
 ⟨[102, 105, 108, 116, 101, 114], 1, false, true, 0, 0, false⟩,
 ⟨[116, 97, 107, 101], 1, false, false, 0, 5000, false⟩,
 ⟨[100, 114, 111, 112], 1, false, false, 0, 5000, false⟩,
 ⟨[119, 104, 105, 108, 101], 1, false, true, 0, 0, false⟩,
 ⟨[115, 107, 105, 112], 1, false, true, 0, 0, false⟩,
 ⟨[115, 99, 97, 110], 1, true, false, 0, 0, false⟩,
 ⟨[119, 105, 110, 100, 111, 119], 1, true, false, 1, 8, false⟩,
 ⟨[114, 117, 110, 115], 1, false, false, 0, 0, false⟩,
 ⟨[114, 101, 112, 101, 97, 116], 1, false, false, 0, 20, false⟩,
 ⟨[99, 104, 97, 105, 110], -1, false, false, 0, 0, false⟩,
 ⟨[116, 117, 114, 110, 115], -1, false, false, 0, 0, false⟩,
 ⟨[122, 105, 112], 2, true, false, 0, 0, false⟩,
 ⟨[109, 101, 114, 103, 101], 2, false, false, 0, 0, false⟩]
def EW : List (AV × AV) := [
 (aI 1, .agg [.str [118, 97, 108, 117, 101, 115], aI 0, .bool false, .bool false, aI 0, aI 0, .bool true]),
 (aI 2, .agg [.str [114, 97, 110, 103, 101], aI 0, .bool false, .bool false, aI 0, aI 0, .bool true]),
 (aI 3, .agg [.str [109, 97, 112], aI 1, .bool true, .bool false, aI 0, aI 0, .bool false]),
 (aI 4, .agg [.str [102, 105, 108, 116, 101, 114], aI 1, .bool false, .bool true, aI 0, aI 0, .bool false]),
 (aI 5, .agg [.str [116, 97, 107, 101], aI 1, .bool false, .bool false, aI 0, aI 5000, .bool false]),
 (aI 6, .agg [.str [100, 114, 111, 112], aI 1, .bool false, .bool false, aI 0, aI 5000, .bool false]),
 (aI 7, .agg [.str [119, 104, 105, 108, 101], aI 1, .bool false, .bool true, aI 0, aI 0, .bool false]),
 (aI 8, .agg [.str [115, 107, 105, 112], aI 1, .bool false, .bool true, aI 0, aI 0, .bool false]),
 (aI 9, .agg [.str [115, 99, 97, 110], aI 1, .bool true, .bool false, aI 0, aI 0, .bool false]),
 (aI 10, .agg [.str [119, 105, 110, 100, 111, 119], aI 1, .bool true, .bool false, aI 1, aI 8, .bool false]),
 (aI 11, .agg [.str [114, 117, 110, 115], aI 1, .bool false, .bool false, aI 0, aI 0, .bool false]),
 (aI 12, .agg [.str [114, 101, 112, 101, 97, 116], aI 1, .bool false, .bool false, aI 0, aI 20, .bool false]),
 (aI 13, .agg [.str [99, 104, 97, 105, 110], aI (-1), .bool false, .bool false, aI 0, aI 0, .bool false]),
 (aI 14, .agg [.str [116, 117, 114, 110, 115], aI (-1), .bool false, .bool false, aI 0, aI 0, .bool false]),
 (aI 15, .agg [.str [122, 105, 112], aI 2, .bool true, .bool false, aI 0, aI 0, .bool false]),
 (aI 16, .agg [.str [109, 101, 114, 103, 101], aI 2, .bool false, .bool false, aI 0, aI 0, .bool false])]
theorem PP (k o m : Int) (v : List Int) (p : List St) (x : Shq) : APure Tryz.prog 93 [encS (.mk k o m v p), shA x] (.bool (if x.cd = true then decide (1 ≤ o) && decide (o ≤ 3) else if x.fn = true ∧ k = 3 then decide (1 ≤ o) && decide (o ≤ 6) else if x.fn = true then decide (1 ≤ o) && decide (o ≤ 5) else true)) := by
 rw [AN]
 obtain ⟨w, parts, fn, cd, n0, n1, vs⟩ := x
 refine A8 Tryz.func93 A4n rfl fun n H hH => ?_
 repeat' (first | simp -implicitDefEqProofs [Wh, We, W3, c93, -getElem?_pos, splice, AH] | simp (disch := omega) only [A6] | (with_reducible first | exact AG | refine Ai ?_ | intro _g _hg | refine A5 ?_ ?_ | intro _hc) | omega)
 all_goals grind
theorem Ol (k o m : Int) (v : List Int) (p : List St) (x : Shq) : APure Tryz.prog 94 [encS (.mk k o m v p), shA x] (.bool (if 0 < x.n1 then decide (x.n0 ≤ m) && decide (m ≤ x.n1) else decide ((if (x.cd = true ∧ o = 3) ∨ (x.fn = true ∧ o = 6) then 1 else 0) ≤ m) && decide (m ≤ 9999))) := by
 rw [AN]
 obtain ⟨w, parts, fn, cd, n0, n1, vs⟩ := x
 refine A8 Tryz.func94 A5t rfl fun n H hH => ?_
 repeat' (first | simp -implicitDefEqProofs [XB, XI, c94, -getElem?_pos, splice, AH] | simp (disch := omega) only [A6] | (with_reducible first | exact AG | refine Ai ?_ | intro _g _hg | refine A5 ?_ ?_ | intro _hc) | omega)
 all_goals grind
theorem Ss (k o m : Int) (v : List Int) (p : List St) (hvb : v.length ≤ 140737488355328) (h3 : k = 2 → v.length = 3) : APure Tryz.prog 95 [encS (.mk k o m v p)] (.bool (B5 k 0 v)) := by
 rw [AN]
 refine A8 Tryz.func95 A67 rfl fun n H hH => ?_
 repeat' (first | simp -implicitDefEqProofs [c95, -getElem?_pos, AH] | simp (disch := omega) only [A6] | (with_reducible first | exact AG | refine Ai ?_ | intro _g _hg | refine A5 ?_ ?_ | intro _hc) | omega)
 refine LoopK.go (fun r s => ∃ i : Nat, i + r = v.length ∧ s = ⟨[(1, .ptr _g 0), (8, .sl 1 (v.map aI) .ro), (9, aI v.length), (10, aI i)], _g + 1, upd H _g (some (.cells 25 [aI k, aI o, aI m, .sl 1 (v.map aI) .ro, .sl 5 (AZ p) .ro]))⟩ ∧ B5 k 0 v = B5 k i (v.drop i)) v.length ⟨0, by omega, by simp, rfl⟩ ?_
 rintro r s ⟨i, hi, rfl, hE⟩ J hJ
 by_cases hil : i < v.length
 ·obtain ⟨x, hx⟩ : ∃ x, v[i]? = some x := ⟨_, List.getElem?_eq_getElem hil⟩
  have hx' := Iu (f := aI) hx
  have hil' : (i : Int) < v.length := by omega
  have hvl : (v.map aI).length = v.length := by simp
  rw [VX hx] at hE
  generalize v.map aI = va at *
  by_cases hk : k = 2
  ·have h3 := h3 hk
   subst hk
   rcases (by omega : i = 0 ∨ i = 1 ∨ i = 2) with rfl | rfl | rfl
   all_goals (repeat' (first | simp -implicitDefEqProofs [KV, Kf, Ka, KJ, Jn, Jl, c95, -getElem?_pos, hx', hvl, hil', AH] | simp (disch := omega) only [A6] | (with_reducible first | exact AG | refine Ai ?_ | intro _g _hg | refine A5 ?_ ?_ | intro _hc) | omega))
   all_goals (first | (exact hJ (r - 1) _ (by omega) ⟨1, by omega, rfl, by rw [hE]; simp only [Fw]; grind⟩) | (exact hJ (r - 1) _ (by omega) ⟨2, by omega, rfl, by rw [hE]; simp only [Fw]; grind⟩) | (exact hJ (r - 1) _ (by omega) ⟨3, by omega, rfl, by rw [hE]; simp only [Fw]; grind⟩) | (rw [hE]; simp only [Fw]; grind) | skip)
  ·repeat' (first | simp -implicitDefEqProofs [KV, Kf, Ka, KJ, Jn, Jl, c95, -getElem?_pos, hx', hvl, hil', hk, AH] | simp (disch := omega) only [A6] | (with_reducible first | exact AG | refine Ai ?_ | intro _g _hg | refine A5 ?_ ?_ | intro _hc) | omega)
   all_goals (first | (exact hJ (r - 1) _ (by omega) ⟨i + 1, by omega, rfl, by rw [hE]; simp only [Fw]; grind⟩) | (rw [hE]; simp only [Fw]; grind) | skip)
 ·have hil' : ¬ (i : Int) < v.length := by omega
  rw [SS (by omega)] at hE
  rw [hE]
  repeat' (first | simp -implicitDefEqProofs [KV, Kf, Ka, KJ, Jn, Jl, c95, -getElem?_pos, hil', AH] | simp (disch := omega) only [A6] | (with_reducible first | exact AG | refine Ai ?_ | intro _g _hg | refine A5 ?_ ?_ | intro _hc) | omega)
set_option maxRecDepth 8000 in
theorem TK (n : Nat) (H : A1) : ACalls Tryz.prog 39 [] n H fun r n' H' => ∃ g, r = .mp g ∧ n ≤ g ∧ n' = g + 1 ∧ H' = upd H g (some (.map (some .i64) EW)) := by
 refine A2 Tryz.func39 A5b rfl fun hs => ?_
 repeat' (first | simp -implicitDefEqProofs [c39, -getElem?_pos] | simp (disch := omega) only [A6] | (with_reducible first | exact AG | refine A6i ?_ | intro _g _hg | refine A5 ?_ ?_ | intro _hc) | omega)
 simp only [JK]
 exact A9 (r := .mp _) rfl (by omega) (fun k hk => by rw [upd_ne (by omega)]; exact hs k (by omega)) ⟨_, rfl, by omega, rfl, rfl⟩
set_option maxRecDepth 8000 in
theorem A0i (k o m : Int) (v : List Int) (p : List St) (hvb : v.length ≤ 140737488355328) (hk : k = 1 ∨ k = 2 ∨ k = 3 ∨ k = 4 ∨ k = 5 ∨ k = 6 ∨ k = 7 ∨ k = 8) (g gs n : Nat) (at_ : Int) (H : A1) (hg : H g = some (.cells 70 [.mp gs, aI at_])) (hgs : H gs = some (.map (some .i64) EW)) : APureAt Tryz.prog 69 [.ptr g 0, encS (.mk k o m v p)] n H (aI (Bm (.mk k o m v p))) := by
 obtain ⟨z, hz⟩ : ∃ z, Bm (.mk k o m v p) = z := ⟨_, rfl⟩
 rw [hz]
 obtain ⟨x, hx, hfd⟩ : ∃ x, A1t[(k - 1).toNat]? = some x ∧ B9 (.int .i64 k) EW = some (shA x) := by
  rcases hk with rfl | rfl | rfl | rfl | rfl | rfl | rfl | rfl <;> exact ⟨_, rfl, rfl⟩
 have ho := PP k o m v p x
 have hn := Ol k o m v p x
 have hpl := Bn p
 have hva : v.length = 3 ∨ k ≠ 2 → APure Tryz.prog 95 [encS (.mk k o m v p)] (.bool (B5 k 0 v)) := fun h => Ss k o m v p hvb (fun e => by omega)
 rw [AN] at ho hn hva ⊢
 rcases hk with rfl | rfl | rfl | rfl | rfl | rfl | rfl | rfl
 all_goals
  simp [Bm, DY, Hb, Oc, Sg, Cj, Kc, Pm, Io, Iv] at hz
  refine CE Tryz.func69 YY rfl fun hH => ?_
  have hgn : g < n := by
   rcases Nat.lt_or_ge g n with h | h
   ·exact h
   ·rw [hH g h] at hg; cases hg
  have hsn : gs < n := by
   rcases Nat.lt_or_ge gs n with h | h
   ·exact h
   ·rw [hH gs h] at hgs; cases hgs
  generalize EW = sm at *
  simp [A1t] at hx
  subst hx
  simp only [shA] at ho hn hfd
  
  repeat' (first | simp -implicitDefEqProofs [K2, Ko, K3, Kr, c69, -getElem?_pos, hg, hgs, hfd, hpl, splice] | simp (disch := omega) only [A6] | ((with_reducible refine AO 93 ?_); refine' Aa (ho) ?_) | ((with_reducible refine AO 94 ?_); refine' Aa (hn) ?_) | ((with_reducible refine AO 95 ?_); refine' Aa ((hva (by omega))) ?_) | (with_reducible first | exact AG | refine Ai ?_ | intro _g _hg | refine A5 ?_ ?_ | intro _hc) | omega)
  all_goals (refine Bh ?_; first | grind | (rw [← hz]; clear hz; (repeat' split) <;> first | rfl | (exfalso; simp_all; done) | (exfalso; simp_all; omega) | (exfalso; grind)))
set_option maxRecDepth 8000 in
theorem A1k (k o m : Int) (v : List Int) (p : List St) (hvb : v.length ≤ 140737488355328) (hk : k = 9 ∨ k = 10 ∨ k = 11 ∨ k = 12 ∨ k = 13 ∨ k = 14 ∨ k = 15 ∨ k = 16) (g gs n : Nat) (at_ : Int) (H : A1) (hg : H g = some (.cells 70 [.mp gs, aI at_])) (hgs : H gs = some (.map (some .i64) EW)) : APureAt Tryz.prog 69 [.ptr g 0, encS (.mk k o m v p)] n H (aI (Bm (.mk k o m v p))) := by
 obtain ⟨z, hz⟩ : ∃ z, Bm (.mk k o m v p) = z := ⟨_, rfl⟩
 rw [hz]
 obtain ⟨x, hx, hfd⟩ : ∃ x, A1t[(k - 1).toNat]? = some x ∧ B9 (.int .i64 k) EW = some (shA x) := by
  rcases hk with rfl | rfl | rfl | rfl | rfl | rfl | rfl | rfl <;> exact ⟨_, rfl, rfl⟩
 have ho := PP k o m v p x
 have hn := Ol k o m v p x
 have hpl := Bn p
 have hva : v.length = 3 ∨ k ≠ 2 → APure Tryz.prog 95 [encS (.mk k o m v p)] (.bool (B5 k 0 v)) := fun h => Ss k o m v p hvb (fun e => by omega)
 rw [AN] at ho hn hva ⊢
 rcases hk with rfl | rfl | rfl | rfl | rfl | rfl | rfl | rfl
 all_goals
  simp [Bm, DY, Hb, Oc, Sg, Cj, Kc, Pm, Io, Iv] at hz
  refine CE Tryz.func69 YY rfl fun hH => ?_
  have hgn : g < n := by
   rcases Nat.lt_or_ge g n with h | h
   ·exact h
   ·rw [hH g h] at hg; cases hg
  have hsn : gs < n := by
   rcases Nat.lt_or_ge gs n with h | h
   ·exact h
   ·rw [hH gs h] at hgs; cases hgs
  generalize EW = sm at *
  simp [A1t] at hx
  subst hx
  simp only [shA] at ho hn hfd
  
  repeat' (first | simp -implicitDefEqProofs [K2, Ko, K3, Kr, c69, -getElem?_pos, hg, hgs, hfd, hpl, splice] | simp (disch := omega) only [A6] | ((with_reducible refine AO 93 ?_); refine' Aa (ho) ?_) | ((with_reducible refine AO 94 ?_); refine' Aa (hn) ?_) | ((with_reducible refine AO 95 ?_); refine' Aa ((hva (by omega))) ?_) | (with_reducible first | exact AG | refine Ai ?_ | intro _g _hg | refine A5 ?_ ?_ | intro _hc) | omega)
  all_goals (refine Bh ?_; first | grind | (rw [← hz]; clear hz; (repeat' split) <;> first | rfl | (exfalso; simp_all; done) | (exfalso; simp_all; omega) | (exfalso; grind)))
end Go.Proofs.YtjdccdelcnmocaaGreatDoor
