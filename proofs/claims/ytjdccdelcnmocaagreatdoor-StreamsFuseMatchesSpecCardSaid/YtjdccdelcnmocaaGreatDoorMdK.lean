/- That the library texts at this seat are those that the contracts of the shelf speak of; no condition. -/
import Derived.Test.YtjdccdelcnmocaaGreatDoorMgJ
import Derived.Shelf.Strings.Fields
import Derived.Shelf.Strconv.Itoa3
import Derived.Shelf.Strings.OnBuilder
import Derived.Test.YtjdccdelcnmocaaGreatDoorProg
import Derived.Test.YtjdccdelcnmocaaGreatDoorMgA
import Derived.Test.YtjdccdelcnmocaaGreatDoorMgI
import Derived.Test.YtjdccdelcnmocaaGreatDoorAdE
set_option linter.all false
set_option linter.unusedSimpArgs false
set_option linter.unusedVariables false
set_option maxHeartbeats 16000000
namespace Go.Proofs.YtjdccdelcnmocaaGreatDoor
open Go.Shelf
def L3 : Go.Shelf.Ren := ⟨fun | 171 => 120 | 243 => 140 | 246 => 149 | 283 => 155 | 284 => 156 | 285 => 157 | 286 => 158 | 129 => 167 | 317 => 166 | 318 => 168 | 319 => 169 | 320 => 170 | 337 => 174 | 338 => 175 | n => n, fun | 3 => 3 | 9 => 9 | 2 => 2 | 4 => 4 | 171 => 159 | 0 => 0 | 53 => 160 | 37 => 127 | 5 => 5 | 173 => 163 | 212 => 184 | 51 => 156 | 20 => 20 | 213 => 185 | 46 => 186 | 232 => 201 | 233 => 202 | n => n, fun | 17 => 3 | 18 => 6 | 19 => 7 | n => n⟩
theorem TM : Go.Proofs.LaysM.n171 Tryz.prog L3 := {
 mixed := by kernel_rfl
 f129 := Tryz.func167.trans (congrArg some (by kernel_rfl))
 f171 := Tryz.func120.trans (congrArg some (by kernel_rfl))
 f243 := Tryz.func140.trans (congrArg some (by kernel_rfl))
 f246 := Tryz.func149.trans (congrArg some (by kernel_rfl))
 f283 := Tryz.func155.trans (congrArg some (by kernel_rfl))
 f284 := Tryz.func156.trans (congrArg some (by kernel_rfl))
 f285 := Tryz.func157.trans (congrArg some (by kernel_rfl))
 f286 := Tryz.func158.trans (congrArg some (by kernel_rfl))
 f317 := Tryz.func166.trans (congrArg some (by kernel_rfl))
 f318 := Tryz.func168.trans (congrArg some (by kernel_rfl))
 f319 := Tryz.func169.trans (congrArg some (by kernel_rfl))
 f320 := Tryz.func170.trans (congrArg some (by kernel_rfl))
 f337 := Tryz.func174.trans (congrArg some (by kernel_rfl))
 f338 := Tryz.func175.trans (congrArg some (by kernel_rfl))
 t0 := Tryz.underlying0
 a0 := Tryz.isAgg0
 z0 := Tryz.sizeOf0
 v0 := Tryz.zeroValue0
 t2 := Tryz.underlying2
 a2 := Tryz.isAgg2
 z2 := Tryz.sizeOf2
 v2 := Tryz.zeroValue2
 t3 := Tryz.underlying3
 a3 := Tryz.isAgg3
 z3 := Tryz.sizeOf3
 v3 := Tryz.zeroValue3
 t4 := Tryz.underlying4
 a4 := Tryz.isAgg4
 z4 := Tryz.sizeOf4
 v4 := Tryz.zeroValue4
 t5 := Tryz.underlying5
 a5 := Tryz.isAgg5
 z5 := Tryz.sizeOf5
 v5 := Tryz.zeroValue5
 t9 := Tryz.underlying9
 a9 := Tryz.isAgg9
 z9 := Tryz.sizeOf9
 v9 := Tryz.zeroValue9
 t20 := Tryz.underlying20
 a20 := Tryz.isAgg20
 z20 := Tryz.sizeOf20
 v20 := Tryz.zeroValue20
 t37 := Tryz.underlying127
 a37 := Tryz.isAgg127
 z37 := Tryz.sizeOf127
 v37 := Tryz.zeroValue127
 t46 := Tryz.underlying186
 a46 := Tryz.isAgg186
 z46 := Tryz.sizeOf186
 v46 := Tryz.zeroValue186
 t51 := Tryz.underlying156
 a51 := Tryz.isAgg156
 z51 := Tryz.sizeOf156
 v51 := Tryz.zeroValue156
 t53 := Tryz.underlying160
 a53 := Tryz.isAgg160
 z53 := Tryz.sizeOf160
 v53 := Tryz.zeroValue160
 t171 := Tryz.underlying159
 a171 := Tryz.isAgg159
 z171 := Tryz.sizeOf159
 v171 := Tryz.zeroValue159
 t173 := Tryz.underlying163
 a173 := Tryz.isAgg163
 z173 := Tryz.sizeOf163
 v173 := Tryz.zeroValue163
 t212 := Tryz.underlying184
 a212 := Tryz.isAgg184
 z212 := Tryz.sizeOf184
 v212 := Tryz.zeroValue184
 t213 := Tryz.underlying185
 a213 := Tryz.isAgg185
 z213 := Tryz.sizeOf185
 t232 := Tryz.underlying201
 a232 := Tryz.isAgg201
 z232 := Tryz.sizeOf201
 v232 := Tryz.zeroValue201
 t233 := Tryz.underlying202
 a233 := Tryz.isAgg202
 z233 := Tryz.sizeOf202
 v233 := Tryz.zeroValue202
 g17 := by kernel_rfl
 g18 := by kernel_rfl
 g19 := by kernel_rfl
 i0 := by kernel_rfl
 i2 := by kernel_rfl
 i3 := by kernel_rfl
 i4 := by kernel_rfl
 i5 := by kernel_rfl
 i9 := by kernel_rfl
 i20 := by kernel_rfl
 i37 := by kernel_rfl
 i46 := by kernel_rfl
 i51 := by kernel_rfl
 i53 := by kernel_rfl
 i171 := by kernel_rfl
 i173 := by kernel_rfl
 i212 := by kernel_rfl
 i232 := by kernel_rfl
 i233 := by kernel_rfl
 m17 := by kernel_rfl
 m18 := by kernel_rfl
 m19 := by kernel_rfl }
def Ij : Go.Shelf.Ren := ⟨fun | 156 => 83 | 165 => 121 | 166 => 122 | 169 => 123 | 240 => 141 | 241 => 142 | 276 => 150 | 277 => 151 | n => n, fun | 31 => 87 | 9 => 9 | 3 => 3 | 4 => 4 | 0 => 0 | 20 => 20 | 72 => 129 | 76 => 133 | 70 => 126 | 37 => 127 | 75 => 132 | 127 => 143 | 164 => 149 | 5 => 5 | 80 => 112 | n => n, fun | n => n⟩
theorem Rg : Go.Proofs.Lays.n156 Tryz.prog Ij := {
 mixed := by kernel_rfl
 f156 := Tryz.func83.trans (congrArg some (by kernel_rfl))
 f165 := Tryz.func121.trans (congrArg some (by kernel_rfl))
 f166 := Tryz.func122.trans (congrArg some (by kernel_rfl))
 f169 := Tryz.func123.trans (congrArg some (by kernel_rfl))
 f240 := Tryz.func141.trans (congrArg some (by kernel_rfl))
 f241 := Tryz.func142.trans (congrArg some (by kernel_rfl))
 f276 := Tryz.func150.trans (congrArg some (by kernel_rfl))
 f277 := Tryz.func151.trans (congrArg some (by kernel_rfl))
 t0 := Tryz.underlying0
 a0 := Tryz.isAgg0
 z0 := Tryz.sizeOf0
 v0 := Tryz.zeroValue0
 t3 := Tryz.underlying3
 a3 := Tryz.isAgg3
 z3 := Tryz.sizeOf3
 v3 := Tryz.zeroValue3
 t4 := Tryz.underlying4
 a4 := Tryz.isAgg4
 z4 := Tryz.sizeOf4
 v4 := Tryz.zeroValue4
 t9 := Tryz.underlying9
 a9 := Tryz.isAgg9
 z9 := Tryz.sizeOf9
 v9 := Tryz.zeroValue9
 t20 := Tryz.underlying20
 a20 := Tryz.isAgg20
 z20 := Tryz.sizeOf20
 v20 := Tryz.zeroValue20
 t31 := Tryz.underlying87
 a31 := Tryz.isAgg87
 z31 := Tryz.sizeOf87
 v31 := Tryz.zeroValue87
 t37 := Tryz.underlying127
 a37 := Tryz.isAgg127
 z37 := Tryz.sizeOf127
 v37 := Tryz.zeroValue127
 t70 := Tryz.underlying126
 a70 := Tryz.isAgg126
 z70 := Tryz.sizeOf126
 v70 := Tryz.zeroValue126
 t72 := Tryz.underlying129
 a72 := Tryz.isAgg129
 z72 := Tryz.sizeOf129
 v72 := Tryz.zeroValue129
 t75 := Tryz.underlying132
 a75 := Tryz.isAgg132
 z75 := Tryz.sizeOf132
 v75 := Tryz.zeroValue132
 t76 := Tryz.underlying133
 a76 := Tryz.isAgg133
 z76 := Tryz.sizeOf133
 v76 := Tryz.zeroValue133
 t127 := Tryz.underlying143
 a127 := Tryz.isAgg143
 z127 := Tryz.sizeOf143
 v127 := Tryz.zeroValue143
 t164 := Tryz.underlying149
 a164 := Tryz.isAgg149
 z164 := Tryz.sizeOf149
 v164 := Tryz.zeroValue149 }
theorem EC : Builder.Extra Tryz.prog Ij := {
 sizeBuilder := by kernel_rfl
 liesBuilder := by kernel_rfl
 t5 := Tryz.underlying5
 a5 := Tryz.isAgg5
 z5 := Tryz.sizeOf5
 v5 := Tryz.zeroValue5
 infoByte := by kernel_rfl
 cellsByte := by kernel_rfl
 sizeByte := by kernel_rfl
 neB5 := by decide }
def P7 : Go.Shelf.Ren := ⟨fun | 157 => 139 | 229 => 147 | 199 => 148 | 261 => 154 | 311 => 164 | 312 => 165 | n => n, fun | 9 => 9 | 31 => 87 | 3 => 3 | 5 => 5 | 4 => 4 | 119 => 145 | 0 => 0 | 40 => 147 | 152 => 153 | 21 => 21 | 154 => 155 | 51 => 156 | 141 => 158 | 196 => 174 | 193 => 171 | 198 => 177 | 49 => 175 | 194 => 172 | 201 => 180 | 226 => 194 | 46 => 186 | 227 => 195 | n => n, fun | 0 => 0 | 6 => 1 | n => n⟩
theorem VN : Go.Proofs.Lays.n157 Tryz.prog P7 := {
 mixed := by kernel_rfl
 f157 := Tryz.func139.trans (congrArg some (by kernel_rfl))
 f199 := Tryz.func148.trans (congrArg some (by kernel_rfl))
 f229 := Tryz.func147.trans (congrArg some (by kernel_rfl))
 f261 := Tryz.func154.trans (congrArg some (by kernel_rfl))
 f311 := Tryz.func164.trans (congrArg some (by kernel_rfl))
 f312 := Tryz.func165.trans (congrArg some (by kernel_rfl))
 t0 := Tryz.underlying0
 a0 := Tryz.isAgg0
 z0 := Tryz.sizeOf0
 v0 := Tryz.zeroValue0
 t3 := Tryz.underlying3
 a3 := Tryz.isAgg3
 z3 := Tryz.sizeOf3
 v3 := Tryz.zeroValue3
 t4 := Tryz.underlying4
 a4 := Tryz.isAgg4
 z4 := Tryz.sizeOf4
 v4 := Tryz.zeroValue4
 t5 := Tryz.underlying5
 a5 := Tryz.isAgg5
 z5 := Tryz.sizeOf5
 v5 := Tryz.zeroValue5
 t9 := Tryz.underlying9
 a9 := Tryz.isAgg9
 z9 := Tryz.sizeOf9
 v9 := Tryz.zeroValue9
 t21 := Tryz.underlying21
 a21 := Tryz.isAgg21
 z21 := Tryz.sizeOf21
 v21 := Tryz.zeroValue21
 t31 := Tryz.underlying87
 a31 := Tryz.isAgg87
 z31 := Tryz.sizeOf87
 v31 := Tryz.zeroValue87
 t40 := Tryz.underlying147
 a40 := Tryz.isAgg147
 z40 := Tryz.sizeOf147
 v40 := Tryz.zeroValue147
 t46 := Tryz.underlying186
 a46 := Tryz.isAgg186
 z46 := Tryz.sizeOf186
 v46 := Tryz.zeroValue186
 t49 := Tryz.underlying175
 a49 := Tryz.isAgg175
 z49 := Tryz.sizeOf175
 v49 := Tryz.zeroValue175
 t51 := Tryz.underlying156
 a51 := Tryz.isAgg156
 z51 := Tryz.sizeOf156
 v51 := Tryz.zeroValue156
 t119 := Tryz.underlying145
 a119 := Tryz.isAgg145
 z119 := Tryz.sizeOf145
 t141 := Tryz.underlying158
 a141 := Tryz.isAgg158
 z141 := Tryz.sizeOf158
 v141 := Tryz.zeroValue158
 t152 := Tryz.underlying153
 a152 := Tryz.isAgg153
 z152 := Tryz.sizeOf153
 v152 := Tryz.zeroValue153
 t154 := Tryz.underlying155
 a154 := Tryz.isAgg155
 z154 := Tryz.sizeOf155
 v154 := Tryz.zeroValue155
 t193 := Tryz.underlying171
 a193 := Tryz.isAgg171
 z193 := Tryz.sizeOf171
 v193 := Tryz.zeroValue171
 t194 := Tryz.underlying172
 a194 := Tryz.isAgg172
 z194 := Tryz.sizeOf172
 v194 := Tryz.zeroValue172
 t196 := Tryz.underlying174
 a196 := Tryz.isAgg174
 z196 := Tryz.sizeOf174
 v196 := Tryz.zeroValue174
 t198 := Tryz.underlying177
 a198 := Tryz.isAgg177
 z198 := Tryz.sizeOf177
 v198 := Tryz.zeroValue177
 t201 := Tryz.underlying180
 a201 := Tryz.isAgg180
 z201 := Tryz.sizeOf180
 v201 := Tryz.zeroValue180
 t226 := Tryz.underlying194
 a226 := Tryz.isAgg194
 z226 := Tryz.sizeOf194
 v226 := Tryz.zeroValue194
 t227 := Tryz.underlying195
 a227 := Tryz.isAgg195
 z227 := Tryz.sizeOf195
 v227 := Tryz.zeroValue195
 g0 := by kernel_rfl
 g6 := by kernel_rfl }
abbrev WV := List UInt8
abbrev aI (n : Int) : AV := .int .i64 n
abbrev aF (f : Int × Int) : AV := .agg [.int .i64 f.1, .int .i64 f.2]
abbrev N6 (l : List Int) : AV := .sl 1 (l.map aI) .ro
inductive St where
 | mk (k o n : Int) (v : List Int) (p : List St)
def St.k : St → Int | .mk k _ _ _ _ => k
def St.o : St → Int | .mk _ o _ _ _ => o
def St.n : St → Int | .mk _ _ n _ _ => n
def St.v : St → List Int | .mk _ _ _ v _ => v
def St.p : St → List St | .mk _ _ _ _ p => p
mutual
theorem St.ind {Q : St → Prop} (h : ∀ k o n v p, (∀ s ∈ p, Q s) → Q (.mk k o n v p)) : ∀ s, Q s
 | .mk k o n v p => h k o n v p (St.indL h p)
theorem St.indL {Q : St → Prop} (h : ∀ k o n v p, (∀ s ∈ p, Q s) → Q (.mk k o n v p)) : ∀ p : List St, ∀ s ∈ p, Q s
 | [], s, hs => by cases hs
 | x :: r, s, hs => by
  rcases List.mem_cons.1 hs with e | hs
  ·rw [e]; exact St.ind h x
  ·exact St.indL h r s hs
end
mutual
def encS : St → AV
 | .mk k o n v p => .agg [aI k, aI o, aI n, N6 v, .sl 5 (AD p) .ro]
def AD : List St → List AV
 | [] => []
 | s :: r => encS s :: AD r
end
theorem E2 : ∀ p : List St, AD p = p.map encS
 | [] => by simp [AD]
 | s :: r => by simp [AD, E2 r]
mutual
def An : St → Nat
 | .mk _ _ _ _ p => Bm p + 1
def Bm : List St → Nat
 | [] => 0
 | s :: r => An s + Bm r
end
theorem Jb (s : St) : 0 < An s := by cases s; simp [An]
def Cl (k : Int) : Bool := decide (k = 1) || decide (k = 2)
def Eq (k : Int) : Bool := decide (k = 13) || decide (k = 14)
def I8 (k : Int) : Bool := decide (k = 15) || decide (k = 16)
def Kr (k : Int) : Bool := decide (k = 3) || decide (k = 9) || decide (k = 10) || decide (k = 15)
def Cq (k : Int) : Bool := decide (k = 4) || decide (k = 7) || decide (k = 8)
def G4 (k : Int) : Bool := decide (k = 5) || decide (k = 6) || decide (k = 12)
def EP (k : Int) : Bool := (Kr k && decide (k ≠ 15)) || Cq k || G4 k
def Jn (k o : Int) : Int := if k = 10 then 1 else if (k = 3 ∧ o = 6) ∨ (Cq k = true ∧ o = 3) then 1 else 0
def Jq (k : Int) : Int := if k = 12 then 20 else if k = 5 ∨ k = 6 then 5000 else if k = 10 then 8 else 9999
def EH (k : Int) (i : Nat) (x : Int) : Bool := decide ((if k = 2 ∧ i = 2 then 1 else 0) ≤ x) && decide (x ≤ if k = 2 ∧ i = 1 then 10000 else 9999)
def BS (k : Int) : Nat → List Int → Bool
 | _, [] => true
 | i, x :: r => EH k i x && BS k (i + 1) r
def Bp : St → Int
 | .mk k o n v p =>
  if ¬ (1 ≤ k ∧ k ≤ 16) then 5
  else if (Cl k = true ∧ p.length ≠ 0) ∨ (Eq k = true ∧ p.length = 0) ∨ (I8 k = true ∧ p.length ≠ 2) ∨ (Cl k = false ∧ Eq k = false ∧ I8 k = false ∧ p.length ≠ 1) ∨ (k = 2 ∧ v.length ≠ 3) then 9
  else if (Cl k = false ∧ v.length ≠ 0) ∨ (EP k = false ∧ n ≠ 0) ∨ (Kr k = false ∧ Cq k = false ∧ o ≠ 0) then 6
  else if (Kr k = true ∧ ¬ (1 ≤ o ∧ o ≤ 5) ∧ ¬ (k = 3 ∧ o = 6)) ∨ (Cq k = true ∧ ¬ (1 ≤ o ∧ o ≤ 3)) then 4
  else if EP k = true ∧ ¬ (Jn k o ≤ n ∧ n ≤ Jq k) then 4
  else if BS k 0 v = true then 0 else 4
mutual
def DH : St → Nat → Nat × Int
 | .mk k o n v p, i => if 60 ≤ i then (i, 2) else if Bp (.mk k o n v p) ≠ 0 then (i, Bp (.mk k o n v p)) else Gq p (i + 1)
def Gq : List St → Nat → Nat × Int
 | [], i => (i, 0)
 | s :: r, i => if (DH s i).2 ≠ 0 then DH s i else Gq r (DH s i).1
end
def Gj : List Int → Nat
 | a :: b :: c :: _ => ((b - a + c - 1) / c).toNat
 | _ => 0
def C2 (k n : Int) (v : List Int) (bs : List Nat) : Nat :=
 if k = 1 then v.length else if k = 2 then Gj v else if k = 5 then min n.toNat (bs.getD 0 0) else if k = 12 then n.toNat * bs.getD 0 0 else if k = 15 then min (bs.getD 0 0) (bs.getD 1 0) else bs.sum
mutual
def Ah : St → Nat
 | .mk k _ n v p => C2 k n v (CR p)
def CR : List St → List Nat
 | [] => []
 | s :: r => Ah s :: CR r
end
theorem E4 : ∀ p : List St, CR p = p.map Ah
 | [] => by simp [CR]
 | s :: r => by simp [CR, E4 r]
mutual
def DG : St → Nat → Nat × Int
 | .mk k o n v p, i => ((E9 p (i + 1)).1, if 5000 < Ah (.mk k o n v p) then (i : Int) else (E9 p (i + 1)).2)
def E9 : List St → Nat → Nat × Int
 | [], i => (i, -1)
 | s :: r, i => ((E9 r (DG s i).1).1, if (DG s i).2 < 0 then (E9 r (DG s i).1).2 else (DG s i).2)
end
def GT (s : St) : Int × Int := if (DH s 0).2 ≠ 0 then ((DH s 0).2, ((DH s 0).1 : Int)) else if 0 ≤ (DG s 0).2 then (14, (DG s 0).2) else (0, 0)
mutual
def Gz : St → Prop
 | .mk k o n v p => Bp (.mk k o n v p) = 0 ∧ S8 p
def S8 : List St → Prop
 | [] => True
 | s :: r => Gz s ∧ S8 r
end
mutual
def KR : St → Prop
 | .mk k o n v p => Ah (.mk k o n v p) ≤ 5000 ∧ Qh p
def Qh : List St → Prop
 | [] => True
 | s :: r => KR s ∧ Qh r
end
theorem Cm : ∀ {p : List St}, S8 p → ∀ s ∈ p, Gz s
 | [], _, s, h => by cases h
 | x :: r, h, s, hs => by
  rcases List.mem_cons.1 hs with e | hs
  ·rw [e]; exact h.1
  ·exact Cm h.2 s hs
theorem GB : ∀ {p : List St}, Qh p → ∀ s ∈ p, KR s
 | [], _, s, h => by cases h
 | x :: r, h, s, hs => by
  rcases List.mem_cons.1 hs with e | hs
  ·rw [e]; exact h.1
  ·exact GB h.2 s hs
mutual
theorem ID : ∀ (s : St) (i : Nat), (DH s i).2 = 0 → Gz s ∧ (DH s i).1 = i + An s ∧ (DH s i).1 ≤ 60
 | .mk k o n v p, i, h => by
  simp only [DH] at h ⊢
  split at h
  ·cases h
  ·split at h
   ·rename_i h1; exact absurd h h1
   ·rename_i h0 h1
    rw [if_neg h0, if_neg h1]
    obtain ⟨h2, h3, h4⟩ := Rj p (i + 1) (by omega) h
    exact ⟨⟨by omega, h2⟩, by rw [h3]; simp only [An]; omega, h4⟩
theorem Rj : ∀ (p : List St) (i : Nat), i ≤ 60 → (Gq p i).2 = 0 → S8 p ∧ (Gq p i).1 = i + Bm p ∧ (Gq p i).1 ≤ 60
 | [], i, hi, _ => ⟨trivial, rfl, hi⟩
 | s :: r, i, hi, h => by
  simp only [Gq] at h ⊢
  split at h
  ·rename_i h1; exact absurd h h1
  ·rename_i h1
   rw [if_neg h1]
   obtain ⟨h2, h3, h6⟩ := ID s i (by omega)
   obtain ⟨h4, h5, h7⟩ := Rj r _ h6 h
   exact ⟨⟨h2, h4⟩, by rw [h5, h3]; simp only [Bm]; omega, h7⟩
end
mutual
theorem Jm : ∀ (s : St) (i : Nat), (DG s i).1 = i + An s
 | .mk k o n v p, i => by simp only [DG, I2 p, An]; omega
theorem I2 : ∀ (p : List St) (i : Nat), (E9 p i).1 = i + Bm p
 | [], i => rfl
 | s :: r, i => by simp only [E9, I2 r, Jm s, Bm]; omega
end
mutual
theorem IE : ∀ (s : St) (i : Nat), -1 ≤ (DG s i).2 ∧ ((DG s i).2 < 0 ↔ KR s)
 | .mk k o n v p, i => by
  have ih := Rx p (i + 1)
  simp only [DG, KR]
  split
  ·refine ⟨by omega, ⟨fun h => by omega, fun h => by omega⟩⟩
  ·exact ⟨ih.1, ⟨fun h => ⟨by omega, ih.2.1 h⟩, fun h => ih.2.2 h.2⟩⟩
theorem Rx : ∀ (p : List St) (i : Nat), -1 ≤ (E9 p i).2 ∧ ((E9 p i).2 < 0 ↔ Qh p)
 | [], i => by simp [E9, Qh]
 | s :: r, i => by
  have h1 := IE s i
  have h2 := Rx r (DG s i).1
  simp only [E9, Qh]
  split
  ·rename_i h; exact ⟨h2.1, ⟨fun h' => ⟨h1.2.1 h, h2.2.1 h'⟩, fun h' => h2.2.2 h'.2⟩⟩
  ·rename_i h; exact ⟨h1.1, ⟨fun h' => absurd h' h, fun h' => absurd (h1.2.2 h'.1) h⟩⟩
end
theorem RJ {s : St} (h : (GT s).1 = 0) : GT s = (0, 0) ∧ Gz s ∧ KR s ∧ An s ≤ 60 := by
 unfold GT at h ⊢
 split at h
 ·rename_i h1; exact absurd h h1
 ·rename_i h1
  rw [if_neg h1]
  split at h
  ·cases h
  ·rename_i h2
   rw [if_neg h2]
   obtain ⟨h3, h4, h5⟩ := ID s 0 (by omega)
   exact ⟨rfl, h3, (IE s 0).2.1 (by omega), by omega⟩
def FL (op x y : Int) : Int := if op = 1 then (x + y) % 10000 else if op = 2 then (x - y + 10000) % 10000 else if op = 3 then x * y % 10000 else if op = 4 then max x y else if op = 5 then min x y else x % y
def Wm (op x n : Int) : Bool := if op = 1 then decide (x < n) else if op = 2 then decide (n ≤ x) else decide (x % n = 0)
abbrev Av := List Int
abbrev CL := List (Int × Av)
structure Fut where
 cur : Av
 l : CL
 fin : Av
def T8 : Nat → List Int → CL
 | _, [] => []
 | i, x :: r => (x, [((i + 1 : Nat) : Int)]) :: T8 (i + 1) r
def SU (xs : List Int) : Fut := ⟨[0], T8 0 xs, [(xs.length : Int)]⟩
def VP (v : List Int) : List Int := match v with
 | a :: b :: c :: r => (List.range (Gj (a :: b :: c :: r))).map fun (i : Nat) => a + (i : Int) * c
 | _ => []
def Dq : Nat → Av → CL → Av → CL × Av
 | 0, cur, _, _ => ([], cur)
 | _ + 1, _, [], fin => ([], fin)
 | n + 1, _, (x, c) :: r, fin => ((x, c) :: (Dq n c r fin).1, (Dq n c r fin).2)
def QW (p : Int → Bool) : CL → Av → CL × Av
 | [], fin => ([], fin)
 | (x, c) :: r, fin => if p x = true then ((x, c) :: (QW p r fin).1, (QW p r fin).2) else ([], c)
def Tn (p : Int → Bool) : CL → CL
 | [] => []
 | (x, c) :: r => if p x = true then Tn p r else (x, c) :: r
def SF (f : Int → Int → Int) : Int → CL → CL
 | _, [] => []
 | n, (x, c) :: r => (f n x, c) :: SF f (f n x) r
def Qu (f : Int → Int → Int) : List Int → Int
 | [] => 0
 | x :: r => r.foldl f x
def K6 (f : Int → Int → Int) (N : Nat) : List Int → CL → CL
 | _, [] => []
 | last, (x, c) :: r => if last.length + 1 < N then K6 f N (last ++ [x]) r else (Qu f ((last ++ [x]).drop (last.length + 1 - N)), c) :: K6 f N ((last ++ [x]).drop (last.length + 1 - N)) r
def IN : Int → CL → CL
 | _, [] => []
 | last, (x, c) :: r => if x ≠ last then (x, c) :: IN x r else IN last r
def OZ (xs : List Int) (fin : Av) : Nat → CL
 | 0 => []
 | n + 1 => xs.map (fun x => (x, fin)) ++ OZ xs fin n
def Tx (n : Nat) (F : Fut) : Fut := if n = 0 then ⟨F.cur, [], F.cur⟩ else ⟨F.cur, F.l ++ OZ (F.l.map (·.1)) F.fin (n - 1), F.fin⟩
def GU (k o n : Int) (F : Fut) : Fut :=
 if k = 3 then ⟨F.cur, F.l.map fun e => (FL o e.1 n, e.2), F.fin⟩
 else if k = 4 then ⟨F.cur, F.l.filter fun e => Wm o e.1 n, F.fin⟩
 else if k = 5 then ⟨F.cur, (Dq n.toNat F.cur F.l F.fin).1, (Dq n.toNat F.cur F.l F.fin).2⟩
 else if k = 6 then ⟨F.cur, F.l.drop n.toNat, F.fin⟩
 else if k = 7 then ⟨F.cur, (QW (fun x => Wm o x n) F.l F.fin).1, (QW (fun x => Wm o x n) F.l F.fin).2⟩
 else if k = 8 then ⟨F.cur, Tn (fun x => Wm o x n) F.l, F.fin⟩
 else if k = 9 then ⟨F.cur, SF (FL o) n F.l, F.fin⟩
 else if k = 10 then ⟨F.cur, K6 (FL o) n.toNat [] F.l, F.fin⟩
 else if k = 11 then ⟨F.cur, IN (-1) F.l, F.fin⟩
 else Tx n.toNat F
def Eb : List Fut → Fut
 | [] => ⟨[], [], []⟩
 | F :: Fs => ⟨F.cur ++ (Eb Fs).cur, F.l.map (fun e => (e.1, e.2 ++ (Eb Fs).cur)) ++ (Eb Fs).l.map (fun e => (e.1, F.fin ++ e.2)), F.fin ++ (Eb Fs).fin⟩
def Fn : Nat → List (Nat × CL × Av) → List Av → CL × List Av
 | 0, _, cs => ([], cs)
 | _ + 1, [], cs => ([], cs)
 | m + 1, (i, [], fin) :: q, cs => Fn m q (cs.set i fin)
 | m + 1, (i, (x, c) :: r, fin) :: q, cs => ((x, (cs.set i c).flatten) :: (Fn m (q ++ [(i, r, fin)]) (cs.set i c)).1, (Fn m (q ++ [(i, r, fin)]) (cs.set i c)).2)
def WW (Fs : List Fut) : Nat := (Fs.map fun F => F.l.length + 1).sum
def VI (Fs : List Fut) : Fut :=
 ⟨(Fs.map (·.cur)).flatten, (Fn (WW Fs) (Fs.zipIdx.map fun x => (x.2, x.1.l, x.1.fin)) (Fs.map (·.cur))).1, (Fn (WW Fs) (Fs.zipIdx.map fun x => (x.2, x.1.l, x.1.fin)) (Fs.map (·.cur))).2.flatten⟩
def Ip (f : Int → Int → Int) (fa fb : Av) : CL → Av → CL → CL × Av
 | [], cb, _ => ([], fa ++ cb)
 | (_, c) :: _, _, [] => ([], c ++ fb)
 | (x, c) :: r, _, (y, d) :: t => ((f x y, c ++ d) :: (Ip f fa fb r d t).1, (Ip f fa fb r d t).2)
def ET (fa fb : Av) : CL → CL → CL
 | [], [] => []
 | [], (y, d) :: t => (y, fa ++ d) :: ET fa fb [] t
 | (x, c) :: r, [] => (x, c ++ fb) :: ET fa fb r []
 | (x, c) :: r, (y, d) :: t => if x ≤ y then (x, c ++ d) :: ET fa fb r ((y, d) :: t) else (y, c ++ d) :: ET fa fb ((x, c) :: r) t
 termination_by a b => a.length + b.length
def Ck (k o n : Int) (v : List Int) (Fs : List Fut) : Fut :=
 if k = 1 then SU v
 else if k = 2 then SU (VP v)
 else if k = 13 then Eb Fs
 else if k = 14 then VI Fs
 else match Fs with
  | [F] => GU k o n F
  | [F, G] => if k = 15 then ⟨F.cur ++ G.cur, (Ip (FL o) F.fin G.fin F.l G.cur G.l).1, (Ip (FL o) F.fin G.fin F.l G.cur G.l).2⟩ else ⟨F.cur ++ G.cur, ET F.fin G.fin F.l G.l, F.fin ++ G.fin⟩
  | _ => ⟨[], [], []⟩
mutual
def Bt : St → Fut
 | .mk k o n v p => Ck k o n v (Fz p)
def Fz : List St → List Fut
 | [] => []
 | s :: r => Bt s :: Fz r
end
theorem JQ : ∀ p : List St, Fz p = p.map Bt
 | [] => by simp [Fz]
 | s :: r => by simp [Fz, JQ r]
attribute [local simp] Nj Fe FS L6 N3 NE LZ Fg F3 Fq HO MF Nf MS MH NT O6 Md Of L5 Me M5 Nc LI M0 TE pe Nt OB NM MM M1 Nw LN Mb Lh Lc NY Mk Lx FX MB MD Nd Lg MO N1 ME MK NN Mf LY LR Ma Ol Mm MC N7 Lm M6 Mr Ly FH ND Fh NJ Mz NC NU Ms Oa NO OS Mx Ld Lw LL LQ L7 OM Ot ON Mg Mn N2 OA O5 Ln O8 MU F9 Oi OY Nu LF Mw Ng Nm Mt Nr Np Nb Oh On OO OK Mo Ny LK Nz Lk LD MJ NK NF M9 L9 Nn LH NW LJ Hv M3 List.mem_cons guardK E5 Er FR HV LU FT Fd FO Fi FD FC F5 FW Fc Lb O9 FZ NH LB Mu Mp ML OW FG OR No OF O4 Lt M2 Hj FY FP F6 Fb Oo N5 FI OJ FF NX F4 FB M7 Fa F8 Ll N0 Ml LW NZ La MZ Lp TF Ju K2 HG KF Jz KD EN Ge Gb Od Ga GX EM E3 Us Jt Jx Gd Jp Jv Dl DQ Bz Bk CH DL BL ev get put EV Ad Cw L8 MP LM Lo K7 OV EF part BO Gn OD GV isNil Ct DJ Dm DN DM Nq Lu MV Mh NV KE NS OQ Og LO Lj M4 N4 Lq OH Mj AV.fits AV.cells ones AV.one E7 CI E1 DI EQ EI MY Es FU CK CB CQ Ew FV Ax Bn VW HB Nx LT List.getElem?_cons_zero List.getElem?_cons_succ FJ FM F7 OI Mc MX Gk Oc OG MI Lv Mi Ok MW Lr Ls MA LX
theorem Ve (c i : Int) : APure Tryz.prog 20 [aI c, aI i] (aF (c, i)) := by
 refine A3 Tryz.func20 XD rfl fun n H hH => ?_
 repeat' (first | (simp -implicitDefEqProofs [c20, -getElem?_pos, aF, splice, AI, AK]) | (simp (disch := omega) only [AH]) | (with_reducible first | refine A8 ?_ ?_ ?_ | exact AF | refine SameB.upd ?_ ?_ _ | assumption | refine A4 ?_ | refine KM.of ?_ | refine AG ?_ | refine A2 ?_ | refine A5 ?_ | intro _g _hg | refine AE ?_ ?_ | intro _hc) | omega)
theorem HW (x a b : Int) : APure Tryz.prog 19 [aI x, aI a, aI b] (.bool (decide (a ≤ x) && decide (x ≤ b))) := by
 refine A3 Tryz.func19 X9 rfl fun n H hH => ?_
 repeat' (first | (simp -implicitDefEqProofs [c19, -getElem?_pos, AI]) | (simp (disch := omega) only [AH]) | (with_reducible first | refine A8 ?_ ?_ ?_ | exact AF | refine SameB.upd ?_ ?_ _ | assumption | refine A4 ?_ | refine KM.of ?_ | refine AG ?_ | intro _g _hg | refine AE ?_ ?_ | intro _hc) | omega)
def IX (x : Int) : Prop := 0 ≤ x ∧ x ≤ 9999
theorem TV {x y : Int} (hx : IX x) (hy : IX y) : 0 ≤ x * y ∧ x * y ≤ 99980001 := by
 obtain ⟨x0, x1⟩ := hx
 obtain ⟨y0, y1⟩ := hy
 refine ⟨Int.mul_nonneg x0 y0, ?_⟩
 calc x * y ≤ 9999 * y := Int.mul_le_mul_of_nonneg_right x1 y0
  _ ≤ 9999 * 9999 := Int.mul_le_mul_of_nonneg_left y1 (by decide)
theorem Vm (op x y : Int) (ho : 1 ≤ op ∧ op ≤ 6) (hx : IX x) (hy : IX y) (h0 : op = 6 → 1 ≤ y) : APure Tryz.prog 102 [aI op, aI x, aI y] (aI (FL op x y)) := by
 have hm := TV hx hy
 obtain ⟨x0, x1⟩ := hx
 obtain ⟨y0, y1⟩ := hy
 refine A3 Tryz.func102 WX rfl fun n H hH => ?_
 rcases (by omega : op = 1 ∨ op = 2 ∨ op = 3 ∨ op = 4 ∨ op = 5 ∨ op = 6) with rfl | rfl | rfl | rfl | rfl | rfl
 ·repeat' (first | (simp -implicitDefEqProofs [Dg, Db, DT, DZ, Dc, c102, -getElem?_pos, AI, FL]) | (simp (disch := omega) only [AH]) | (with_reducible first | refine A8 ?_ ?_ ?_ | exact AF | refine SameB.upd ?_ ?_ _ | assumption | refine A4 ?_ | refine KM.of ?_ | refine AG ?_ | intro _g _hg | refine AE ?_ ?_ | intro _hc) | omega)
 ·repeat' (first | (simp -implicitDefEqProofs [Dg, Db, DT, DZ, Dc, c102, -getElem?_pos, AI, FL]) | (simp (disch := omega) only [AH]) | (with_reducible first | refine A8 ?_ ?_ ?_ | exact AF | refine SameB.upd ?_ ?_ _ | assumption | refine A4 ?_ | refine KM.of ?_ | refine AG ?_ | intro _g _hg | refine AE ?_ ?_ | intro _hc) | omega)
 ·have hw : IntKind.i64.wrap (x * y) = x * y := IntWalk.i64_in _ (by omega)
  have ht : (x * y).tmod 10000 = x * y % 10000 := Int.tmod_eq_emod_of_nonneg hm.1
  repeat' (first | (simp -implicitDefEqProofs [Dg, Db, DT, DZ, Dc, c102, -getElem?_pos, AI, FL, hw, ht]) | (simp (disch := omega) only [AH]) | (with_reducible first | refine A8 ?_ ?_ ?_ | exact AF | refine SameB.upd ?_ ?_ _ | assumption | refine A4 ?_ | refine KM.of ?_ | refine AG ?_ | intro _g _hg | refine AE ?_ ?_ | intro _hc) | omega)
 ·repeat' (first | (simp -implicitDefEqProofs [Dg, Db, DT, DZ, Dc, c102, -getElem?_pos, AI, FL]) | (simp (disch := omega) only [AH]) | (with_reducible first | refine A8 ?_ ?_ ?_ | exact AF | refine SameB.upd ?_ ?_ _ | assumption | refine A4 ?_ | refine KM.of ?_ | refine AG ?_ | intro _g _hg | refine AE ?_ ?_ | intro _hc) | omega)
 ·repeat' (first | (simp -implicitDefEqProofs [Dg, Db, DT, DZ, Dc, c102, -getElem?_pos, AI, FL]) | (simp (disch := omega) only [AH]) | (with_reducible first | refine A8 ?_ ?_ ?_ | exact AF | refine SameB.upd ?_ ?_ _ | assumption | refine A4 ?_ | refine KM.of ?_ | refine AG ?_ | intro _g _hg | refine AE ?_ ?_ | intro _hc) | omega)
 ·have hy1 := h0 rfl
  have hyn : y ≠ 0 := by omega
  repeat' (first | (simp -implicitDefEqProofs [Dg, Db, DT, DZ, Dc, c102, -getElem?_pos, AI, FL, hyn]) | (simp (disch := omega) only [AH]) | (with_reducible first | refine A8 ?_ ?_ ?_ | exact AF | refine SameB.upd ?_ ?_ _ | assumption | refine A4 ?_ | refine KM.of ?_ | refine AG ?_ | intro _g _hg | refine AE ?_ ?_ | intro _hc) | omega)
theorem TP (op x y : Int) (ho : 1 ≤ op ∧ op ≤ 6) (hx : IX x) (hy : IX y) (h0 : op = 6 → 1 ≤ y) : APure Tryz.prog 80 [aI op, aI x, aI y] (aI (FL op x y)) := by
 have hm := TV hx hy
 obtain ⟨x0, x1⟩ := hx
 obtain ⟨y0, y1⟩ := hy
 refine A3 Tryz.func80 XQ rfl fun n H hH => ?_
 rcases (by omega : op = 1 ∨ op = 2 ∨ op = 3 ∨ op = 4 ∨ op = 5 ∨ op = 6) with rfl | rfl | rfl | rfl | rfl | rfl
 ·repeat' (first | (simp -implicitDefEqProofs [Dx, Dz, Dt, Du, Dw, c80, -getElem?_pos, AI, FL]) | (simp (disch := omega) only [AH]) | (with_reducible first | refine A8 ?_ ?_ ?_ | exact AF | refine SameB.upd ?_ ?_ _ | assumption | refine A4 ?_ | refine KM.of ?_ | refine AG ?_ | intro _g _hg | refine AE ?_ ?_ | intro _hc) | omega)
 ·repeat' (first | (simp -implicitDefEqProofs [Dx, Dz, Dt, Du, Dw, c80, -getElem?_pos, AI, FL]) | (simp (disch := omega) only [AH]) | (with_reducible first | refine A8 ?_ ?_ ?_ | exact AF | refine SameB.upd ?_ ?_ _ | assumption | refine A4 ?_ | refine KM.of ?_ | refine AG ?_ | intro _g _hg | refine AE ?_ ?_ | intro _hc) | omega)
 ·have hw : IntKind.i64.wrap (x * y) = x * y := IntWalk.i64_in _ (by omega)
  have ht : (x * y).tmod 10000 = x * y % 10000 := Int.tmod_eq_emod_of_nonneg hm.1
  repeat' (first | (simp -implicitDefEqProofs [Dx, Dz, Dt, Du, Dw, c80, -getElem?_pos, AI, FL, hw, ht]) | (simp (disch := omega) only [AH]) | (with_reducible first | refine A8 ?_ ?_ ?_ | exact AF | refine SameB.upd ?_ ?_ _ | assumption | refine A4 ?_ | refine KM.of ?_ | refine AG ?_ | intro _g _hg | refine AE ?_ ?_ | intro _hc) | omega)
 ·repeat' (first | (simp -implicitDefEqProofs [Dx, Dz, Dt, Du, Dw, c80, -getElem?_pos, AI, FL]) | (simp (disch := omega) only [AH]) | (with_reducible first | refine A8 ?_ ?_ ?_ | exact AF | refine SameB.upd ?_ ?_ _ | assumption | refine A4 ?_ | refine KM.of ?_ | refine AG ?_ | intro _g _hg | refine AE ?_ ?_ | intro _hc) | omega)
 ·repeat' (first | (simp -implicitDefEqProofs [Dx, Dz, Dt, Du, Dw, c80, -getElem?_pos, AI, FL]) | (simp (disch := omega) only [AH]) | (with_reducible first | refine A8 ?_ ?_ ?_ | exact AF | refine SameB.upd ?_ ?_ _ | assumption | refine A4 ?_ | refine KM.of ?_ | refine AG ?_ | intro _g _hg | refine AE ?_ ?_ | intro _hc) | omega)
 ·have hy1 := h0 rfl
  have hyn : y ≠ 0 := by omega
  repeat' (first | (simp -implicitDefEqProofs [Dx, Dz, Dt, Du, Dw, c80, -getElem?_pos, AI, FL, hyn]) | (simp (disch := omega) only [AH]) | (with_reducible first | refine A8 ?_ ?_ ?_ | exact AF | refine SameB.upd ?_ ?_ _ | assumption | refine A4 ?_ | refine KM.of ?_ | refine AG ?_ | intro _g _hg | refine AE ?_ ?_ | intro _hc) | omega)
theorem Ni (k : Int) : APure Tryz.prog 44 [aI k] (.bool (Cl k)) := by
 refine A3 Tryz.func44 X6 rfl fun n H hH => ?_
 repeat' (first | (simp -implicitDefEqProofs [c44, -getElem?_pos, AI, Cl]) | (simp (disch := omega) only [AH]) | (with_reducible first | refine A8 ?_ ?_ ?_ | exact AF | refine SameB.upd ?_ ?_ _ | assumption | refine A4 ?_ | refine KM.of ?_ | refine AG ?_ | intro _g _hg | refine AE ?_ ?_ | intro _hc) | omega)
 all_goals (rw [Bool.eq_iff_iff]; simp only [decide_eq_true_eq, beq_iff_eq, Bool.or_eq_true, Bool.not_eq_true', decide_eq_false_iff_not]; try omega)
theorem HP (k : Int) : APure Tryz.prog 53 [aI k] (.bool (Kr k)) := by
 refine A3 Tryz.func53 X8 rfl fun n H hH => ?_
 repeat' (first | (simp -implicitDefEqProofs [c53, -getElem?_pos, AI, Kr]) | (simp (disch := omega) only [AH]) | (with_reducible first | refine A8 ?_ ?_ ?_ | exact AF | refine SameB.upd ?_ ?_ _ | assumption | refine A4 ?_ | refine KM.of ?_ | refine AG ?_ | intro _g _hg | refine AE ?_ ?_ | intro _hc) | omega)
 all_goals (rw [Bool.eq_iff_iff]; simp only [decide_eq_true_eq, beq_iff_eq, Bool.or_eq_true, Bool.not_eq_true', decide_eq_false_iff_not]; try omega)
theorem GE (k : Int) : APure Tryz.prog 55 [aI k] (.bool (Cq k)) := by
 refine A3 Tryz.func55 XN rfl fun n H hH => ?_
 repeat' (first | (simp -implicitDefEqProofs [c55, -getElem?_pos, AI, Cq]) | (simp (disch := omega) only [AH]) | (with_reducible first | refine A8 ?_ ?_ ?_ | exact AF | refine SameB.upd ?_ ?_ _ | assumption | refine A4 ?_ | refine KM.of ?_ | refine AG ?_ | intro _g _hg | refine AE ?_ ?_ | intro _hc) | omega)
 all_goals (rw [Bool.eq_iff_iff]; simp only [decide_eq_true_eq, beq_iff_eq, Bool.or_eq_true, Bool.not_eq_true', decide_eq_false_iff_not]; try omega)
theorem GH (k : Int) : APure Tryz.prog 58 [aI k] (.bool (G4 k)) := by
 refine A3 Tryz.func58 Xk rfl fun n H hH => ?_
 repeat' (first | (simp -implicitDefEqProofs [c58, -getElem?_pos, AI, G4]) | (simp (disch := omega) only [AH]) | (with_reducible first | refine A8 ?_ ?_ ?_ | exact AF | refine SameB.upd ?_ ?_ _ | assumption | refine A4 ?_ | refine KM.of ?_ | refine AG ?_ | intro _g _hg | refine AE ?_ ?_ | intro _hc) | omega)
 all_goals (rw [Bool.eq_iff_iff]; simp only [decide_eq_true_eq, beq_iff_eq, Bool.or_eq_true, Bool.not_eq_true', decide_eq_false_iff_not]; try omega)
theorem drop_at {α : Type} {l : List α} {k : Nat} {x : α} (h : l[k]? = some x) : l.drop k = x :: l.drop (k + 1) := by
 have hk := (List.getElem?_eq_some_iff.1 h).1
 rw [List.drop_eq_getElem_cons hk, (List.getElem?_eq_some_iff.1 h).2]
theorem Ns {α : Type} {f : α → AV} {l : List α} {k : Nat} {x : α} (h : l[k]? = some x) : (l.map f)[k]? = some (f x) := by
 rw [List.getElem?_map, h]; rfl
theorem A7 (k o n : Int) (v : List Int) (p : List St) : encS (.mk k o n v p) = .agg [aI k, aI o, aI n, .sl 1 (v.map aI) .ro, .sl 5 (AD p) .ro] := by rw [encS]
theorem Ao (p : List St) : (AD p).length = p.length := by rw [E2]; simp
theorem RC {k : Int} {i : Nat} {v : List Int} {x : Int} (hx : v[i]? = some x) : BS k i (v.drop i) = (EH k i x && BS k (i + 1) (v.drop (i + 1))) := by
 rw [drop_at hx, BS]
theorem Pc {k : Int} {i : Nat} {v : List Int} (h : v.length ≤ i) : BS k i (v.drop i) = true := by
 rw [List.drop_eq_nil_of_le h, BS]
theorem Ds (k o m : Int) (v : List Int) (p : List St) (g n0 n1 : Nat) (H H1 : A6) (q : H1 g = some (.cells 25 [aI k, aI o, aI m, .sl 1 (v.map aI) .ro, .sl 5 (AD p) .ro])) (hn : n0 ≤ n1) (hs : SameB n0 H H1) (hvb : v.length ≤ 140737488355328) :
  LoopK (fun Q s => aw Tryz.prog c68_L6 Q s) (EX 0 (ED (aw Tryz.prog c68_k1 (K0 (aI (if BS k 0 v = true then 0 else 4)) n0 H [.tmp 2])) (K0 (aI (if BS k 0 v = true then 0 else 4)) n0 H [.tmp 2]))) ⟨[(1, .ptr g 0), (3, aI k), (10, aI 0)], n1, H1⟩ := by
 refine LoopK.go (fun r s => ∃ i : Nat, i + r = v.length ∧ s = ⟨[(1, .ptr g 0), (3, aI k), (10, aI i)], n1, H1⟩ ∧ BS k 0 v = BS k i (v.drop i)) v.length ⟨0, by omega, rfl, rfl⟩ ?_
 rintro r s ⟨i, hi, rfl, hE⟩ J hJ
 by_cases hil : i < v.length
 ·obtain ⟨x, hx⟩ : ∃ x, v[i]? = some x := ⟨_, List.getElem?_eq_getElem hil⟩
  have hx' := Ns (f := aI) hx
  have hil' : (i : Int) < v.length := by omega
  have hvl : (v.map aI).length = v.length := by simp
  rw [RC hx] at hE
  generalize v.map aI = va at *
  have hin := fun a b => HW x a b
  by_cases hv : EH k i x = true
  ·rw [hv, Bool.true_and] at hE
   unfold EH at hv
   by_cases hk : k = 2
   ·subst hk
    by_cases h1 : i = 1
    ·subst h1
     have hv : (decide (0 ≤ x) && decide (x ≤ 10000)) = true := by simpa using hv
     have hin := HW x 0 10000
     rw [hv] at hin
     
     repeat' (first | (simp -implicitDefEqProofs [CY, Ce, CX, Cf, CW, Cb, Br, Bu, Bs, Bh, BY, BU, Bd, BZ, Be, c68, -getElem?_pos, q, hx', hvl, hil']) | (simp (disch := omega) only [AH]) | ((with_reducible refine Al 19 ?_); (refine' CallP.sf ?_ (hin) ?_); (focus first | (with_reducible exact A0 _) | (simp [AK, AI, A1, A0]; done))) | (with_reducible first | refine A8 ?_ ?_ ?_ | exact AF | refine SameB.upd ?_ ?_ _ | assumption | refine A4 ?_ | refine KM.of ?_ | refine AG ?_ | refine A2 ?_ | refine A5 ?_ | intro _g _hg | refine AE ?_ ?_ | intro _hc) | omega)
     exact hJ (r - 1) _ (by omega) ⟨2, by omega, rfl, hE⟩
    ·by_cases h2 : i = 2
     ·subst h2
      have hv : (decide (1 ≤ x) && decide (x ≤ 9999)) = true := by simpa using hv
      have hin := HW x 1 9999
      rw [hv] at hin
      
      repeat' (first | (simp -implicitDefEqProofs [CY, Ce, CX, Cf, CW, Cb, Br, Bu, Bs, Bh, BY, BU, Bd, BZ, Be, c68, -getElem?_pos, q, hx', hvl, hil']) | (simp (disch := omega) only [AH]) | ((with_reducible refine Al 19 ?_); (refine' CallP.sf ?_ (hin) ?_); (focus first | (with_reducible exact A0 _) | (simp [AK, AI, A1, A0]; done))) | (with_reducible first | refine A8 ?_ ?_ ?_ | exact AF | refine SameB.upd ?_ ?_ _ | assumption | refine A4 ?_ | refine KM.of ?_ | refine AG ?_ | refine A2 ?_ | refine A5 ?_ | intro _g _hg | refine AE ?_ ?_ | intro _hc) | omega)
      exact hJ (r - 1) _ (by omega) ⟨3, by omega, rfl, hE⟩
     ·have hv : (decide (0 ≤ x) && decide (x ≤ 9999)) = true := by simpa [h1, h2] using hv
      have hin := HW x 0 9999
      rw [hv] at hin
      have h1' : ¬ (i : Int) = 1 := by omega
      have h2' : ¬ (i : Int) = 2 := by omega
      
      repeat' (first | (simp -implicitDefEqProofs [CY, Ce, CX, Cf, CW, Cb, Br, Bu, Bs, Bh, BY, BU, Bd, BZ, Be, c68, -getElem?_pos, q, hx', hvl, hil', h1', h2']) | (simp (disch := omega) only [AH]) | ((with_reducible refine Al 19 ?_); (refine' CallP.sf ?_ (hin) ?_); (focus first | (with_reducible exact A0 _) | (simp [AK, AI, A1, A0]; done))) | (with_reducible first | refine A8 ?_ ?_ ?_ | exact AF | refine SameB.upd ?_ ?_ _ | assumption | refine A4 ?_ | refine KM.of ?_ | refine AG ?_ | refine A2 ?_ | refine A5 ?_ | intro _g _hg | refine AE ?_ ?_ | intro _hc) | omega)
      exact hJ (r - 1) _ (by omega) ⟨i + 1, by omega, rfl, hE⟩
   ·have hv : (decide (0 ≤ x) && decide (x ≤ 9999)) = true := by simpa [hk] using hv
    have hin := HW x 0 9999
    rw [hv] at hin
    
    repeat' (first | (simp -implicitDefEqProofs [CY, Ce, CX, Cf, CW, Cb, Br, Bu, Bs, Bh, BY, BU, Bd, BZ, Be, c68, -getElem?_pos, q, hx', hvl, hil', hk]) | (simp (disch := omega) only [AH]) | ((with_reducible refine Al 19 ?_); (refine' CallP.sf ?_ (hin) ?_); (focus first | (with_reducible exact A0 _) | (simp [AK, AI, A1, A0]; done))) | (with_reducible first | refine A8 ?_ ?_ ?_ | exact AF | refine SameB.upd ?_ ?_ _ | assumption | refine A4 ?_ | refine KM.of ?_ | refine AG ?_ | refine A2 ?_ | refine A5 ?_ | intro _g _hg | refine AE ?_ ?_ | intro _hc) | omega)
    exact hJ (r - 1) _ (by omega) ⟨i + 1, by omega, rfl, hE⟩
  ·have hv : EH k i x = false := by simpa using hv
   rw [hv, Bool.false_and] at hE
   rw [hE]
   unfold EH at hv
   by_cases hk : k = 2
   ·subst hk
    by_cases h1 : i = 1
    ·subst h1
     have hv : (decide (0 ≤ x) && decide (x ≤ 10000)) = false := by simpa using hv
     have hin := HW x 0 10000
     rw [hv] at hin
     
     repeat' (first | (simp -implicitDefEqProofs [CY, Ce, CX, Cf, CW, Cb, Br, Bu, Bs, Bh, BY, BU, Bd, BZ, Be, c68, -getElem?_pos, q, hx', hvl, hil', A1]) | (simp (disch := omega) only [AH]) | ((with_reducible refine Al 19 ?_); (refine' CallP.sf ?_ (hin) ?_); (focus first | (with_reducible exact A0 _) | (simp [AK, AI, A1, A0]; done))) | (with_reducible first | refine A8 ?_ ?_ ?_ | exact AF | refine SameB.upd ?_ ?_ _ | assumption | refine A4 ?_ | refine KM.of ?_ | refine AG ?_ | refine A2 ?_ | refine A5 ?_ | intro _g _hg | refine AE ?_ ?_ | intro _hc) | omega)
    ·by_cases h2 : i = 2
     ·subst h2
      have hv : (decide (1 ≤ x) && decide (x ≤ 9999)) = false := by simpa using hv
      have hin := HW x 1 9999
      rw [hv] at hin
      
      repeat' (first | (simp -implicitDefEqProofs [CY, Ce, CX, Cf, CW, Cb, Br, Bu, Bs, Bh, BY, BU, Bd, BZ, Be, c68, -getElem?_pos, q, hx', hvl, hil', A1]) | (simp (disch := omega) only [AH]) | ((with_reducible refine Al 19 ?_); (refine' CallP.sf ?_ (hin) ?_); (focus first | (with_reducible exact A0 _) | (simp [AK, AI, A1, A0]; done))) | (with_reducible first | refine A8 ?_ ?_ ?_ | exact AF | refine SameB.upd ?_ ?_ _ | assumption | refine A4 ?_ | refine KM.of ?_ | refine AG ?_ | refine A2 ?_ | refine A5 ?_ | intro _g _hg | refine AE ?_ ?_ | intro _hc) | omega)
     ·have hv : (decide (0 ≤ x) && decide (x ≤ 9999)) = false := by simpa [h1, h2] using hv
      have hin := HW x 0 9999
      rw [hv] at hin
      have h1' : ¬ (i : Int) = 1 := by omega
      have h2' : ¬ (i : Int) = 2 := by omega
      
      repeat' (first | (simp -implicitDefEqProofs [CY, Ce, CX, Cf, CW, Cb, Br, Bu, Bs, Bh, BY, BU, Bd, BZ, Be, c68, -getElem?_pos, q, hx', hvl, hil', h1', h2', A1]) | (simp (disch := omega) only [AH]) | ((with_reducible refine Al 19 ?_); (refine' CallP.sf ?_ (hin) ?_); (focus first | (with_reducible exact A0 _) | (simp [AK, AI, A1, A0]; done))) | (with_reducible first | refine A8 ?_ ?_ ?_ | exact AF | refine SameB.upd ?_ ?_ _ | assumption | refine A4 ?_ | refine KM.of ?_ | refine AG ?_ | refine A2 ?_ | refine A5 ?_ | intro _g _hg | refine AE ?_ ?_ | intro _hc) | omega)
   ·have hv : (decide (0 ≤ x) && decide (x ≤ 9999)) = false := by simpa [hk] using hv
    have hin := HW x 0 9999
    rw [hv] at hin
    
    repeat' (first | (simp -implicitDefEqProofs [CY, Ce, CX, Cf, CW, Cb, Br, Bu, Bs, Bh, BY, BU, Bd, BZ, Be, c68, -getElem?_pos, q, hx', hvl, hil', hk, A1]) | (simp (disch := omega) only [AH]) | ((with_reducible refine Al 19 ?_); (refine' CallP.sf ?_ (hin) ?_); (focus first | (with_reducible exact A0 _) | (simp [AK, AI, A1, A0]; done))) | (with_reducible first | refine A8 ?_ ?_ ?_ | exact AF | refine SameB.upd ?_ ?_ _ | assumption | refine A4 ?_ | refine KM.of ?_ | refine AG ?_ | refine A2 ?_ | refine A5 ?_ | intro _g _hg | refine AE ?_ ?_ | intro _hc) | omega)
 ·have hil' : ¬ (i : Int) < v.length := by omega
  rw [Pc (by omega)] at hE
  rw [hE]
  
  repeat' (first | (simp -implicitDefEqProofs [CY, Ce, CX, Cf, CW, Cb, Br, Bu, Bs, Bh, BY, BU, Bd, BZ, Be, c68, -getElem?_pos, q, hil', A1]) | (simp (disch := omega) only [AH]) | (with_reducible first | refine A8 ?_ ?_ ?_ | exact AF | refine SameB.upd ?_ ?_ _ | assumption | refine A4 ?_ | refine KM.of ?_ | refine AG ?_ | refine A2 ?_ | refine A5 ?_ | intro _g _hg | refine AE ?_ ?_ | intro _hc) | omega)
theorem BN {a b : Int} (h : b = a) : AI (aI a) (aI b) := by subst h; exact A1 _
set_option maxRecDepth 8000 in
theorem Ud (k o m : Int) (v : List Int) (p : List St) (hvb : v.length ≤ 140737488355328) (hk : k = 1 ∨ k = 3 ∨ k = 4 ∨ k = 5) : APure Tryz.prog 68 [encS (.mk k o m v p)] (aI (Bp (.mk k o m v p))) := by
 rw [A7]
 have hpl := Ao p
 obtain ⟨z, hz⟩ : ∃ z, Bp (.mk k o m v p) = z := ⟨_, rfl⟩
 obtain ⟨vb, hvv⟩ : ∃ b, BS k 0 v = b := ⟨_, rfl⟩
 have hgo := Ds k o m v p
 rw [hz]
 rcases hk with rfl | rfl | rfl | rfl
 all_goals
  simp [Bp, Cl, Eq, I8, Kr, Cq, G4, EP, Jn, Jq] at hz
  refine A3 Tryz.func68 Pr rfl fun n H hH => ?_
  have hgo := fun g n1 H1 => hgo g n n1 H H1
  rw [hvv] at hgo
  repeat' (first | (simp -implicitDefEqProofs [c68, Be, BZ, Bd, BU, BY, Bh, Bs, Bu, Br, -getElem?_pos, hpl, Cl, Kr, Cq, G4]) | (simp (disch := omega) only [AH]) | ((with_reducible refine Al 19 ?_); (refine' CallP.sf ?_ (HW _ _ _) ?_); (focus first | (with_reducible exact A0 _) | (simp [AK, AI, A1, A0]; done))) | ((with_reducible refine Al 44 ?_); (refine' CallP.sf ?_ (Ni _) ?_); (focus first | (with_reducible exact A0 _) | (simp [AK, AI, A1, A0]; done))) | ((with_reducible refine Al 53 ?_); (refine' CallP.sf ?_ (HP _) ?_); (focus first | (with_reducible exact A0 _) | (simp [AK, AI, A1, A0]; done))) | ((with_reducible refine Al 55 ?_); (refine' CallP.sf ?_ (GE _) ?_); (focus first | (with_reducible exact A0 _) | (simp [AK, AI, A1, A0]; done))) | ((with_reducible refine Al 58 ?_); (refine' CallP.sf ?_ (GH _) ?_); (focus first | (with_reducible exact A0 _) | (simp [AK, AI, A1, A0]; done))) | (with_reducible first | refine A8 ?_ ?_ ?_ | exact AF | refine SameB.upd ?_ ?_ _ | assumption | refine A4 ?_ | refine KM.of ?_ | refine AG ?_ | refine A2 ?_ | refine A5 ?_ | intro _g _hg | refine AE ?_ ?_ | intro _hc) | omega)
  all_goals (try (refine BN ?_; rw [← hz]; clear hz hvv hgo; (repeat' split) <;> first | rfl | (exfalso; simp_all; done) | (exfalso; simp_all; omega) | (exfalso; grind); done))
  all_goals (try (have hzz : z = (if vb = true then 0 else 4) := (by rw [← hz, ← hvv]; clear hz hvv hgo; simp_all; try omega); (rw [hzz]; exact hgo _ _ _ (Ax _ _ _) (by omega) (fun k hk => upd_ne (by omega)) hvb)))
set_option maxRecDepth 8000 in
theorem UC (k o m : Int) (v : List Int) (p : List St) (hvb : v.length ≤ 140737488355328) (hk : k = 2 ∨ k = 6 ∨ k = 7 ∨ k = 8) : APure Tryz.prog 68 [encS (.mk k o m v p)] (aI (Bp (.mk k o m v p))) := by
 rw [A7]
 have hpl := Ao p
 obtain ⟨z, hz⟩ : ∃ z, Bp (.mk k o m v p) = z := ⟨_, rfl⟩
 obtain ⟨vb, hvv⟩ : ∃ b, BS k 0 v = b := ⟨_, rfl⟩
 have hgo := Ds k o m v p
 rw [hz]
 rcases hk with rfl | rfl | rfl | rfl
 all_goals
  simp [Bp, Cl, Eq, I8, Kr, Cq, G4, EP, Jn, Jq] at hz
  refine A3 Tryz.func68 Pr rfl fun n H hH => ?_
  have hgo := fun g n1 H1 => hgo g n n1 H H1
  rw [hvv] at hgo
  repeat' (first | (simp -implicitDefEqProofs [c68, Be, BZ, Bd, BU, BY, Bh, Bs, Bu, Br, -getElem?_pos, hpl, Cl, Kr, Cq, G4]) | (simp (disch := omega) only [AH]) | ((with_reducible refine Al 19 ?_); (refine' CallP.sf ?_ (HW _ _ _) ?_); (focus first | (with_reducible exact A0 _) | (simp [AK, AI, A1, A0]; done))) | ((with_reducible refine Al 44 ?_); (refine' CallP.sf ?_ (Ni _) ?_); (focus first | (with_reducible exact A0 _) | (simp [AK, AI, A1, A0]; done))) | ((with_reducible refine Al 53 ?_); (refine' CallP.sf ?_ (HP _) ?_); (focus first | (with_reducible exact A0 _) | (simp [AK, AI, A1, A0]; done))) | ((with_reducible refine Al 55 ?_); (refine' CallP.sf ?_ (GE _) ?_); (focus first | (with_reducible exact A0 _) | (simp [AK, AI, A1, A0]; done))) | ((with_reducible refine Al 58 ?_); (refine' CallP.sf ?_ (GH _) ?_); (focus first | (with_reducible exact A0 _) | (simp [AK, AI, A1, A0]; done))) | (with_reducible first | refine A8 ?_ ?_ ?_ | exact AF | refine SameB.upd ?_ ?_ _ | assumption | refine A4 ?_ | refine KM.of ?_ | refine AG ?_ | refine A2 ?_ | refine A5 ?_ | intro _g _hg | refine AE ?_ ?_ | intro _hc) | omega)
  all_goals (try (refine BN ?_; rw [← hz]; clear hz hvv hgo; (repeat' split) <;> first | rfl | (exfalso; simp_all; done) | (exfalso; simp_all; omega) | (exfalso; grind); done))
  all_goals (try (have hzz : z = (if vb = true then 0 else 4) := (by rw [← hz, ← hvv]; clear hz hvv hgo; simp_all; try omega); (rw [hzz]; exact hgo _ _ _ (Ax _ _ _) (by omega) (fun k hk => upd_ne (by omega)) hvb)))
set_option maxRecDepth 8000 in
theorem UG (k o m : Int) (v : List Int) (p : List St) (hvb : v.length ≤ 140737488355328) (hk : k = 9 ∨ k = 10 ∨ k = 11 ∨ k = 12) : APure Tryz.prog 68 [encS (.mk k o m v p)] (aI (Bp (.mk k o m v p))) := by
 rw [A7]
 have hpl := Ao p
 obtain ⟨z, hz⟩ : ∃ z, Bp (.mk k o m v p) = z := ⟨_, rfl⟩
 obtain ⟨vb, hvv⟩ : ∃ b, BS k 0 v = b := ⟨_, rfl⟩
 have hgo := Ds k o m v p
 rw [hz]
 rcases hk with rfl | rfl | rfl | rfl
 all_goals
  simp [Bp, Cl, Eq, I8, Kr, Cq, G4, EP, Jn, Jq] at hz
  refine A3 Tryz.func68 Pr rfl fun n H hH => ?_
  have hgo := fun g n1 H1 => hgo g n n1 H H1
  rw [hvv] at hgo
  repeat' (first | (simp -implicitDefEqProofs [c68, Be, BZ, Bd, BU, BY, Bh, Bs, Bu, Br, -getElem?_pos, hpl, Cl, Kr, Cq, G4]) | (simp (disch := omega) only [AH]) | ((with_reducible refine Al 19 ?_); (refine' CallP.sf ?_ (HW _ _ _) ?_); (focus first | (with_reducible exact A0 _) | (simp [AK, AI, A1, A0]; done))) | ((with_reducible refine Al 44 ?_); (refine' CallP.sf ?_ (Ni _) ?_); (focus first | (with_reducible exact A0 _) | (simp [AK, AI, A1, A0]; done))) | ((with_reducible refine Al 53 ?_); (refine' CallP.sf ?_ (HP _) ?_); (focus first | (with_reducible exact A0 _) | (simp [AK, AI, A1, A0]; done))) | ((with_reducible refine Al 55 ?_); (refine' CallP.sf ?_ (GE _) ?_); (focus first | (with_reducible exact A0 _) | (simp [AK, AI, A1, A0]; done))) | ((with_reducible refine Al 58 ?_); (refine' CallP.sf ?_ (GH _) ?_); (focus first | (with_reducible exact A0 _) | (simp [AK, AI, A1, A0]; done))) | (with_reducible first | refine A8 ?_ ?_ ?_ | exact AF | refine SameB.upd ?_ ?_ _ | assumption | refine A4 ?_ | refine KM.of ?_ | refine AG ?_ | refine A2 ?_ | refine A5 ?_ | intro _g _hg | refine AE ?_ ?_ | intro _hc) | omega)
  all_goals (try (refine BN ?_; rw [← hz]; clear hz hvv hgo; (repeat' split) <;> first | rfl | (exfalso; simp_all; done) | (exfalso; simp_all; omega) | (exfalso; grind); done))
  all_goals (try (have hzz : z = (if vb = true then 0 else 4) := (by rw [← hz, ← hvv]; clear hz hvv hgo; simp_all; try omega); (rw [hzz]; exact hgo _ _ _ (Ax _ _ _) (by omega) (fun k hk => upd_ne (by omega)) hvb)))
set_option maxRecDepth 8000 in
theorem TT (k o m : Int) (v : List Int) (p : List St) (hvb : v.length ≤ 140737488355328) (hk : k = 13 ∨ k = 14 ∨ k = 15 ∨ k = 16) : APure Tryz.prog 68 [encS (.mk k o m v p)] (aI (Bp (.mk k o m v p))) := by
 rw [A7]
 have hpl := Ao p
 obtain ⟨z, hz⟩ : ∃ z, Bp (.mk k o m v p) = z := ⟨_, rfl⟩
 obtain ⟨vb, hvv⟩ : ∃ b, BS k 0 v = b := ⟨_, rfl⟩
 have hgo := Ds k o m v p
 rw [hz]
 rcases hk with rfl | rfl | rfl | rfl
 all_goals
  simp [Bp, Cl, Eq, I8, Kr, Cq, G4, EP, Jn, Jq] at hz
  refine A3 Tryz.func68 Pr rfl fun n H hH => ?_
  have hgo := fun g n1 H1 => hgo g n n1 H H1
  rw [hvv] at hgo
  repeat' (first | (simp -implicitDefEqProofs [c68, Be, BZ, Bd, BU, BY, Bh, Bs, Bu, Br, -getElem?_pos, hpl, Cl, Kr, Cq, G4]) | (simp (disch := omega) only [AH]) | ((with_reducible refine Al 19 ?_); (refine' CallP.sf ?_ (HW _ _ _) ?_); (focus first | (with_reducible exact A0 _) | (simp [AK, AI, A1, A0]; done))) | ((with_reducible refine Al 44 ?_); (refine' CallP.sf ?_ (Ni _) ?_); (focus first | (with_reducible exact A0 _) | (simp [AK, AI, A1, A0]; done))) | ((with_reducible refine Al 53 ?_); (refine' CallP.sf ?_ (HP _) ?_); (focus first | (with_reducible exact A0 _) | (simp [AK, AI, A1, A0]; done))) | ((with_reducible refine Al 55 ?_); (refine' CallP.sf ?_ (GE _) ?_); (focus first | (with_reducible exact A0 _) | (simp [AK, AI, A1, A0]; done))) | ((with_reducible refine Al 58 ?_); (refine' CallP.sf ?_ (GH _) ?_); (focus first | (with_reducible exact A0 _) | (simp [AK, AI, A1, A0]; done))) | (with_reducible first | refine A8 ?_ ?_ ?_ | exact AF | refine SameB.upd ?_ ?_ _ | assumption | refine A4 ?_ | refine KM.of ?_ | refine AG ?_ | refine A2 ?_ | refine A5 ?_ | intro _g _hg | refine AE ?_ ?_ | intro _hc) | omega)
  all_goals (try (refine BN ?_; rw [← hz]; clear hz hvv hgo; (repeat' split) <;> first | rfl | (exfalso; simp_all; done) | (exfalso; simp_all; omega) | (exfalso; grind); done))
  all_goals (try (have hzz : z = (if vb = true then 0 else 4) := (by rw [← hz, ← hvv]; clear hz hvv hgo; simp_all; try omega); (rw [hzz]; exact hgo _ _ _ (Ax _ _ _) (by omega) (fun k hk => upd_ne (by omega)) hvb)))
theorem MQ (k o m : Int) (v : List Int) (p : List St) (hvb : v.length ≤ 140737488355328) : APure Tryz.prog 68 [encS (.mk k o m v p)] (aI (Bp (.mk k o m v p))) := by
 by_cases hk : 1 ≤ k ∧ k ≤ 16
 ·rcases (by omega : (k = 1 ∨ k = 3 ∨ k = 4 ∨ k = 5) ∨ (k = 2 ∨ k = 6 ∨ k = 7 ∨ k = 8) ∨ (k = 9 ∨ k = 10 ∨ k = 11 ∨ k = 12) ∨ (k = 13 ∨ k = 14 ∨ k = 15 ∨ k = 16)) with h | h | h | h
  ·exact Ud k o m v p hvb h
  ·exact UC k o m v p hvb h
  ·exact UG k o m v p hvb h
  ·exact TT k o m v p hvb h
 ·have hin := HW k 1 16
  have : (decide (1 ≤ k) && decide (k ≤ 16)) = false := by simp; omega
  rw [this] at hin
  have hnc : Bp (.mk k o m v p) = 5 := by simp only [Bp]; rw [if_pos hk]
  rw [hnc, A7]
  
  refine A3 Tryz.func68 Pr rfl fun n H hH => ?_
  repeat' (first | (simp -implicitDefEqProofs [c68, -getElem?_pos, A1]) | (simp (disch := omega) only [AH]) | ((with_reducible refine Al 19 ?_); (refine' CallP.sf ?_ (hin) ?_); (focus first | (with_reducible exact A0 _) | (simp [AK, AI, A1, A0]; done))) | (with_reducible first | refine A8 ?_ ?_ ?_ | exact AF | refine SameB.upd ?_ ?_ _ | assumption | refine A4 ?_ | refine KM.of ?_ | refine AG ?_ | refine A2 ?_ | refine A5 ?_ | intro _g _hg | refine AE ?_ ?_ | intro _hc) | omega)
structure Shq where
 w : WV
 parts : Int
 fn : Bool
 cd : Bool
 n0 : Int
 n1 : Int
 vs : Bool
abbrev Wn (x : Shq) : AV := .agg [.str x.w, aI x.parts, .bool x.fn, .bool x.cd, aI x.n0, aI x.n1, .bool x.vs]
def Uu : List Shq := [
 ⟨[118, 97, 108, 117, 101, 115], 0, false, false, 0, 0, true⟩,
 ⟨[114, 97, 110, 103, 101], 0, false, false, 0, 0, true⟩,
 ⟨[109, 97, 112], 1, true, false, 0, 0, false⟩,
 ⟨[102, 105, 108, 116, 101, 114], 1, false, true, 0, 0, false⟩,
 ⟨[116, 97, 107, 101], 1, false, false, 0, 5000, false⟩,
 ⟨[100, 114, 111, 112], 1, false, false, 0, 5000, false⟩,
 ⟨[119, 104, 105, 108, 101], 1, false, true, 0, 0, false⟩,
 ⟨[115, 107, 105, 112], 1, false, true, 0, 0, false⟩,
 ⟨[115, 99, 97, 110], 1, true, false, 0, 0, false⟩,
 ⟨[119, 105, 110, 100, 111, 119], 1, true, false, 1, 8, false⟩,
 ⟨[114, 117, 110, 115], 1, false, false, 0, 0, false⟩,
 ⟨[114, 101, 112, 101, 97, 116], 1, false, false, 0, 20, false⟩,
 ⟨[99, 104, 97, 105, 110], -1, false, false, 0, 0, false⟩,
 ⟨[116, 117, 114, 110, 115], -1, false, false, 0, 0, false⟩,
 ⟨[122, 105, 112], 2, true, false, 0, 0, false⟩,
 ⟨[109, 101, 114, 103, 101], 2, false, false, 0, 0, false⟩]
def Df : List (AV × AV) := [
 (aI 1, .agg [.str [118, 97, 108, 117, 101, 115], aI 0, .bool false, .bool false, aI 0, aI 0, .bool true]),
 (aI 2, .agg [.str [114, 97, 110, 103, 101], aI 0, .bool false, .bool false, aI 0, aI 0, .bool true]),
 (aI 3, .agg [.str [109, 97, 112], aI 1, .bool true, .bool false, aI 0, aI 0, .bool false]),
 (aI 4, .agg [.str [102, 105, 108, 116, 101, 114], aI 1, .bool false, .bool true, aI 0, aI 0, .bool false]),
 (aI 5, .agg [.str [116, 97, 107, 101], aI 1, .bool false, .bool false, aI 0, aI 5000, .bool false]),
 (aI 6, .agg [.str [100, 114, 111, 112], aI 1, .bool false, .bool false, aI 0, aI 5000, .bool false]),
 (aI 7, .agg [.str [119, 104, 105, 108, 101], aI 1, .bool false, .bool true, aI 0, aI 0, .bool false]),
 (aI 8, .agg [.str [115, 107, 105, 112], aI 1, .bool false, .bool true, aI 0, aI 0, .bool false]),
 (aI 9, .agg [.str [115, 99, 97, 110], aI 1, .bool true, .bool false, aI 0, aI 0, .bool false]),
 (aI 10, .agg [.str [119, 105, 110, 100, 111, 119], aI 1, .bool true, .bool false, aI 1, aI 8, .bool false]),
 (aI 11, .agg [.str [114, 117, 110, 115], aI 1, .bool false, .bool false, aI 0, aI 0, .bool false]),
 (aI 12, .agg [.str [114, 101, 112, 101, 97, 116], aI 1, .bool false, .bool false, aI 0, aI 20, .bool false]),
 (aI 13, .agg [.str [99, 104, 97, 105, 110], aI (-1), .bool false, .bool false, aI 0, aI 0, .bool false]),
 (aI 14, .agg [.str [116, 117, 114, 110, 115], aI (-1), .bool false, .bool false, aI 0, aI 0, .bool false]),
 (aI 15, .agg [.str [122, 105, 112], aI 2, .bool true, .bool false, aI 0, aI 0, .bool false]),
 (aI 16, .agg [.str [109, 101, 114, 103, 101], aI 2, .bool false, .bool false, aI 0, aI 0, .bool false])]
theorem JY (k o m : Int) (v : List Int) (p : List St) (x : Shq) : APure Tryz.prog 93 [encS (.mk k o m v p), Wn x] (.bool (if x.cd = true then decide (1 ≤ o) && decide (o ≤ 3) else if x.fn = true ∧ k = 3 then decide (1 ≤ o) && decide (o ≤ 6) else if x.fn = true then decide (1 ≤ o) && decide (o ≤ 5) else true)) := by
 rw [A7]
 obtain ⟨w, parts, fn, cd, n0, n1, vs⟩ := x
 refine A3 Tryz.func93 Xm rfl fun n H hH => ?_
 repeat' (first | (simp -implicitDefEqProofs [T1, Sr, ST, c93, -getElem?_pos, splice, AI]) | (simp (disch := omega) only [AH]) | (with_reducible first | refine A8 ?_ ?_ ?_ | exact AF | refine SameB.upd ?_ ?_ _ | assumption | refine A4 ?_ | refine KM.of ?_ | refine AG ?_ | refine A2 ?_ | refine A5 ?_ | intro _g _hg | refine AE ?_ ?_ | intro _hc) | omega)
 all_goals grind
theorem Ix (k o m : Int) (v : List Int) (p : List St) (x : Shq) : APure Tryz.prog 94 [encS (.mk k o m v p), Wn x] (.bool (if 0 < x.n1 then decide (x.n0 ≤ m) && decide (m ≤ x.n1) else decide ((if (x.cd = true ∧ o = 3) ∨ (x.fn = true ∧ o = 6) then 1 else 0) ≤ m) && decide (m ≤ 9999))) := by
 rw [A7]
 obtain ⟨w, parts, fn, cd, n0, n1, vs⟩ := x
 refine A3 Tryz.func94 XA rfl fun n H hH => ?_
 repeat' (first | (simp -implicitDefEqProofs [SD, SX, c94, -getElem?_pos, splice, AI]) | (simp (disch := omega) only [AH]) | (with_reducible first | refine A8 ?_ ?_ ?_ | exact AF | refine SameB.upd ?_ ?_ _ | assumption | refine A4 ?_ | refine KM.of ?_ | refine AG ?_ | refine A2 ?_ | refine A5 ?_ | intro _g _hg | refine AE ?_ ?_ | intro _hc) | omega)
 all_goals grind
theorem PS (k o m : Int) (v : List Int) (p : List St) (hvb : v.length ≤ 140737488355328) (h3 : k = 2 → v.length = 3) : APure Tryz.prog 95 [encS (.mk k o m v p)] (.bool (BS k 0 v)) := by
 rw [A7]
 refine A3 Tryz.func95 Wt rfl fun n H hH => ?_
 repeat' (first | (simp -implicitDefEqProofs [c95, -getElem?_pos, AI]) | (simp (disch := omega) only [AH]) | (with_reducible first | refine A8 ?_ ?_ ?_ | exact AF | refine SameB.upd ?_ ?_ _ | assumption | refine A4 ?_ | refine KM.of ?_ | refine AG ?_ | refine A2 ?_ | refine A5 ?_ | intro _g _hg | refine AE ?_ ?_ | intro _hc) | omega)
 refine LoopK.go (fun r s => ∃ i : Nat, i + r = v.length ∧ s = ⟨[(1, .ptr _g 0), (8, .sl 1 (v.map aI) .ro), (9, aI v.length), (10, aI i)], _g + 1, upd H _g (some (.cells 25 [aI k, aI o, aI m, .sl 1 (v.map aI) .ro, .sl 5 (AD p) .ro]))⟩ ∧ BS k 0 v = BS k i (v.drop i)) v.length ⟨0, by omega, by simp, rfl⟩ ?_
 rintro r s ⟨i, hi, rfl, hE⟩ J hJ
 by_cases hil : i < v.length
 ·obtain ⟨x, hx⟩ : ∃ x, v[i]? = some x := ⟨_, List.getElem?_eq_getElem hil⟩
  have hx' := Ns (f := aI) hx
  have hil' : (i : Int) < v.length := by omega
  have hvl : (v.map aI).length = v.length := by simp
  rw [RC hx] at hE
  generalize v.map aI = va at *
  by_cases hk : k = 2
  ·have h3 := h3 hk
   subst hk
   rcases (by omega : i = 0 ∨ i = 1 ∨ i = 2) with rfl | rfl | rfl
   all_goals (repeat' (first | (simp -implicitDefEqProofs [I0, IQ, IP, IH, IB, IC, c95, -getElem?_pos, hx', hvl, hil', AI]) | (simp (disch := omega) only [AH]) | (with_reducible first | refine A8 ?_ ?_ ?_ | exact AF | refine SameB.upd ?_ ?_ _ | assumption | refine A4 ?_ | refine KM.of ?_ | refine AG ?_ | refine A2 ?_ | refine A5 ?_ | intro _g _hg | refine AE ?_ ?_ | intro _hc) | omega))
   all_goals (first | (exact hJ (r - 1) _ (by omega) ⟨1, by omega, rfl, by rw [hE]; simp only [EH]; grind⟩) | (exact hJ (r - 1) _ (by omega) ⟨2, by omega, rfl, by rw [hE]; simp only [EH]; grind⟩) | (exact hJ (r - 1) _ (by omega) ⟨3, by omega, rfl, by rw [hE]; simp only [EH]; grind⟩) | (rw [hE]; simp only [EH]; grind) | skip)
  ·repeat' (first | (simp -implicitDefEqProofs [I0, IQ, IP, IH, IB, IC, c95, -getElem?_pos, hx', hvl, hil', hk, AI]) | (simp (disch := omega) only [AH]) | (with_reducible first | refine A8 ?_ ?_ ?_ | exact AF | refine SameB.upd ?_ ?_ _ | assumption | refine A4 ?_ | refine KM.of ?_ | refine AG ?_ | refine A2 ?_ | refine A5 ?_ | intro _g _hg | refine AE ?_ ?_ | intro _hc) | omega)
   all_goals (first | (exact hJ (r - 1) _ (by omega) ⟨i + 1, by omega, rfl, by rw [hE]; simp only [EH]; grind⟩) | (rw [hE]; simp only [EH]; grind) | skip)
 ·have hil' : ¬ (i : Int) < v.length := by omega
  rw [Pc (by omega)] at hE
  rw [hE]
  repeat' (first | (simp -implicitDefEqProofs [I0, IQ, IP, IH, IB, IC, c95, -getElem?_pos, hil', AI]) | (simp (disch := omega) only [AH]) | (with_reducible first | refine A8 ?_ ?_ ?_ | exact AF | refine SameB.upd ?_ ?_ _ | assumption | refine A4 ?_ | refine KM.of ?_ | refine AG ?_ | refine A2 ?_ | refine A5 ?_ | intro _g _hg | refine AE ?_ ?_ | intro _hc) | omega)
set_option maxRecDepth 8000 in
theorem Ov (n : Nat) (H : A6) : ACalls Tryz.prog 39 [] n H fun r n' H' => ∃ g, r = .mp g ∧ n ≤ g ∧ n' = g + 1 ∧ H' = upd H g (some (.map (some .i64) Df)) := by
 refine Bi Tryz.func39 XG rfl fun hs => ?_
 repeat' (first | (simp -implicitDefEqProofs [c39, -getElem?_pos]) | (simp (disch := omega) only [AH]) | (with_reducible first | refine A8 ?_ ?_ ?_ | exact AF | assumption | refine A4 ?_ | refine KM.of ?_ | refine AG ?_ | refine V9 ?_ | intro _g _hg | refine AE ?_ ?_ | intro _hc) | omega)
 simp only [HA]
 exact Ir (r := .mp _) rfl (by omega) (fun k hk => by rw [upd_ne (by omega)]; exact hs k (by omega)) ⟨_, rfl, by omega, rfl, rfl⟩
set_option maxRecDepth 8000 in
theorem VL (k o m : Int) (v : List Int) (p : List St) (hvb : v.length ≤ 140737488355328) (hk : k = 1 ∨ k = 2 ∨ k = 3 ∨ k = 4 ∨ k = 5 ∨ k = 6 ∨ k = 7 ∨ k = 8) (g gs n : Nat) (at_ : Int) (H : A6) (hg : H g = some (.cells 70 [.mp gs, aI at_])) (hgs : H gs = some (.map (some .i64) Df)) : APureAt Tryz.prog 69 [.ptr g 0, encS (.mk k o m v p)] n H (aI (Bp (.mk k o m v p))) := by
 obtain ⟨z, hz⟩ : ∃ z, Bp (.mk k o m v p) = z := ⟨_, rfl⟩
 rw [hz]
 obtain ⟨x, hx, hfd⟩ : ∃ x, Uu[(k - 1).toNat]? = some x ∧ Bk (.int .i64 k) Df = some (Wn x) := by
  rcases hk with rfl | rfl | rfl | rfl | rfl | rfl | rfl | rfl <;> exact ⟨_, rfl, rfl⟩
 have ho := JY k o m v p x
 have hn := Ix k o m v p x
 have hpl := Ao p
 have hva : v.length = 3 ∨ k ≠ 2 → APure Tryz.prog 95 [encS (.mk k o m v p)] (.bool (BS k 0 v)) := fun h => PS k o m v p hvb (fun e => by omega)
 rw [A7] at ho hn hva ⊢
 rcases hk with rfl | rfl | rfl | rfl | rfl | rfl | rfl | rfl
 all_goals
  simp [Bp, Cl, Eq, I8, Kr, Cq, G4, EP, Jn, Jq] at hz
  refine EK Tryz.func69 UA rfl fun hH => ?_
  have hgn : g < n := by
   rcases Nat.lt_or_ge g n with h | h
   ·exact h
   ·rw [hH g h] at hg; cases hg
  have hsn : gs < n := by
   rcases Nat.lt_or_ge gs n with h | h
   ·exact h
   ·rw [hH gs h] at hgs; cases hgs
  generalize Df = sm at *
  simp [Uu] at hx
  subst hx
  simp only [Wn] at ho hn hfd
  
  repeat' (first | (simp -implicitDefEqProofs [I9, Hx, I4, Hs, c69, -getElem?_pos, hg, hgs, hfd, hpl, splice]) | (simp (disch := omega) only [AH]) | ((with_reducible refine Al 93 ?_); (refine' CallP.sf ?_ (ho) ?_); (focus first | (with_reducible exact A0 _) | (simp [AK, AI, A1, A0]; done))) | ((with_reducible refine Al 94 ?_); (refine' CallP.sf ?_ (hn) ?_); (focus first | (with_reducible exact A0 _) | (simp [AK, AI, A1, A0]; done))) | ((with_reducible refine Al 95 ?_); (refine' CallP.sf ?_ ((hva (by omega))) ?_); (focus first | (with_reducible exact A0 _) | (simp [AK, AI, A1, A0]; done))) | (with_reducible first | refine A8 ?_ ?_ ?_ | exact AF | refine SameB.upd ?_ ?_ _ | assumption | refine A4 ?_ | refine KM.of ?_ | refine AG ?_ | refine A2 ?_ | refine A5 ?_ | intro _g _hg | refine AE ?_ ?_ | intro _hc) | omega)
  all_goals (refine BN ?_; first | grind | (rw [← hz]; clear hz; (repeat' split) <;> first | rfl | (exfalso; simp_all; done) | (exfalso; simp_all; omega) | (exfalso; grind)))
set_option maxRecDepth 8000 in
theorem VX (k o m : Int) (v : List Int) (p : List St) (hvb : v.length ≤ 140737488355328) (hk : k = 9 ∨ k = 10 ∨ k = 11 ∨ k = 12 ∨ k = 13 ∨ k = 14 ∨ k = 15 ∨ k = 16) (g gs n : Nat) (at_ : Int) (H : A6) (hg : H g = some (.cells 70 [.mp gs, aI at_])) (hgs : H gs = some (.map (some .i64) Df)) : APureAt Tryz.prog 69 [.ptr g 0, encS (.mk k o m v p)] n H (aI (Bp (.mk k o m v p))) := by
 obtain ⟨z, hz⟩ : ∃ z, Bp (.mk k o m v p) = z := ⟨_, rfl⟩
 rw [hz]
 obtain ⟨x, hx, hfd⟩ : ∃ x, Uu[(k - 1).toNat]? = some x ∧ Bk (.int .i64 k) Df = some (Wn x) := by
  rcases hk with rfl | rfl | rfl | rfl | rfl | rfl | rfl | rfl <;> exact ⟨_, rfl, rfl⟩
 have ho := JY k o m v p x
 have hn := Ix k o m v p x
 have hpl := Ao p
 have hva : v.length = 3 ∨ k ≠ 2 → APure Tryz.prog 95 [encS (.mk k o m v p)] (.bool (BS k 0 v)) := fun h => PS k o m v p hvb (fun e => by omega)
 rw [A7] at ho hn hva ⊢
 rcases hk with rfl | rfl | rfl | rfl | rfl | rfl | rfl | rfl
 all_goals
  simp [Bp, Cl, Eq, I8, Kr, Cq, G4, EP, Jn, Jq] at hz
  refine EK Tryz.func69 UA rfl fun hH => ?_
  have hgn : g < n := by
   rcases Nat.lt_or_ge g n with h | h
   ·exact h
   ·rw [hH g h] at hg; cases hg
  have hsn : gs < n := by
   rcases Nat.lt_or_ge gs n with h | h
   ·exact h
   ·rw [hH gs h] at hgs; cases hgs
  generalize Df = sm at *
  simp [Uu] at hx
  subst hx
  simp only [Wn] at ho hn hfd
  
  repeat' (first | (simp -implicitDefEqProofs [I9, Hx, I4, Hs, c69, -getElem?_pos, hg, hgs, hfd, hpl, splice]) | (simp (disch := omega) only [AH]) | ((with_reducible refine Al 93 ?_); (refine' CallP.sf ?_ (ho) ?_); (focus first | (with_reducible exact A0 _) | (simp [AK, AI, A1, A0]; done))) | ((with_reducible refine Al 94 ?_); (refine' CallP.sf ?_ (hn) ?_); (focus first | (with_reducible exact A0 _) | (simp [AK, AI, A1, A0]; done))) | ((with_reducible refine Al 95 ?_); (refine' CallP.sf ?_ ((hva (by omega))) ?_); (focus first | (with_reducible exact A0 _) | (simp [AK, AI, A1, A0]; done))) | (with_reducible first | refine A8 ?_ ?_ ?_ | exact AF | refine SameB.upd ?_ ?_ _ | assumption | refine A4 ?_ | refine KM.of ?_ | refine AG ?_ | refine A2 ?_ | refine A5 ?_ | intro _g _hg | refine AE ?_ ?_ | intro _hc) | omega)
  all_goals (refine BN ?_; first | grind | (rw [← hz]; clear hz; (repeat' split) <;> first | rfl | (exfalso; simp_all; done) | (exfalso; simp_all; omega) | (exfalso; grind)))
theorem UY {k : Int} (h : ¬ (1 ≤ k ∧ k ≤ 16)) : Bk (.int .i64 k) Df = none := by
 have hne : ∀ j : Int, 1 ≤ j → j ≤ 16 → DL (.int .i64 k) (.int .i64 j) = false := fun j h1 h2 => by
  simp only [DL, decide_true, Bool.true_and, decide_eq_false_iff_not]; omega
 simp only [Df, Bk, hne _ (by omega : (1 : Int) ≤ 1) (by omega), hne 2 (by omega) (by omega), hne 3 (by omega) (by omega), hne 4 (by omega) (by omega), hne 5 (by omega) (by omega), hne 6 (by omega) (by omega), hne 7 (by omega) (by omega), hne 8 (by omega) (by omega), hne 9 (by omega) (by omega), hne 10 (by omega) (by omega), hne 11 (by omega) (by omega), hne 12 (by omega) (by omega), hne 13 (by omega) (by omega), hne 14 (by omega) (by omega), hne 15 (by omega) (by omega), hne 16 (by omega) (by omega), Bool.false_eq_true, if_false]
theorem WO (k o m : Int) (v : List Int) (p : List St) (hvb : v.length ≤ 140737488355328) (g gs n : Nat) (at_ : Int) (H : A6) (hg : H g = some (.cells 70 [.mp gs, aI at_])) (hgs : H gs = some (.map (some .i64) Df)) : APureAt Tryz.prog 69 [.ptr g 0, encS (.mk k o m v p)] n H (aI (Bp (.mk k o m v p))) := by
 by_cases hk : 1 ≤ k ∧ k ≤ 16
 ·rcases (by omega : (k = 1 ∨ k = 2 ∨ k = 3 ∨ k = 4 ∨ k = 5 ∨ k = 6 ∨ k = 7 ∨ k = 8) ∨ (k = 9 ∨ k = 10 ∨ k = 11 ∨ k = 12 ∨ k = 13 ∨ k = 14 ∨ k = 15 ∨ k = 16)) with h | h
  ·exact VL k o m v p hvb h g gs n at_ H hg hgs
  ·exact VX k o m v p hvb h g gs n at_ H hg hgs
 ·have hnc : Bp (.mk k o m v p) = 5 := by simp only [Bp]; rw [if_pos hk]
  have hfd := UY hk
  rw [hnc, A7]
  
  refine EK Tryz.func69 UA rfl fun hH => ?_
  have hgn : g < n := by
   rcases Nat.lt_or_ge g n with h | h
   ·exact h
   ·rw [hH g h] at hg; cases hg
  have hsn : gs < n := by
   rcases Nat.lt_or_ge gs n with h | h
   ·exact h
   ·rw [hH gs h] at hgs; cases hgs
  generalize Df = sm at *
  repeat' (first | (simp -implicitDefEqProofs [I9, Hx, I4, Hs, c69, -getElem?_pos, hg, hgs, hfd, splice, A1]) | (simp (disch := omega) only [AH]) | (with_reducible first | refine A8 ?_ ?_ ?_ | exact AF | refine SameB.upd ?_ ?_ _ | assumption | refine A4 ?_ | refine KM.of ?_ | refine AG ?_ | refine A2 ?_ | refine A5 ?_ | intro _g _hg | refine AE ?_ ?_ | intro _hc) | omega)
mutual
def Cg : St → Prop
 | .mk _ _ _ v p => v.length ≤ 140737488355328 ∧ p.length ≤ 140737488355328 ∧ JM p
def JM : List St → Prop
 | [] => True
 | s :: r => Cg s ∧ JM r
end
theorem CT : ∀ {p : List St}, JM p → ∀ s ∈ p, Cg s
 | [], _, s, h => by cases h
 | x :: r, h, s, hs => by
  rcases List.mem_cons.1 hs with e | hs
  ·rw [e]; exact h.1
  ·exact CT h.2 s hs
theorem BP (s : St) : (encS s).fits (some 5) = true := by cases s; rw [A7]; rfl
theorem CP {p : List St} {i : Nat} {s : St} (h : p[i]? = some s) : (AD p)[i]? = some (encS s) := by rw [E2, List.getElem?_map, h]; rfl
theorem Qz {p : List St} {i j : Nat} {s : St} (h : p[j]? = some s) : Gq (p.drop j) i = if (DH s i).2 ≠ 0 then DH s i else Gq (p.drop (j + 1)) (DH s i).1 := by
 rw [drop_at h, Gq]
theorem UN (s : St) : Cg s → ∀ i : Nat, i ≤ 60 → APure Tryz.prog 37 [encS s, aI i] (.tup [aI ((DH s i).1 : Nat), aI (DH s i).2]) := by
 refine St.ind (Q := fun s => Cg s → ∀ i : Nat, i ≤ 60 → APure Tryz.prog 37 [encS s, aI i] (.tup [aI ((DH s i).1 : Nat), aI (DH s i).2])) ?_ s
 intro k o m v p ih hfit i hi
 obtain ⟨hv, hp, hpp⟩ := hfit
 have hsf := MQ k o m v p hv
 rw [DH]
 rw [A7] at hsf ⊢
 
 refine A3 Tryz.func37 Xh rfl fun n H hH => ?_
 by_cases h60 : 60 ≤ i
 ·rw [if_pos h60]
  have h60' : (60 : Int) ≤ i := by omega
  repeat' (first | (simp -implicitDefEqProofs [c37, -getElem?_pos, h60', AI, AK]) | (simp (disch := omega) only [AH]) | (with_reducible first | refine A8 ?_ ?_ ?_ | exact AF | refine SameB.upd ?_ ?_ _ | assumption | refine A4 ?_ | refine KM.of ?_ | refine AG ?_ | refine A2 ?_ | refine A5 ?_ | intro _g _hg | refine AE ?_ ?_ | intro _hc) | omega)
 ·rw [if_neg h60]
  have h60' : ¬ (60 : Int) ≤ i := by omega
  generalize hc : Bp (.mk k o m v p) = c at *
  by_cases hc0 : c = 0
  ·rw [if_neg (by simpa using hc0)]
   have hpl := Ao p
   subst hc0
   repeat' (first | (simp -implicitDefEqProofs [c37, Eh, Ez, -getElem?_pos, h60']) | (simp (disch := omega) only [AH]) | ((with_reducible refine Al 68 ?_); (refine' CallP.sf ?_ (hsf) ?_); (focus first | (with_reducible exact A0 _) | (simp [AK, AI, A1, A0]; done))) | (with_reducible first | refine A8 ?_ ?_ ?_ | exact AF | refine SameB.upd ?_ ?_ _ | assumption | refine A4 ?_ | refine KM.of ?_ | refine AG ?_ | refine A2 ?_ | refine A5 ?_ | intro _g _hg | refine AE ?_ ?_ | intro _hc) | omega)
   refine LoopK.go (fun r st => ∃ (j q : Nat), j + r = p.length ∧ st = ⟨[(2, .ptr _g 0), (7, aI q), (8, aI j)], _g + 1, upd H _g (some (.cells 25 [aI k, aI o, aI m, N6 v, .sl 5 (AD p) .ro]))⟩ ∧ q ≤ 60 ∧ Gq p (i + 1) = Gq (p.drop j) q) p.length ⟨0, i + 1, by omega, by simp, by omega, rfl⟩ ?_
   rintro r st ⟨j, q, hj, rfl, hq, hE⟩ J hJ
   by_cases hjl : j < p.length
   ·obtain ⟨x, hx⟩ : ∃ x, p[j]? = some x := ⟨_, List.getElem?_eq_getElem hjl⟩
    have hxm := List.mem_of_getElem? hx
    have hst := ih x hxm (CT hpp x hxm) q hq
    have hxe := CP hx
    have hxf := BP x
    have hjl' : (j : Int) < p.length := by omega
    rw [Qz hx] at hE
    generalize encS x = ex at *
    generalize AD p = ep at *
    by_cases h2 : (DH x q).2 = 0
    ·rw [if_neg (by simpa using h2)] at hE
     obtain ⟨_, _, h3⟩ := ID x q h2
     rw [h2] at hst
     
     repeat' (first | (simp -implicitDefEqProofs [G9, GL, GD, GP, GK, Ez, Eh, c37, -getElem?_pos, hpl, hjl', hxe, hxf, -AV.fits]) | (simp (disch := omega) only [AH]) | ((with_reducible refine Al 37 ?_); (refine' CallP.sf ?_ (hst) ?_); (focus first | (with_reducible exact A0 _) | (simp [AK, AI, A1, A0]; done))) | (with_reducible first | refine A8 ?_ ?_ ?_ | exact AF | refine SameB.upd ?_ ?_ _ | assumption | refine A4 ?_ | refine KM.of ?_ | refine AG ?_ | refine A2 ?_ | refine A5 ?_ | intro _g _hg | refine AE ?_ ?_ | intro _hc) | omega)
     exact hJ (r - 1) _ (by omega) ⟨j + 1, (DH x q).1, by omega, rfl, h3, hE⟩
    ·rw [if_pos h2] at hE
     rw [hE]
     
     repeat' (first | (simp -implicitDefEqProofs [G9, GL, GD, GP, GK, Ez, Eh, c37, -getElem?_pos, hpl, hjl', hxe, hxf, -AV.fits, h2, AI, AK]) | (simp (disch := omega) only [AH]) | ((with_reducible refine Al 37 ?_); (refine' CallP.sf ?_ (hst) ?_); (focus first | (with_reducible exact A0 _) | (simp [AK, AI, A1, A0]; done))) | (with_reducible first | refine A8 ?_ ?_ ?_ | exact AF | refine SameB.upd ?_ ?_ _ | assumption | refine A4 ?_ | refine KM.of ?_ | refine AG ?_ | refine A2 ?_ | refine A5 ?_ | intro _g _hg | refine AE ?_ ?_ | intro _hc) | omega)
   ·have hjl' : ¬ (j : Int) < p.length := by omega
    rw [List.drop_eq_nil_of_le (by omega), Gq] at hE
    rw [hE]
    
    repeat' (first | (simp -implicitDefEqProofs [G9, GL, GD, GP, GK, Ez, Eh, c37, -getElem?_pos, hpl, hjl', AI, AK]) | (simp (disch := omega) only [AH]) | (with_reducible first | refine A8 ?_ ?_ ?_ | exact AF | refine SameB.upd ?_ ?_ _ | assumption | refine A4 ?_ | refine KM.of ?_ | refine AG ?_ | refine A2 ?_ | refine A5 ?_ | intro _g _hg | refine AE ?_ ?_ | intro _hc) | omega)
  ·rw [if_pos hc0]
   repeat' (first | (simp -implicitDefEqProofs [G9, GL, GD, GP, GK, Ez, Eh, c37, -getElem?_pos, h60', hc0, AI, AK]) | (simp (disch := omega) only [AH]) | ((with_reducible refine Al 68 ?_); (refine' CallP.sf ?_ (hsf) ?_); (focus first | (with_reducible exact A0 _) | (simp [AK, AI, A1, A0]; done))) | (with_reducible first | refine A8 ?_ ?_ ?_ | exact AF | refine SameB.upd ?_ ?_ _ | assumption | refine A4 ?_ | refine KM.of ?_ | refine AG ?_ | refine A2 ?_ | refine A5 ?_ | intro _g _hg | refine AE ?_ ?_ | intro _hc) | omega)
end Go.Proofs.YtjdccdelcnmocaaGreatDoor
