/- What is asked at a function's end, and how a function's contract comes of its code; no condition. -/
import Derived.Test.YtnfjgphfaemjcaaGreatDoorMgC
set_option linter.all false
namespace Go.Proofs.YtnfjgphfaemjcaaGreatDoor
variable {R : Gk} {res : List ARes} {r v : AV} {sh s : Cm} {l cs args : List AV} {k : IntKind} {z g o f t m sz id lw lo q off len b : Nat} {j : Int} {ops os : List AOper} {c : ACode} {ks gs : List Nat} {want neg mx ok ng : Bool} {op : AOp} {ob : AObj} {md : Mode} {x y i : Opd} {ps : List (Nat × Cm × Opd)} {u el : TypeId} {xs : List Opd} {A : Prop} {kk : Option IntKind} {X : AS → Prop}
def G7 (s : AS) : ARes → Option AV
 | .tmp t => some (get s.e t)
 | .cell t sh => Ap s.H sh (get s.e t)
def Cw (s : AS) : List ARes → Option (List AV)
 | [] => some []
 | r :: rs => match G7 s r, Cw s rs with | some x, some xs => some (x :: xs) | _, _ => none
def BS (s : AS) (rs : List ARes) : Option AV :=
 match Cw s rs with
 | some [x] => some x
 | some xs => some (.tup xs)
 | none => none
def SameB (n : Nat) (H H' : A3) : Prop := ∀ k, k < n → H' k = H k
def Ga (v : AV) (n : Nat) (H : A3) (res : List ARes) : AExit → AS → Prop
 | .normal, s | .ret, s => (∃ x, BS s res = some x ∧ A4 x v) ∧ n ≤ s.n ∧ SameB n H s.H
 | _, _ => False
def fin (R : Gk) (n : Nat) (res : List ARes) : AExit → AS → Prop
 | .normal, s | .ret, s => ∃ r n' H', (∃ x, BS s res = some x ∧ A4 x r) ∧ n ≤ n' ∧ n' ≤ s.n ∧ (∀ k, n' ≤ k → H' k = none) ∧ SameB n' H' s.H ∧ R r n' H'
 | _, _ => False
theorem SameB.rfl_ (n : Nat) (H : A3) : SameB n H H := fun _ _ => rfl
theorem Bi {n m : Nat} {e : AH} {H : A3} (h1 : BS ⟨e, m, H⟩ res = some r) (h2 : n ≤ m) (h3 : ∀ k, m ≤ k → H k = none) (h4 : R r m H) : fin R n res .ret ⟨e, m, H⟩ :=
 ⟨r, m, H, ⟨r, h1, A1 _⟩, h2, Nat.le_refl _, h3, SameB.rfl_ _ _, h4⟩
theorem Rj {n m : Nat} {e : AH} {H : A3} (h1 : BS ⟨e, m, H⟩ res = some r) (h2 : n ≤ m) (h3 : ∀ k, m ≤ k → H k = none) (h4 : R r m H) : fin R n res .normal ⟨e, m, H⟩ :=
 ⟨r, m, H, ⟨r, h1, A1 _⟩, h2, Nat.le_refl _, h3, SameB.rfl_ _ _, h4⟩
theorem SameB.upd {n : Nat} {H H' : A3} (h : SameB n H H') {g : Nat} (hg : n ≤ g) (x : Option AObj) : SameB n H (upd H' g x) := fun k hk => by
 unfold Go.Proofs.YtnfjgphfaemjcaaGreatDoor.upd; rw [if_neg (by omega)]; exact h k hk
theorem AN (H : A3) (g : Nat) (x : Option AObj) : upd H g x g = x := by simp [upd]
theorem upd_ne {H : A3} {g k : Nat} {x : Option AObj} (h : k ≠ g) : upd H g x k = H k := by simp [upd, h]
theorem DK (H : A3) (g : Nat) (x y : Option AObj) : upd (upd H g x) g y = upd H g y := by funext k; simp only [upd]; split <;> rfl
def Sg (ng t : Bool) : AV := .bool (if ng then !t else t)
def JD (ks : List FK) (ng : Bool) : AV → AV → Option AV
 | .agg a, .agg b => (CH ks a b).map (Sg ng)
 | _, _ => none
def JH (ng : Bool) : AV → AV → Option AV
 | .bool a, .bool b => some (.bool (if ng then !(a == b) else a == b))
 | _, _ => none
def JE : AV → Option AV | .int k n => some (.int k (k.wrap (0 - n))) | _ => none
def JI : AV → Option AV | .bool b => some (.bool (!b)) | _ => none
def JA (k : IntKind) : AV → Option AV | .int _ n => some (.int k (k.wrap n)) | _ => none
def Dx (x : AV) (o : Nat) (s : Cm) : Option AV := match x with | .agg cs => part cs o s | _ => none
def G0 : AV → AV → Option AV
 | .str s, .int _ j => if 0 ≤ j then (s[j.toNat]?).map fun b => .int .u8 b.toNat else none
 | _, _ => none
def Fz (len sz : Nat) (s : Cm) : AV → AV → Option AV
 | .agg cs, .int _ j => if 0 ≤ j ∧ j < len then part cs (j.toNat * sz) s else none
 | _, _ => none
def Rs : AV → Option AV | .sl _ l _ => some (.int .i64 l.length) | .slm _ _ _ n => some (.int .i64 n) | .slg _ _ n => some (.int .i64 n) | _ => none
def G4 : AV → Option AV | .str s => some (.int .i64 s.length) | _ => none
def G3 (i : Nat) : AV → Option AV | .tup vs => vs[i]? | _ => none
def E0 : AV → Option AV | .ptr g o => some (.ptr g o) | .ref x => some (.ref x) | .fn f a b => if a.isEmpty then some (.fn f a b) else none | _ => none
def Dn (z : List AV) (ps : List (Nat × Cm × AV)) : Option AV := if FA z.length ps then some (.agg (Fo z (ps.map fun (o, _, x) => (o, x)))) else none
def UK (mx : Bool) : AV → AV → Option AV
 | .int k a, .int k' b => if k = k' then some (.int k (if mx then max a b else min a b)) else none
 | _, _ => none
def JM : AV → Option AV | .sl _ l _ => (bytesOf l).map .str | _ => none
def JK : AV → Option AV | .int _ n => some (.str (Utf8.encode n).data.toList) | _ => none
def G5 (ng : Bool) : AV → AV → Option AV
 | .ptr g o, .ptr g' o' => if g = g' then some (.bool (if ng then !(decide (o = o')) else decide (o = o'))) else none
 | _, _ => none
def JJ (d : Option Nat) (K : AS → Prop) (e : AH) (n : Nat) (H : A3) : AV → Prop
 | .str b => b.length ≤ maxLen ∧ ∀ n', n ≤ n' → K ⟨AD e d (.sl 1 (b.map fun u => .int .u8 u.toNat) .ro), n', H⟩
 | _ => False
def JN (d : Option Nat) (K : AS → Prop) (e : AH) (n : Nat) (H : A3) : AV → Prop
 | .sl sz l (.own g) => l ≠ [] ∧ K ⟨AD e d (.sl sz l .ro), n, upd H g none⟩
 | _ => False
def A4x (kk : Option IntKind) (d : Option Nat) (K : AS → Prop) (e : AH) (n : Nat) (H : A3) : Prop := ∀ g, n ≤ g → K ⟨AD e d (.mp g), g + 1, upd H g (some (.map kk []))⟩
def DI (P : Program) (d : Option Nat) (K : AS → Prop) (e : AH) (n : Nat) (H : A3) (xs : List AV) : AV → Prop
 | .fn f a b => Ec P f = true ∧ CallK P f (a ++ xs ++ b) d K ⟨e, n, H⟩
 | _ => False
def BQ (sh : Cm) (x : AV) : Prop := x.fits sh = true ∧ ones x.cells
def IQ (sh : Cm) (l : List AV) : Prop := ∀ x ∈ l, BQ sh x
theorem LI : IQ sh [] = True := by simp [IQ]
theorem LQ {x : AV} : IQ sh (x :: l) = (BQ sh x ∧ IQ sh l) := by simp [IQ]
theorem LO {s : List UInt8} : BQ none (.str s) = True := by simp [BQ, AV.fits, ones, AV.cells, AV.one]
theorem K7 {i : Int} : BQ none (.int k i) = True := by simp [BQ, AV.fits, ones, AV.cells, AV.one]
theorem L2 {b : Bool} : BQ none (.bool b) = True := by simp [BQ, AV.fits, ones, AV.cells, AV.one]
theorem J6 {t : Tok} : BQ none (.sl z l t) = True := by simp [BQ, AV.fits, ones, AV.cells, AV.one]
theorem Jq : BQ none (.ptr g o) = True := by simp [BQ, AV.fits, ones, AV.cells, AV.one]
theorem Lf : BQ none .np = True := by simp [BQ, AV.fits, ones, AV.cells, AV.one]
theorem Jf {x : AV} : BQ none (.ref x) = True := by simp [BQ, AV.fits, ones, AV.cells, AV.one]
theorem KD {a b : List AV} : BQ none (.fn f a b) = True := by simp [BQ, AV.fits, ones, AV.cells, AV.one]
theorem L3 : BQ none .nfn = True := by simp [BQ, AV.fits, ones, AV.cells, AV.one]
theorem LZ : BQ none (.ifc t v) = True := by simp [BQ, AV.fits, ones, AV.cells, AV.one]
theorem Lh : BQ none .nif = True := by simp [BQ, AV.fits, ones, AV.cells, AV.one]
theorem Jp {s : Nat} : BQ (some s) (.agg cs) = (cs.length = s ∧ ones cs) := by simp [BQ, AV.fits, AV.cells]
def A46 (sh : Cm) (d : Option Nat) (K : AS → Prop) (e : AH) (n : Nat) (H : A3) (v : AV) (g o : Nat) : Option AObj → Prop
 | some (.cells t cs) => BQ sh v ∧ o + v.cells.length ≤ cs.length ∧ K ⟨AD e d .any, n, upd H g (some (.cells t (splice cs o v.cells)))⟩
 | some (.grow t cs) => BQ sh v ∧ o + v.cells.length ≤ cs.length ∧ K ⟨AD e d .any, n, upd H g (some (.grow t (splice cs o v.cells)))⟩
 | _ => False
theorem Lc {d : Option Nat} {K : AS → Prop} {e : AH} {n : Nat} {H : A3} : Cz sh d K ⟨e, n, H⟩ v (.ptr g o) = A46 sh d K e n H v g o (H g) := by
 show (match H g with | some (.cells e' cs) => _ | some (.grow e' cs) => _ | _ => False) = _
 cases H g with
 | none => rfl
 | some ob => cases ob with
  | cells t cs => exact propext and_assoc.symm
  | grow t cs => exact propext and_assoc.symm
  | _ => rfl
theorem LW {d : Option Nat} {K : AS → Prop} {e : AH} {n : Nat} {H : A3} {t : TypeId} : A46 sh d K e n H v g o (some (.cells t cs)) = (BQ sh v ∧ o + v.cells.length ≤ cs.length ∧ K ⟨AD e d .any, n, upd H g (some (.cells t (splice cs o v.cells)))⟩) := rfl
theorem LS {d : Option Nat} {K : AS → Prop} {e : AH} {n : Nat} {H : A3} {t : TypeId} : A46 sh d K e n H v g o (some (.grow t cs)) = (BQ sh v ∧ o + v.cells.length ≤ cs.length ∧ K ⟨AD e d .any, n, upd H g (some (.grow t (splice cs o v.cells)))⟩) := rfl
theorem LG : Rs (.slg z g m) = some (.int .i64 m) := rfl
theorem LD : Cy sz s (.slg z g m) (.int k j) = if z = sz ∧ 0 ≤ j ∧ j < m then some (.ptr g (j.toNat * sz)) else none := rfl
theorem LH : Rs (.slm z g o m) = some (.int .i64 m) := rfl
theorem L4 : Cy sz s (.slm z g o m) (.int k j) = if z = sz ∧ 0 ≤ j ∧ j < m then some (.ptr g (o + j.toNat * sz)) else none := rfl
theorem Jt : AG [] = [] := rfl
theorem KQ {x : AV} : AG (x :: l) = x.cells ++ AG l := rfl
theorem L8 {t : Tok} : Rs (.sl z l t) = some (.int .i64 l.length) := rfl
theorem L1 {t : Tok} : Cy sz s (.sl z l t) (.int k j) = if z = sz ∧ 0 ≤ j then (match l[j.toNat]? with | some y => if y.fits s then some (.ref y) else none | none => none) else none := rfl
theorem KE {t : Tok} {lo hi : Option AV} : Ha sz (.sl z l t) lo hi = if z = sz ∨ l = [] then (EV lo hi l.length).map fun (a, b) => .sl sz ((l.take b).drop a) .ro else none := rfl
theorem Ky {sz z g n : Nat} {lo hi : Option AV} : Ha sz (.slg z g n) lo hi = if z = sz then (EV lo hi n).bind fun (a, b) => if a = 0 then some (.slg sz g b) else none else none := rfl
def A14 (ob : AObj) (d : Option Nat) (K : AS → Prop) (e : AH) (n : Nat) (H : A3) : Prop := ∀ g, n ≤ g → K ⟨AD e d (.ptr g 0), g + 1, upd H g (some ob)⟩
def Uh (sz : Nat) (l : List AV) (ob : AObj) (d : Option Nat) (K : AS → Prop) (e : AH) (n : Nat) (H : A3) : Prop := ∀ g, n ≤ g → K ⟨AD e d (.sl sz l (.own g)), g + 1, upd H g (some ob)⟩
def KS (o : Option AV) (d : Option Nat) (K : AS → Prop) (e : AH) (n : Nat) (H : A3) : Prop :=
 match o with
 | some v => K ⟨AD e d v, n, H⟩
 | none => False
theorem KI {d : Option Nat} {K : AS → Prop} {e : AH} {n : Nat} {H : A3} : KS (some v) d K e n H = K ⟨AD e d v, n, H⟩ := rfl
theorem Jh {d : Option Nat} {K : AS → Prop} {e : AH} {n : Nat} {H : A3} : KS none d K e n H = False := rfl
section
variable {P : Program} {e : AH} {n : Nat} {H : A3} {Q : AExit → AS → Prop} {K : AS → Prop}
theorem KJ : aw P .skip Q ⟨e, n, H⟩ = Q .normal ⟨e, n, H⟩ := rfl
theorem EJ : aw P (.reg ops) Q ⟨e, n, H⟩ = awOps P ops (Q .normal) ⟨e, n, H⟩ := rfl
theorem EI {a b : ACode} : aw P (.seq a b) Q ⟨e, n, H⟩ = aw P a (Ef (aw P b Q) Q) ⟨e, n, H⟩ := rfl
theorem KX {c : Opd} {a b : ACode} : aw P (.cond c a b) Q ⟨e, n, H⟩ = EO (aw P a Q ⟨e, n, H⟩) (aw P b Q ⟨e, n, H⟩) (ev e c) := rfl
theorem LT : aw P (.block id c) Q ⟨e, n, H⟩ = aw P c (FS id Q) ⟨e, n, H⟩ := rfl
theorem Lg : aw P (.loop c) Q ⟨e, n, H⟩ = LoopK (fun Q s => aw P c Q s) Q ⟨e, n, H⟩ := rfl
theorem L9 : aw P (.exit id) Q ⟨e, n, H⟩ = Q (.exit id) ⟨e, n, H⟩ := rfl
theorem EG : aw P .ret Q ⟨e, n, H⟩ = Q .ret ⟨e, n, H⟩ := rfl
theorem ED : aw P .bad Q ⟨e, n, H⟩ = False := rfl
theorem Fy : aw P (.kp ks c) Q ⟨e, n, H⟩ = aw P c Q ⟨D9 e ks, n, H⟩ := rfl
theorem GP : aw P (.ke ks c) Q ⟨e, n, H⟩ = aw P c (PI ks Q) ⟨e, n, H⟩ := rfl
theorem LK : PI ks Q .normal ⟨e, n, H⟩ = Q .normal ⟨D9 e ks, n, H⟩ := rfl
theorem KU {i : Nat} {s : AS} : PI ks Q (.exit i) s = Q (.exit i) s := rfl
theorem Kz {s : AS} : PI ks Q .ret s = Q .ret s := rfl
theorem Ji {l : List Seg} : aw P (.segs l) Q ⟨e, n, H⟩ = AT P l (Q .normal) ⟨e, n, H⟩ := rfl
theorem KH : AT P [] K ⟨e, n, H⟩ = K ⟨e, n, H⟩ := rfl
def A3y (o : Option AV) (d : Nat) (ops : List AOper) (K : AS → Prop) (e : AH) (n : Nat) (H : A3) : Prop :=
 match o with
 | some v => K ⟨put (Ed e ops) d v, n, H⟩
 | none => False
theorem LA {d : Nat} {K : AS → Prop} {e : AH} {n : Nat} {H : A3} : A3y (some v) d ops K e n H = K ⟨put (Ed e ops) d v, n, H⟩ := rfl
theorem LF {d : Nat} {K : AS → Prop} {e : AH} {n : Nat} {H : A3} : A3y none d ops K e n H = False := rfl
theorem J9 {t d x : Nat} {l : List Seg} : AT P (⟨some (t, want), ops, some (d, x)⟩ :: l) K ⟨e, n, H⟩ = A3y (Qt want x (get e t) (DF ops e H)) d ops (AT P l K) e n H := rfl
def evS (o : Option AV) (d : Option Nat) (os : List AOper) (e : AH) (H : A3) : Option AH :=
 match o with
 | some v => DF os (AD e d v) H
 | none => none
theorem Kq {d : Option Nat} {H : A3} : evS (some v) d os e H = DF os (AD e d v) H := rfl
theorem KB {d : Option Nat} {H : A3} : evS none d os e H = none := rfl
theorem Ki {H : A3} : DF [] e H = some e := rfl
theorem Li {d : Option Nat} {g : Option (Nat × Bool)} {H : A3} : DF (⟨d, op, g⟩ :: os) e H = evS (pe op e H) d os e H := rfl
theorem J5 {l : List Seg} {p : Option (Nat × Nat)} : AT P (⟨none, ops, p⟩ :: l) K ⟨e, n, H⟩ = awOps P ops (AT P l K) ⟨e, n, H⟩ := rfl
theorem PM {v : AV} (hv : v ≠ .any) : ∀ {e : AH} {t : Nat}, get e t = v → EW e t v = e
 | [], t, h => absurd h.symm hv
 | (k, u) :: r, t, h => by
  simp only [get] at h
  simp only [EW]
  split
  ·rename_i hk; rw [if_pos hk] at h; rw [h, hk]
  ·rename_i hk; rw [if_neg hk] at h; rw [PM hv h]
def Dl (want : Bool) (A B C : Prop) : AV → Prop
 | .bool b => (b = want → A) ∧ (b ≠ want → B)
 | .und => C
 | _ => False
theorem J7 {l : List Seg} : AT P (⟨some (t, want), ops, none⟩ :: l) K ⟨e, n, H⟩ = Dl want (awOps P ops (AT P l K) ⟨EW e t (.bool want), n, H⟩) (AT P l K ⟨Er (EW e t (.bool (!want))) ops, n, H⟩) (AT P l K ⟨Er e ops, n, H⟩) (get e t) := by
 show guardK want _ (AT P l K ⟨Er e ops, n, H⟩) _ = _
 generalize hg : get e t = v
 cases v <;> try rfl
 rename_i b
 simp only [guardK, Dl, eq_iff_iff]
 by_cases hb : b = want
 ·subst hb
  rw [PM (by simp) hg]
  simp
 ·have hb' : b = !want := by cases b <;> cases want <;> simp_all
  subst hb'
  rw [PM (by simp) hg]
  simp
theorem Jv : awOps P [] K ⟨e, n, H⟩ = K ⟨e, n, H⟩ := rfl
theorem Kn {d : Option Nat} : awOps P (⟨d, op, none⟩ :: os) K ⟨e, n, H⟩ = AF P d op (awOps P os K) ⟨e, n, H⟩ := rfl
theorem Jl {m : Mode} {S : List Nat} : aw P (.regD m S ops) Q ⟨e, n, H⟩ = gsK P m (Rm e S) ops (Q .normal) ⟨e, n, H⟩ := rfl
theorem Kx {m : Mode} {s : AS} : gsK P m (some gs) ops K s = gsM P m gs ops K s := rfl
theorem Hz {m : Mode} (h : A7 P m n gs ops K ⟨e, n, H⟩) : gsM P m gs ops K ⟨e, n, H⟩ := ⟨[], Gi h fun _ h => .of h⟩
theorem VD {m : Mode} (ms : List Nat) (h : A7 P m n (ms ++ gs) ops K ⟨e, n, H⟩) : gsM P m gs ops K ⟨e, n, H⟩ := ⟨ms, Gi h fun _ h => .of h⟩
theorem LM : Rm e [] = some [] := rfl
theorem K0 {ts : List Nat} : Rm e (t :: ts) = gsC (get e t) (Rm e ts) := rfl
theorem KZ : gsC (.ptr g o) (some gs) = some (g :: gs) := rfl
def TA (ob : AObj) (d : Option Nat) (K : AS → Prop) (e : AH) (n : Nat) (H : A3) : Prop := ∀ g, n ≤ g → H g = none → K ⟨AD e d (.ptr g 0), g + 1, upd H g (some ob)⟩
theorem QI {d : Option Nat} {H : A3} (h : A14 ob d K e n H) : TA ob d K e n H := fun g hg _ => h g hg
def Vp (sz : Nat) (l : List AV) (ob : AObj) (d : Option Nat) (K : AS → Prop) (e : AH) (n : Nat) (H : A3) : Prop := ∀ g, n ≤ g → H g = none → K ⟨AD e d (.sl sz l (.own g)), g + 1, upd H g (some ob)⟩
theorem PY {d : Option Nat} {H : A3} (h : Uh sz l ob d K e n H) : Vp sz l ob d K e n H := fun g hg _ => h g hg
theorem KP : A7 P md lw gs [] K ⟨e, n, H⟩ = K ⟨e, n, H⟩ := rfl
theorem Jr {d : Option Nat} : A7 P md lw gs (⟨d, .load sh x, none⟩ :: os) K ⟨e, n, H⟩ = KS (Ap (AU gs (hM md H)) sh (ev e x)) d (A7 P md lw gs os K) e n H := rfl
def Pa (md : Mode) (lo : Nat) (ob : AObj) (d : Option Nat) (K : AS → Prop) (e : AH) (n : Nat) (H : A3) : Prop := newK md lo ⟨e, n, H⟩ fun g n' => K ⟨AD e d (.ptr g 0), n', upd H g (some ob)⟩
def Tf (md : Mode) (lo : Nat) (sz : Nat) (l : List AV) (ob : AObj) (d : Option Nat) (K : AS → Prop) (e : AH) (n : Nat) (H : A3) : Prop := newK md lo ⟨e, n, H⟩ fun g n' => K ⟨AD e d (.sl sz l (.own g)), n', upd H g (some ob)⟩
theorem Kg {d : Option Nat} {H : A3} : Pa .plain lo ob d K e n H = TA ob d K e n H := rfl
theorem Jm {d : Option Nat} {H : A3} : Pa .late lo ob d K e n H = TA ob d K e n H := rfl
theorem Ju {d : Option Nat} {H : A3} : Pa (.last q) lo ob d K e n H = TA ob d K e n H := rfl
theorem Kk {d : Option Nat} {H : A3} : Tf .plain lo sz l ob d K e n H = Vp sz l ob d K e n H := rfl
theorem K6 {d : Option Nat} {H : A3} : Tf .late lo sz l ob d K e n H = Vp sz l ob d K e n H := rfl
theorem L6 {d : Option Nat} {H : A3} : Tf (.last q) lo sz l ob d K e n H = Vp sz l ob d K e n H := rfl
theorem Kp {H : A3} : hM .plain H = H := rfl
theorem KT {H : A3} : hM .late H = H := rfl
theorem L5 {H : A3} : hM (.last q) H = H := rfl
theorem K5 {H : A3} : hM .free H = H := rfl
theorem Kw {H : A3} : hM .early H = H := rfl
theorem LJ {H : A3} : hM .refs H = fun _ => none := rfl
theorem Jy {d : Option Nat} {H : A3} : Pa .early lo ob d K e n H = TA ob d K e n H := rfl
theorem Py {d : Option Nat} {H : A3} (hlo : lo ≤ n) (hex : FreeH H) (h : ∀ g n', lo ≤ g → H g = none → n ≤ n' → g < n' → K ⟨AD e d (.ptr g 0), n', upd H g (some ob)⟩) : Pa .refs lo ob d K e n H := ⟨hlo, hex, h⟩
theorem P6 {d : Option Nat} {H : A3} (hlo : lo ≤ n) (hex : FreeH H) (h : ∀ g n', lo ≤ g → H g = none → n ≤ n' → g < n' → K ⟨AD e d (.sl sz l (.own g)), n', upd H g (some ob)⟩) : Tf .free lo sz l ob d K e n H := ⟨hlo, hex, h⟩
theorem Jo {d : Option Nat} {t : TypeId} {z : List AV} : A7 P md lw gs (⟨d, .alloc t z, none⟩ :: os) K ⟨e, n, H⟩ = (ones z ∧ Pa md lw (.cells t z) d (A7 P md lw gs os K) e n H) := rfl
theorem L0 {d : Option Nat} {x v : Opd} : A7 P md lw gs (⟨d, .store sh x v, none⟩ :: os) K ⟨e, n, H⟩ = (JO md lw gs x (ev e x) ∧ Cz sh d (A7 P md lw gs os K) ⟨e, n, H⟩ (ev e v) (ev e x)) := rfl
theorem FN {d : Option Nat} : A7 P md lw gs (⟨d, .mv x, some (t, want)⟩ :: os) K ⟨e, n, H⟩ = guardK want (AF P d (.mv x) (A7 P md lw gs os K) ⟨e, n, H⟩) (A7 P md lw gs os K ⟨AD e d .und, n, H⟩) (get e t) := by
 show (match get e t with | .bool b => _ | .und => _ | _ => False) = _
 cases get e t <;> rfl
theorem Np {d : Option Nat} {op : BinOp} : A7 P md lw gs (⟨d, .bin op x y, some (t, want)⟩ :: os) K ⟨e, n, H⟩ = guardK want (AF P d (.bin op x y) (A7 P md lw gs os K) ⟨e, n, H⟩) (A7 P md lw gs os K ⟨AD e d .und, n, H⟩) (get e t) := by
 show (match get e t with | .bool b => _ | .und => _ | _ => False) = _
 cases get e t <;> rfl
theorem Od {d : Option Nat} {ks : List FK} : A7 P md lw gs (⟨d, .eqs ks neg x y, some (t, want)⟩ :: os) K ⟨e, n, H⟩ = guardK want (AF P d (.eqs ks neg x y) (A7 P md lw gs os K) ⟨e, n, H⟩) (A7 P md lw gs os K ⟨AD e d .und, n, H⟩) (get e t) := by
 show (match get e t with | .bool b => _ | .und => _ | _ => False) = _
 cases get e t <;> rfl
theorem OB {d : Option Nat} : A7 P md lw gs (⟨d, .eqb neg x y, some (t, want)⟩ :: os) K ⟨e, n, H⟩ = guardK want (AF P d (.eqb neg x y) (A7 P md lw gs os K) ⟨e, n, H⟩) (A7 P md lw gs os K ⟨AD e d .und, n, H⟩) (get e t) := by
 show (match get e t with | .bool b => _ | .und => _ | _ => False) = _
 cases get e t <;> rfl
theorem Nv {d : Option Nat} : A7 P md lw gs (⟨d, .eqn neg x, some (t, want)⟩ :: os) K ⟨e, n, H⟩ = guardK want (AF P d (.eqn neg x) (A7 P md lw gs os K) ⟨e, n, H⟩) (A7 P md lw gs os K ⟨AD e d .und, n, H⟩) (get e t) := by
 show (match get e t with | .bool b => _ | .und => _ | _ => False) = _
 cases get e t <;> rfl
theorem Nq {d : Option Nat} : A7 P md lw gs (⟨d, .eqp neg x, some (t, want)⟩ :: os) K ⟨e, n, H⟩ = guardK want (AF P d (.eqp neg x) (A7 P md lw gs os K) ⟨e, n, H⟩) (A7 P md lw gs os K ⟨AD e d .und, n, H⟩) (get e t) := by
 show (match get e t with | .bool b => _ | .und => _ | _ => False) = _
 cases get e t <;> rfl
theorem OI {d : Option Nat} : A7 P md lw gs (⟨d, .eqi neg x, some (t, want)⟩ :: os) K ⟨e, n, H⟩ = guardK want (AF P d (.eqi neg x) (A7 P md lw gs os K) ⟨e, n, H⟩) (A7 P md lw gs os K ⟨AD e d .und, n, H⟩) (get e t) := by
 show (match get e t with | .bool b => _ | .und => _ | _ => False) = _
 cases get e t <;> rfl
theorem ON {d : Option Nat} : A7 P md lw gs (⟨d, .neg x, some (t, want)⟩ :: os) K ⟨e, n, H⟩ = guardK want (AF P d (.neg x) (A7 P md lw gs os K) ⟨e, n, H⟩) (A7 P md lw gs os K ⟨AD e d .und, n, H⟩) (get e t) := by
 show (match get e t with | .bool b => _ | .und => _ | _ => False) = _
 cases get e t <;> rfl
theorem OA {d : Option Nat} : A7 P md lw gs (⟨d, .not x, some (t, want)⟩ :: os) K ⟨e, n, H⟩ = guardK want (AF P d (.not x) (A7 P md lw gs os K) ⟨e, n, H⟩) (A7 P md lw gs os K ⟨AD e d .und, n, H⟩) (get e t) := by
 show (match get e t with | .bool b => _ | .und => _ | _ => False) = _
 cases get e t <;> rfl
theorem Nt {d : Option Nat} : A7 P md lw gs (⟨d, .cvi k x, some (t, want)⟩ :: os) K ⟨e, n, H⟩ = guardK want (AF P d (.cvi k x) (A7 P md lw gs os K) ⟨e, n, H⟩) (A7 P md lw gs os K ⟨AD e d .und, n, H⟩) (get e t) := by
 show (match get e t with | .bool b => _ | .und => _ | _ => False) = _
 cases get e t <;> rfl
theorem O0 {d : Option Nat} {lo hi : Option Opd} : A7 P md lw gs (⟨d, .cut sz x lo hi, some (t, want)⟩ :: os) K ⟨e, n, H⟩ = guardK want (AF P d (.cut sz x lo hi) (A7 P md lw gs os K) ⟨e, n, H⟩) (A7 P md lw gs os K ⟨AD e d .und, n, H⟩) (get e t) := by
 show (match get e t with | .bool b => _ | .und => _ | _ => False) = _
 cases get e t <;> rfl
theorem Oj {d : Option Nat} {lo hi : Option Opd} : A7 P md lw gs (⟨d, .cutS x lo hi, some (t, want)⟩ :: os) K ⟨e, n, H⟩ = guardK want (AF P d (.cutS x lo hi) (A7 P md lw gs os K) ⟨e, n, H⟩) (A7 P md lw gs os K ⟨AD e d .und, n, H⟩) (get e t) := by
 show (match get e t with | .bool b => _ | .und => _ | _ => False) = _
 cases get e t <;> rfl
theorem Ns {d : Option Nat} : A7 P md lw gs (⟨d, .faddr x off s, some (t, want)⟩ :: os) K ⟨e, n, H⟩ = guardK want (AF P d (.faddr x off s) (A7 P md lw gs os K) ⟨e, n, H⟩) (A7 P md lw gs os K ⟨AD e d .und, n, H⟩) (get e t) := by
 show (match get e t with | .bool b => _ | .und => _ | _ => False) = _
 cases get e t <;> rfl
theorem Of {d : Option Nat} : A7 P md lw gs (⟨d, .field x off s, some (t, want)⟩ :: os) K ⟨e, n, H⟩ = guardK want (AF P d (.field x off s) (A7 P md lw gs os K) ⟨e, n, H⟩) (A7 P md lw gs os K ⟨AD e d .und, n, H⟩) (get e t) := by
 show (match get e t with | .bool b => _ | .und => _ | _ => False) = _
 cases get e t <;> rfl
theorem O9 {d : Option Nat} : A7 P md lw gs (⟨d, .iaddr sz s x i, some (t, want)⟩ :: os) K ⟨e, n, H⟩ = guardK want (AF P d (.iaddr sz s x i) (A7 P md lw gs os K) ⟨e, n, H⟩) (A7 P md lw gs os K ⟨AD e d .und, n, H⟩) (get e t) := by
 show (match get e t with | .bool b => _ | .und => _ | _ => False) = _
 cases get e t <;> rfl
theorem Nr {d : Option Nat} : A7 P md lw gs (⟨d, .aaddr len sz s x i, some (t, want)⟩ :: os) K ⟨e, n, H⟩ = guardK want (AF P d (.aaddr len sz s x i) (A7 P md lw gs os K) ⟨e, n, H⟩) (A7 P md lw gs os K ⟨AD e d .und, n, H⟩) (get e t) := by
 show (match get e t with | .bool b => _ | .und => _ | _ => False) = _
 cases get e t <;> rfl
theorem Ny {d : Option Nat} : A7 P md lw gs (⟨d, .sidx x i, some (t, want)⟩ :: os) K ⟨e, n, H⟩ = guardK want (AF P d (.sidx x i) (A7 P md lw gs os K) ⟨e, n, H⟩) (A7 P md lw gs os K ⟨AD e d .und, n, H⟩) (get e t) := by
 show (match get e t with | .bool b => _ | .und => _ | _ => False) = _
 cases get e t <;> rfl
theorem O1 {d : Option Nat} : A7 P md lw gs (⟨d, .aidx len sz s x i, some (t, want)⟩ :: os) K ⟨e, n, H⟩ = guardK want (AF P d (.aidx len sz s x i) (A7 P md lw gs os K) ⟨e, n, H⟩) (A7 P md lw gs os K ⟨AD e d .und, n, H⟩) (get e t) := by
 show (match get e t with | .bool b => _ | .und => _ | _ => False) = _
 cases get e t <;> rfl
theorem OQ {d : Option Nat} : A7 P md lw gs (⟨d, .len x, some (t, want)⟩ :: os) K ⟨e, n, H⟩ = guardK want (AF P d (.len x) (A7 P md lw gs os K) ⟨e, n, H⟩) (A7 P md lw gs os K ⟨AD e d .und, n, H⟩) (get e t) := by
 show (match get e t with | .bool b => _ | .und => _ | _ => False) = _
 cases get e t <;> rfl
theorem OW {d : Option Nat} : A7 P md lw gs (⟨d, .lenS x, some (t, want)⟩ :: os) K ⟨e, n, H⟩ = guardK want (AF P d (.lenS x) (A7 P md lw gs os K) ⟨e, n, H⟩) (A7 P md lw gs os K ⟨AD e d .und, n, H⟩) (get e t) := by
 show (match get e t with | .bool b => _ | .und => _ | _ => False) = _
 cases get e t <;> rfl
theorem OK {d : Option Nat} {i : Nat} : A7 P md lw gs (⟨d, .extr x i, some (t, want)⟩ :: os) K ⟨e, n, H⟩ = guardK want (AF P d (.extr x i) (A7 P md lw gs os K) ⟨e, n, H⟩) (A7 P md lw gs os K ⟨AD e d .und, n, H⟩) (get e t) := by
 show (match get e t with | .bool b => _ | .und => _ | _ => False) = _
 cases get e t <;> rfl
theorem No {d : Option Nat} {z : List AV} : A7 P md lw gs (⟨d, .build z ps, some (t, want)⟩ :: os) K ⟨e, n, H⟩ = guardK want (AF P d (.build z ps) (A7 P md lw gs os K) ⟨e, n, H⟩) (A7 P md lw gs os K ⟨AD e d .und, n, H⟩) (get e t) := by
 show (match get e t with | .bool b => _ | .und => _ | _ => False) = _
 cases get e t <;> rfl
theorem FX {d : Option Nat} : A7 P md lw gs (⟨d, .mm mx x y, some (t, want)⟩ :: os) K ⟨e, n, H⟩ = guardK want (AF P d (.mm mx x y) (A7 P md lw gs os K) ⟨e, n, H⟩) (A7 P md lw gs os K ⟨AD e d .und, n, H⟩) (get e t) := by
 show (match get e t with | .bool b => _ | .und => _ | _ => False) = _
 cases get e t <;> rfl
theorem O6 {d : Option Nat} : A7 P md lw gs (⟨d, .load sh x, some (t, want)⟩ :: os) K ⟨e, n, H⟩ = guardK want (KS (Ap (AU gs (hM md H)) sh (ev e x)) d (A7 P md lw gs os K) e n H) (A7 P md lw gs os K ⟨AD e d .und, n, H⟩) (get e t) := by
 show K1 (Ox gs sh x (some (t, want)) e (hM md H)) _ = _
 unfold Ox
 simp only
 cases get e t <;> try rfl
 rename_i b
 simp only [guardK, eq_iff_iff]
 by_cases hb : b = want
 ·rw [if_pos hb]
  exact ⟨fun h => ⟨fun _ => h, fun hne => absurd hb hne⟩, fun h => h.1 hb⟩
 ·rw [if_neg hb]
  exact ⟨fun h => ⟨fun he => absurd he hb, fun _ => h⟩, fun h => h.2 hb⟩
theorem FL {d : Option Nat} : A7 P md lw gs (⟨d, .mv x, none⟩ :: os) K ⟨e, n, H⟩ = AF P d (.mv x) (A7 P md lw gs os K) ⟨e, n, H⟩ := rfl
theorem OT {d : Option Nat} {c a b : Opd} : A7 P md lw gs (⟨d, .pick c a b, none⟩ :: os) K ⟨e, n, H⟩ = AF P d (.pick c a b) (A7 P md lw gs os K) ⟨e, n, H⟩ := rfl
theorem Og {d : Option Nat} {op : BinOp} : A7 P md lw gs (⟨d, .bin op x y, none⟩ :: os) K ⟨e, n, H⟩ = AF P d (.bin op x y) (A7 P md lw gs os K) ⟨e, n, H⟩ := rfl
theorem Nj {d : Option Nat} {ks : List FK} : A7 P md lw gs (⟨d, .eqs ks neg x y, none⟩ :: os) K ⟨e, n, H⟩ = AF P d (.eqs ks neg x y) (A7 P md lw gs os K) ⟨e, n, H⟩ := rfl
theorem NP {d : Option Nat} : A7 P md lw gs (⟨d, .eqb neg x y, none⟩ :: os) K ⟨e, n, H⟩ = AF P d (.eqb neg x y) (A7 P md lw gs os K) ⟨e, n, H⟩ := rfl
theorem NS {d : Option Nat} : A7 P md lw gs (⟨d, .eqn neg x, none⟩ :: os) K ⟨e, n, H⟩ = AF P d (.eqn neg x) (A7 P md lw gs os K) ⟨e, n, H⟩ := rfl
theorem Nn {d : Option Nat} : A7 P md lw gs (⟨d, .eqp neg x, none⟩ :: os) K ⟨e, n, H⟩ = AF P d (.eqp neg x) (A7 P md lw gs os K) ⟨e, n, H⟩ := rfl
theorem Nu {d : Option Nat} : A7 P md lw gs (⟨d, .eqi neg x, none⟩ :: os) K ⟨e, n, H⟩ = AF P d (.eqi neg x) (A7 P md lw gs os K) ⟨e, n, H⟩ := rfl
theorem OF {d : Option Nat} : A7 P md lw gs (⟨d, .neg x, none⟩ :: os) K ⟨e, n, H⟩ = AF P d (.neg x) (A7 P md lw gs os K) ⟨e, n, H⟩ := rfl
theorem NZ {d : Option Nat} : A7 P md lw gs (⟨d, .not x, none⟩ :: os) K ⟨e, n, H⟩ = AF P d (.not x) (A7 P md lw gs os K) ⟨e, n, H⟩ := rfl
theorem NY {d : Option Nat} : A7 P md lw gs (⟨d, .cvi k x, none⟩ :: os) K ⟨e, n, H⟩ = AF P d (.cvi k x) (A7 P md lw gs os K) ⟨e, n, H⟩ := rfl
theorem NN {d : Option Nat} {fst cap : List Opd} : A7 P md lw gs (⟨d, .mkfn f fst cap, none⟩ :: os) K ⟨e, n, H⟩ = AF P d (.mkfn f fst cap) (A7 P md lw gs os K) ⟨e, n, H⟩ := rfl
theorem Oc {d : Option Nat} {lo hi : Option Opd} : A7 P md lw gs (⟨d, .cut sz x lo hi, none⟩ :: os) K ⟨e, n, H⟩ = AF P d (.cut sz x lo hi) (A7 P md lw gs os K) ⟨e, n, H⟩ := rfl
theorem O4 {d : Option Nat} {lo hi : Option Opd} : A7 P md lw gs (⟨d, .cutS x lo hi, none⟩ :: os) K ⟨e, n, H⟩ = AF P d (.cutS x lo hi) (A7 P md lw gs os K) ⟨e, n, H⟩ := rfl
theorem OM {d : Option Nat} : A7 P md lw gs (⟨d, .faddr x off s, none⟩ :: os) K ⟨e, n, H⟩ = AF P d (.faddr x off s) (A7 P md lw gs os K) ⟨e, n, H⟩ := rfl
theorem NU {d : Option Nat} : A7 P md lw gs (⟨d, .field x off s, none⟩ :: os) K ⟨e, n, H⟩ = AF P d (.field x off s) (A7 P md lw gs os K) ⟨e, n, H⟩ := rfl
theorem NV {d : Option Nat} : A7 P md lw gs (⟨d, .iaddr sz s x i, none⟩ :: os) K ⟨e, n, H⟩ = AF P d (.iaddr sz s x i) (A7 P md lw gs os K) ⟨e, n, H⟩ := rfl
theorem Ot {d : Option Nat} : A7 P md lw gs (⟨d, .aaddr len sz s x i, none⟩ :: os) K ⟨e, n, H⟩ = AF P d (.aaddr len sz s x i) (A7 P md lw gs os K) ⟨e, n, H⟩ := rfl
theorem NX {d : Option Nat} : A7 P md lw gs (⟨d, .sidx x i, none⟩ :: os) K ⟨e, n, H⟩ = AF P d (.sidx x i) (A7 P md lw gs os K) ⟨e, n, H⟩ := rfl
theorem Oe {d : Option Nat} : A7 P md lw gs (⟨d, .aidx len sz s x i, none⟩ :: os) K ⟨e, n, H⟩ = AF P d (.aidx len sz s x i) (A7 P md lw gs os K) ⟨e, n, H⟩ := rfl
theorem O5 {d : Option Nat} : A7 P md lw gs (⟨d, .len x, none⟩ :: os) K ⟨e, n, H⟩ = AF P d (.len x) (A7 P md lw gs os K) ⟨e, n, H⟩ := rfl
theorem Om {d : Option Nat} : A7 P md lw gs (⟨d, .lenS x, none⟩ :: os) K ⟨e, n, H⟩ = AF P d (.lenS x) (A7 P md lw gs os K) ⟨e, n, H⟩ := rfl
theorem OC {d : Option Nat} {j : Nat} : A7 P md lw gs (⟨d, .clen j, none⟩ :: os) K ⟨e, n, H⟩ = AF P d (.clen j) (A7 P md lw gs os K) ⟨e, n, H⟩ := rfl
theorem NQ {d : Option Nat} {i : Nat} : A7 P md lw gs (⟨d, .extr x i, none⟩ :: os) K ⟨e, n, H⟩ = AF P d (.extr x i) (A7 P md lw gs os K) ⟨e, n, H⟩ := rfl
theorem NW {d : Option Nat} : A7 P md lw gs (⟨d, .nilck x, none⟩ :: os) K ⟨e, n, H⟩ = AF P d (.nilck x) (A7 P md lw gs os K) ⟨e, n, H⟩ := rfl
theorem Nx {d : Option Nat} {z : List AV} : A7 P md lw gs (⟨d, .build z ps, none⟩ :: os) K ⟨e, n, H⟩ = AF P d (.build z ps) (A7 P md lw gs os K) ⟨e, n, H⟩ := rfl
theorem Fr {d : Option Nat} : A7 P md lw gs (⟨d, .mm mx x y, none⟩ :: os) K ⟨e, n, H⟩ = AF P d (.mm mx x y) (A7 P md lw gs os K) ⟨e, n, H⟩ := rfl
theorem Na {d : Option Nat} : A7 P md lw gs (⟨d, .b2s x, none⟩ :: os) K ⟨e, n, H⟩ = AF P d (.b2s x) (A7 P md lw gs os K) ⟨e, n, H⟩ := rfl
theorem OH {d : Option Nat} : A7 P md lw gs (⟨d, .r2s x, none⟩ :: os) K ⟨e, n, H⟩ = AF P d (.r2s x) (A7 P md lw gs os K) ⟨e, n, H⟩ := rfl
theorem OP {d : Option Nat} : A7 P md lw gs (⟨d, .upc x, none⟩ :: os) K ⟨e, n, H⟩ = AF P d (.upc x) (A7 P md lw gs os K) ⟨e, n, H⟩ := rfl
theorem Ok {d : Option Nat} : A7 P md lw gs (⟨d, .eqpp neg x y, none⟩ :: os) K ⟨e, n, H⟩ = AF P d (.eqpp neg x y) (A7 P md lw gs os K) ⟨e, n, H⟩ := rfl
theorem Oi {d : Option Nat} : A7 P md lw gs (⟨d, .updn u x, none⟩ :: os) K ⟨e, n, H⟩ = AF P d (.updn u x) (A7 P md lw gs os K) ⟨e, n, H⟩ := rfl
theorem Nk {d : Option Nat} : A7 P md lw gs (⟨d, .usd el x, none⟩ :: os) K ⟨e, n, H⟩ = AF P d (.usd el x) (A7 P md lw gs os K) ⟨e, n, H⟩ := rfl
theorem OR {d : Option Nat} {x j : Opd} : A7 P md lw gs (⟨d, .ust el x j, none⟩ :: os) K ⟨e, n, H⟩ = AF P d (.ust el x j) (A7 P md lw gs os K) ⟨e, n, H⟩ := rfl
theorem O2 {d : Option Nat} : A7 P md lw gs (⟨d, .box el sh x, none⟩ :: os) K ⟨e, n, H⟩ = ((ev e x).fits sh = true ∧ ones (ev e x).cells ∧ Pa md lw (.cells el (ev e x).cells) d (A7 P md lw gs os K) e n H) := rfl
theorem On {d : Option Nat} : A7 P md lw gs (⟨d, .bsl el s xs, none⟩ :: os) K ⟨e, n, H⟩ = (IQ s (xs.map (ev e)) ∧ Tf md lw (B6 s) (xs.map (ev e)) (.row el xs.length) d (A7 P md lw gs os K) e n H) := by
 have h : IQ s (xs.map (ev e)) = (∀ x ∈ xs, (ev e x).fits s = true ∧ ones (ev e x).cells) := by simp [IQ, BQ]
 rw [h]; rfl
theorem OS {d : Option Nat} {el sz by_ : Nat} : A7 P md lw gs (⟨d, .app el sz by_ x y, none⟩ :: os) K ⟨e, n, H⟩ = freeM md lw ⟨e, n, H⟩ (JW gs (ev e x) ∧ appKS el sz by_ d (KM gs H (A7 P md lw gs os K)) ⟨e, n, H⟩ (ev e x) (ev e y)) := rfl
theorem LY {s : AS} : freeM .plain lo s A = A := rfl
theorem Ko {s : AS} : freeM .late lo s A = A := rfl
theorem Je {s : AS} : freeM (.last q) lo s A = A := rfl
theorem TL (hlo : lo ≤ n) (hex : FreeH H) (h : A) : freeM .free lo ⟨e, n, H⟩ A := ⟨⟨hlo, hex⟩, h⟩
theorem KM.of {H : A3} {s : AS} (h : K s) : KM gs H K s := fun _ => h
theorem KC.of {H : A3} {s : AS} (h : KeepM gs H s.H) (h' : K s) : KC gs H K s := ⟨h, h'⟩
theorem Kb {t : Tok} : JW gs (.sl z l t) = True := rfl
theorem Jz {z g k : Nat} : JW gs (.slg z g k) = (g ∈ gs) := rfl
theorem Nc {d : Option Nat} {el by_ : Nat} : A7 P md lw gs (⟨d, .appB el by_ x y, none⟩ :: os) K ⟨e, n, H⟩ = AF P d (.appB el by_ x y) (A7 P md lw gs os K) ⟨e, n, H⟩ := rfl
theorem OG {d : Option Nat} : A7 P md lw gs (⟨d, .s2b el x, none⟩ :: os) K ⟨e, n, H⟩ = AF P d (.s2b el x) (A7 P md lw gs os K) ⟨e, n, H⟩ := rfl
theorem Ol {d : Option Nat} : A7 P md lw gs (⟨d, .s2s x, none⟩ :: os) K ⟨e, n, H⟩ = AF P d (.s2s x) (A7 P md lw gs os K) ⟨e, n, H⟩ := rfl
theorem OU {d : Option Nat} : A7 P md lw gs (⟨d, .mkmap kk, none⟩ :: os) K ⟨e, n, H⟩ = AF P d (.mkmap kk) (A7 P md lw gs os K) ⟨e, n, H⟩ := rfl
theorem Ob {d : Option Nat} {m k v : Opd} : A7 P md lw gs (⟨d, .mset kk m k v, none⟩ :: os) K ⟨e, n, H⟩ = AF P d (.mset kk m k v) (A7 P md lw gs os K) ⟨e, n, H⟩ := rfl
theorem NM {d : Option Nat} {z : AV} {m k : Opd} : A7 P md lw gs (⟨d, .mget kk z ok m k, none⟩ :: os) K ⟨e, n, H⟩ = KS (DY (AU gs H) kk z ok (ev e m) (ev e k)) d (A7 P md lw gs os K) e n H := rfl
theorem Oa {d : Option Nat} : A7 P md lw gs (⟨d, .call f xs, none⟩ :: os) K ⟨e, n, H⟩ = exM P md lw gs d f (xs.map (ev e)) (A7 P md lw gs os K) ⟨e, n, H⟩ (CallK P f (xs.map (ev e)) d (KC gs H (A7 P md lw gs os K)) ⟨e, n, H⟩) := rfl
theorem LB {d : Option Nat} {s : AS} : exM P .plain lo gs d f args K s A = A := rfl
theorem Ks {d : Option Nat} {s : AS} : exM P .late lo gs d f args K s A = A := rfl
theorem Kv {d : Option Nat} {s : AS} : exM P (.last q) lo gs d f args K s A = A := rfl
theorem KO {d : Option Nat} {s : AS} : exM P .free lo gs d f args K s A = A := rfl
theorem NT {d : Option Nat} : A7 P md lw gs (⟨d, .callp f xs, none⟩ :: os) K ⟨e, n, H⟩ = AF P d (.callp f xs) (A7 P md lw gs os K) ⟨e, n, H⟩ := rfl
theorem Nz {d : Option Nat} {f : Opd} : A7 P md lw gs (⟨d, .callv f xs, none⟩ :: os) K ⟨e, n, H⟩ = AF P d (.callv f xs) (A7 P md lw gs os K) ⟨e, n, H⟩ := rfl
theorem K8 : JO .plain lo gs x v = True := rfl
theorem LL : JO .free lo gs x v = True := rfl
theorem Km : JO .refs lo gs x v = True := rfl
theorem LU : JO .early lo gs x v = True := rfl
theorem K2 : JO .late lo gs x v = Vi gs v := rfl
theorem KG {q i : Nat} : JO (.last q) lo gs (.t i) v = ((i = q → V5 lo gs v) ∧ (i ≠ q → V8 lo gs v)) := rfl
theorem Ja : V5 lo gs (.ptr g o) = (g < lo ∧ g ∉ gs) := rfl
theorem KL : V8 lo gs (.ptr g o) = (lo ≤ g ∨ g ∈ gs) := rfl
theorem LE : Vi gs (.ptr g o) = (g ∈ gs) := rfl
theorem IS {a : Nat} {H : A3} {k : Nat} : AU (a :: gs) H k = if k = a then none else AU gs H k := rfl
theorem Jc {H : A3} {k : Nat} : AU [] H k = H k := rfl
theorem GX {d : Option Nat} : AF P d (.mv x) K ⟨e, n, H⟩ = KS (some (ev e x)) d K e n H := rfl
theorem Nd {d : Option Nat} {c a b : Opd} : AF P d (.pick c a b) K ⟨e, n, H⟩ = KS (match ev e c with | .bool t => some (if t then ev e a else ev e b) | _ => none) d K e n H := rfl
theorem Fh {d : Option Nat} {o : BinOp} : AF P d (.bin o x y) K ⟨e, n, H⟩ = KS (Da o (ev e x) (ev e y)) d K e n H := rfl
theorem FO {d : Option Nat} {ks : List FK} : AF P d (.eqs ks ng x y) K ⟨e, n, H⟩ = KS (JD ks ng (ev e x) (ev e y)) d K e n H := rfl
theorem Fp {d : Option Nat} : AF P d (.eqb ng x y) K ⟨e, n, H⟩ = KS (JH ng (ev e x) (ev e y)) d K e n H := rfl
theorem FY {d : Option Nat} : AF P d (.eqn ng x) K ⟨e, n, H⟩ = KS (H9 ng (ev e x)) d K e n H := rfl
theorem FP {d : Option Nat} : AF P d (.eqp ng x) K ⟨e, n, H⟩ = KS ((Cu (ev e x)).map (Sg ng)) d K e n H := rfl
theorem FM {d : Option Nat} : AF P d (.eqi ng x) K ⟨e, n, H⟩ = KS ((D4 (ev e x)).map (Sg ng)) d K e n H := rfl
theorem FJ {d : Option Nat} : AF P d (.neg x) K ⟨e, n, H⟩ = KS (JE (ev e x)) d K e n H := rfl
theorem Fs {d : Option Nat} : AF P d (.not x) K ⟨e, n, H⟩ = KS (JI (ev e x)) d K e n H := rfl
theorem Fg {d : Option Nat} : AF P d (.cvi k x) K ⟨e, n, H⟩ = KS (JA k (ev e x)) d K e n H := rfl
theorem Nl {d : Option Nat} {a b : List Opd} : AF P d (.mkfn f a b) K ⟨e, n, H⟩ = KS (some (.fn f (a.map (ev e)) (b.map (ev e)))) d K e n H := rfl
theorem OV {d : Option Nat} {lo hi : Option Opd} : AF P d (.cutS x lo hi) K ⟨e, n, H⟩ = KS (EN (ev e x) (lo.map (ev e)) (hi.map (ev e))) d K e n H := rfl
theorem FV {d : Option Nat} {lo hi : Option Opd} : AF P d (.cut sz x lo hi) K ⟨e, n, H⟩ = KS (Ha sz (ev e x) (lo.map (ev e)) (hi.map (ev e))) d K e n H := rfl
theorem Kf {d : Option Nat} : AF P d (.faddr x o s) K ⟨e, n, H⟩ = KS (Gz (ev e x) o s) d K e n H := rfl
theorem Oq {d : Option Nat} : AF P d (.field x o s) K ⟨e, n, H⟩ = KS (Dx (ev e x) o s) d K e n H := rfl
theorem OZ {d : Option Nat} : AF P d (.iaddr sz s x i) K ⟨e, n, H⟩ = KS (Cy sz s (ev e x) (ev e i)) d K e n H := rfl
theorem OE {d : Option Nat} {l sz : Nat} : AF P d (.aaddr l sz s x i) K ⟨e, n, H⟩ = KS (Gc l sz s (ev e x) (ev e i)) d K e n H := rfl
theorem Nb {d : Option Nat} : AF P d (.sidx x i) K ⟨e, n, H⟩ = KS (G0 (ev e x) (ev e i)) d K e n H := rfl
theorem Nw {d : Option Nat} {l sz : Nat} : AF P d (.aidx l sz s x i) K ⟨e, n, H⟩ = KS (Fz l sz s (ev e x) (ev e i)) d K e n H := rfl
theorem Fd {d : Option Nat} : AF P d (.len x) K ⟨e, n, H⟩ = KS (Rs (ev e x)) d K e n H := rfl
theorem LX {d : Option Nat} : AF P d (.lenS x) K ⟨e, n, H⟩ = KS (G4 (ev e x)) d K e n H := rfl
theorem OX {d : Option Nat} : AF P d (.clen m) K ⟨e, n, H⟩ = KS (some (.int .i64 m)) d K e n H := rfl
theorem Nf {d : Option Nat} {i : Nat} : AF P d (.extr x i) K ⟨e, n, H⟩ = KS (G3 i (ev e x)) d K e n H := rfl
theorem Jw {d : Option Nat} : AF P d (.nilck x) K ⟨e, n, H⟩ = KS (E0 (ev e x)) d K e n H := rfl
theorem La {d : Option Nat} : AF P d (.load s x) K ⟨e, n, H⟩ = KS (Ap H s (ev e x)) d K e n H := rfl
theorem OD {d : Option Nat} {z : List AV} : AF P d (.build z ps) K ⟨e, n, H⟩ = KS (Dn z (ps.map fun (o, s, x) => (o, s, ev e x))) d K e n H := by
 have h : (ps.map fun (o, _, x) => (o, ev e x)) = (ps.map fun (o, s, x) => (o, s, ev e x)).map fun (o, _, x) => (o, x) := by rw [List.map_map]; rfl
 show K1 (if _ then some (.agg (Fo z _)) else none) _ = _
 rw [h]; unfold KS Dn; split <;> rfl
theorem I9 {d : Option Nat} : AF P d (.mm mx x y) K ⟨e, n, H⟩ = KS (UK mx (ev e x) (ev e y)) d K e n H := rfl
theorem Fq {d : Option Nat} : AF P d (.b2s x) K ⟨e, n, H⟩ = KS (JM (ev e x)) d K e n H := rfl
theorem FT {d : Option Nat} : AF P d (.r2s x) K ⟨e, n, H⟩ = KS (JK (ev e x)) d K e n H := rfl
theorem Fn {d : Option Nat} : AF P d (.upc x) K ⟨e, n, H⟩ = KS (E5 H (ev e x)) d K e n H := rfl
theorem FZ {d : Option Nat} : AF P d (.usd el x) K ⟨e, n, H⟩ = KS (E7 H el (ev e x)) d K e n H := rfl
theorem Ng {d : Option Nat} : AF P d (.eqpp ng x y) K ⟨e, n, H⟩ = KS (G5 ng (ev e x) (ev e y)) d K e n H := rfl
theorem Ni {d : Option Nat} : AF P d (.updn u x) K ⟨e, n, H⟩ = KS (Bp P H u (ev e x)) d K e n H := rfl
theorem FQ {d : Option Nat} {t : TypeId} {x m : Opd} : AF P d (.ust t x m) K ⟨e, n, H⟩ = KS (DQ t (ev e x) (ev e m)) d K e n H := rfl
theorem OJ {d : Option Nat} {t : TypeId} {z : List AV} : AF P d (.alloc t z) K ⟨e, n, H⟩ = (ones z ∧ A14 (.cells t z) d K e n H) := rfl
theorem FW {d : Option Nat} {t : TypeId} : AF P d (.box t sh x) K ⟨e, n, H⟩ = ((BQ sh (ev e x) ∧ A14 (.cells t (ev e x).cells) d K e n H)) := propext and_assoc.symm
theorem LN {d : Option Nat} {x v : Opd} : AF P d (.store sh x v) K ⟨e, n, H⟩ = Cz sh d K ⟨e, n, H⟩ (ev e v) (ev e x) := rfl
def A2c (el sz : Nat) (l : List AV) (d : Option Nat) (K : AS → Prop) (e : AH) (n : Nat) (H : A3) : Prop := Uh sz l (.row el l.length) d K e n H ∨ ∀ g, n ≤ g → K ⟨AD e d (.slm sz g 0 l.length), g + 1, upd H g (some (.cells el (AG l)))⟩
theorem Tw {el sz : Nat} {d : Option Nat} (h : Uh sz l (.row el l.length) d K e n H) : A2c el sz l d K e n H := .inl h
theorem Fw {d : Option Nat} {t : TypeId} : AF P d (.bsl t sh xs) K ⟨e, n, H⟩ = (IQ sh (xs.map (ev e)) ∧ A2c t (B6 sh) (xs.map (ev e)) d K e n H) := by
 have h : IQ sh (xs.map (ev e)) = (∀ x ∈ xs, (ev e x).fits sh = true ∧ ones (ev e x).cells) := by simp [IQ, BQ]
 rw [h]
 unfold A2c Uh
 rw [List.length_map]; rfl
theorem Fe {d : Option Nat} : AF P d (.app t sz b x y) K ⟨e, n, H⟩ = appKS t sz b d K ⟨e, n, H⟩ (ev e x) (ev e y) := rfl
theorem KV {d : Option Nat} : AF P d (.appB t b x y) K ⟨e, n, H⟩ = QF t b d K ⟨e, n, H⟩ (ev e x) (ev e y) := rfl
theorem Fm {d : Option Nat} {t : TypeId} : AF P d (.s2b t x) K ⟨e, n, H⟩ = JJ d K e n H (ev e x) := rfl
theorem Ft {d : Option Nat} : AF P d (.s2s x) K ⟨e, n, H⟩ = JN d K e n H (ev e x) := rfl
theorem Nh {d : Option Nat} : AF P d (.mkmap kk) K ⟨e, n, H⟩ = A4x kk d K e n H := rfl
theorem O8 {d : Option Nat} {m k v : Opd} : AF P d (.mset kk m k v) K ⟨e, n, H⟩ = Ds kk d K ⟨e, n, H⟩ (ev e k) (ev e v) (ev e m) := rfl
def A6f (m : Nat) (o : Option AObj) (d : Option Nat) (K : AS → Prop) (e : AH) (n : Nat) (H : A3) : Prop := match o with
 | some (.map _ es) => ∀ g, n ≤ g → K ⟨AD e d (.ptr g 0), g + 1, upd H g (some (.iter m es.length (List.range es.length) none))⟩
 | _ => False
def A59 (g m len : Nat) (left : List Nat) (o : Option AObj) (d : Option Nat) (K : AS → Prop) (e : AH) (n : Nat) (H : A3) : Prop := match o with
 | some (.map _ es) => es.length = len ∧ (left = [] → K ⟨AD e d (.tup [.bool false]), n, H⟩) ∧ ∀ j ∈ left, ∀ k v, es[j]? = some (k, v) → K ⟨AD e d (.tup [.bool true, k, v]), n, upd H g (some (.iter m len (left.erase j) (some j)))⟩
 | _ => False
def A68 (g : Nat) (o : Option AObj) (d : Option Nat) (K : AS → Prop) (e : AH) (n : Nat) (H : A3) : Prop := match o with
 | some (.iter m len left _) => A59 g m len left (H m) d K e n H
 | _ => False
theorem Ku {left : List Nat} {cur d : Option Nat} : A68 g (some (.iter m len left cur)) d K e n H = A59 g m len left (H m) d K e n H := rfl
theorem KR {d : Option Nat} : Ra d K ⟨e, n, H⟩ (.mp m) = A6f m (H m) d K e n H := rfl
theorem Kj {d : Option Nat} : Rk d K ⟨e, n, H⟩ (.ptr g 0) = A68 g (H g) d K e n H := propext ⟨fun h => h.2, fun h => ⟨rfl, h⟩⟩
def A6h (el : TypeId) (z : AV) (m : Nat) (d : Option Nat) (K : AS → Prop) (e : AH) (n : Nat) (H : A3) : Prop := ∀ g, n ≤ g → K ⟨AD e d (.slm 1 g 0 m), g + 1, upd H g (some (.cells el (List.replicate m z)))⟩
theorem KK {z : AV} {d : Option Nat} {k k' : IntKind} {p q : Int} : N5 el b z d K ⟨e, n, H⟩ (.int k p) (.int k' q) = (p = q ∧ 0 ≤ p ∧ (b : Int) * p ≤ 281474976710656 ∧ p ≤ maxLen ∧ A6h el z p.toNat d K e n H) := rfl
theorem O3 {d : Option Nat} {z : AV} : AF P d (.mksl el b z x y) K ⟨e, n, H⟩ = N5 el b z d K ⟨e, n, H⟩ (ev e x) (ev e y) := rfl
theorem Fa {d : Option Nat} : AF P d (.rng x) K ⟨e, n, H⟩ = Ra d K ⟨e, n, H⟩ (ev e x) := rfl
theorem FR {d : Option Nat} : AF P d (.nxt x) K ⟨e, n, H⟩ = Rk d K ⟨e, n, H⟩ (ev e x) := rfl
theorem Ff {d : Option Nat} : AF P d (.ent x) K ⟨e, n, H⟩ = KS (Gt H (ev e x)) d K e n H := rfl
theorem Oo {d : Option Nat} {z : AV} {m k : Opd} : AF P d (.mget kk z ok m k) K ⟨e, n, H⟩ = KS (DY H kk z ok (ev e m) (ev e k)) d K e n H := rfl
theorem KF {d : Option Nat} : AF P d (.call f xs) K ⟨e, n, H⟩ = CallK P f (xs.map (ev e)) d K ⟨e, n, H⟩ := rfl
theorem OL {d : Option Nat} : AF P d (.callp f xs) K ⟨e, n, H⟩ = CallP P f (xs.map (ev e)) d K ⟨e, n, H⟩ := rfl
theorem Nm {d : Option Nat} : AF P d (.callv x xs) K ⟨e, n, H⟩ = DI P d K e n H (xs.map (ev e)) (ev e x) := rfl
theorem YR {el sz by_ z z' : Nat} {d : Option Nat} {m m' : List AV} {t : Tok} (hz : z' = sz ∨ m = []) (hs : A5 m m') (hm : m ≠ []) (hb : m.length * by_ ≤ 140737488355328) (hx : m.length ≤ maxLen) (h : ∀ g, n ≤ g → K ⟨AD e d (.sl sz m' (.own g)), g + 1, upd H g (some (.row el m'.length))⟩) : appKS el sz by_ d K ⟨e, n, H⟩ (.sl z [] .nil) (.sl z' m t) := by
 have hl := Dh hs
 exact ⟨hz, m', hs, by simpa [hl] using hb, by simpa [hl] using hx, fun h' => absurd h' (fun e => hm (List.length_eq_zero_iff.1 (by rw [hl, e]; rfl))), fun _ => .inl h⟩
theorem RJ {el sz by_ z z' : Nat} {d : Option Nat} {m m' : List AV} {t : Tok} (hz : z' = sz ∨ m = []) (hs : A5 m m') (hm : m ≠ []) (hb : m.length * by_ ≤ 140737488355328) (hx : m.length ≤ maxLen) (h : ∀ g, n ≤ g → K ⟨AD e d (.slg sz g m'.length), g + 1, upd H g (some (.grow el (AG m')))⟩) : appKS el sz by_ d K ⟨e, n, H⟩ (.sl z [] .nil) (.sl z' m t) := by
 have hl := Dh hs
 exact ⟨hz, m', hs, by simpa [hl] using hb, by simpa [hl] using hx, fun h' => absurd h' (fun e => hm (List.length_eq_zero_iff.1 (by rw [hl, e]; rfl))), fun _ => .inr h⟩
theorem Mb {el sz by_ g0 k z' : Nat} {d : Option Nat} {m m' cs : List AV} {t : Tok} (hz : z' = sz ∨ m = []) (hs : A5 m m') (hr : H g0 = some (.grow el cs)) (hc : cs.length = k * sz) (hb : (k + m.length) * by_ ≤ 140737488355328) (hx : k + m.length ≤ maxLen) (h : ∀ g n', (g = g0 ∨ n ≤ g) → n ≤ n' → g < n' → K ⟨AD e d (.slg sz g (k + m'.length)), n', upd (upd H g0 none) g (some (.grow el (cs ++ AG m')))⟩) : appKS el sz by_ d K ⟨e, n, H⟩ (.slg sz g0 k) (.sl z' m t) := by
 have hl := Dh hs
 refine ⟨hz, m', hs, rfl, by rw [← hl]; exact hb, by rw [← hl]; exact hx, ?_⟩
 show M6 el sz by_ d K ⟨e, n, H⟩ g0 k m' (H g0)
 rw [hr]
 exact ⟨rfl, hc, h⟩
theorem Y3 {el sz by_ g0 z' : Nat} {d : Option Nat} {l m m' : List AV} {t : Tok} (hz : z' = sz ∨ m = []) (hs : A5 m m') (hr : H g0 = some (.row el l.length)) (hb : (l.length + m.length) * by_ ≤ 140737488355328) (hx : l.length + m.length ≤ maxLen) (h : ∀ g n', (g = g0 ∨ n ≤ g) → n ≤ n' → g < n' → K ⟨AD e d (.sl sz (l ++ m') (.own g)), n', upd (upd H g0 none) g (some (.row el (l.length + m'.length)))⟩) : appKS el sz by_ d K ⟨e, n, H⟩ (.sl sz l (.own g0)) (.sl z' m t) := by
 have hl := Dh hs
 exact ⟨hz, m', hs, by rw [← hl]; exact hb, by rw [← hl]; exact hx, rfl, hr, h⟩
theorem KY {s : AS} : Ef X Q .normal s = X s := rfl
theorem KN {s : AS} {i : Nat} : Ef X Q (.exit i) s = Q (.exit i) s := rfl
theorem LV {s : AS} : Ef X Q .ret s = Q .ret s := rfl
theorem Jx {s : AS} : FS id Q .normal s = Q .normal s := rfl
theorem JB {id i : Nat} {s : AS} : FS id Q (.exit i) s = if i = id then Q .normal s else Q (.exit i) s := rfl
theorem Kh {s : AS} : FS id Q .ret s = Q .ret s := rfl
end
/-! ### simp looks at what is known, not into what follows -/
section
variable {P : Program} {K : AS → Prop} {Q : AExit → AS → Prop} {d : Option Nat} {n : Nat}
end
abbrev zM (d s : Nat) : AOper := ⟨some d, .mv (.t s), none⟩
abbrev zL (d s : Nat) : AOper := ⟨some d, .load none (.t s), none⟩
abbrev zF (d s k : Nat) : AOper := ⟨some d, .faddr (.t s) k none, none⟩
abbrev zG (d k s : Nat) : AOper := ⟨some d, .load (some k) (.t s), none⟩
abbrev zX (d s k : Nat) : AOper := ⟨some d, .extr (.t s) k, none⟩
abbrev zI (d : Nat) (k : Int) : AOper := ⟨some d, .mv (.c (.int .i64 k)), none⟩
abbrev zB (d : Nat) (b : Bool) : AOper := ⟨some d, .mv (.c (.bool b)), none⟩
abbrev zS (k a b : Nat) : AOper := ⟨none, .store (some k) (.t a) (.t b), none⟩
abbrev zU (a b : Nat) : AOper := ⟨none, .store none (.t a) (.t b), none⟩
abbrev zP (d a b : Nat) : AOper := ⟨some d, .pick (.t a) (.t b) (.c (.bool false)), none⟩
abbrev zO (d a b : Nat) : AOper := ⟨some d, .pick (.t a) (.c (.bool true)) (.t b), none⟩
abbrev zV (d f a : Nat) : AOper := ⟨some d, .callp f [.t a], none⟩
abbrev zW (d f a b : Nat) : AOper := ⟨some d, .callp f [.t a, .t b], none⟩
abbrev zN (d s : Nat) : AOper := ⟨some d, .not (.t s), none⟩
abbrev zY (d s : Nat) : AOper := ⟨some d, .len (.t s), none⟩
abbrev zZ (d s : Nat) : AOper := ⟨some d, .nilck (.t s), none⟩
abbrev zH (d e k s : Nat) : AOper := ⟨some d, .box e (some k) (.t s), none⟩
abbrev zJ (d k a b : Nat) : AOper := ⟨some d, .iaddr k none (.t a) (.t b), none⟩
abbrev zD (d : Nat) (o : BinOp) (a b : Nat) : AOper := ⟨some d, .bin o (.t a) (.t b), none⟩
abbrev zE (d : Nat) (o : BinOp) (a : Nat) (k : Int) : AOper := ⟨some d, .bin o (.t a) (.c (.int .i64 k)), none⟩
abbrev FB (P : Program) (ef : List Nat) (f : Func) : Option (Nat × Nat × List ARes × ACode) := (O7 P ef f).map fun x => (x.nargs, x.nt, x.res, x.code)
abbrev FG (c : AFun) : Option (Nat × Nat × List ARes × ACode) := some (c.nargs, c.nt, c.res, bare c.code)
end Go.Proofs.YtnfjgphfaemjcaaGreatDoor
