/- What is asked at a function's end, and how a function's contract comes of its code; no condition. -/
import Derived.Test.YtjdccdelcnmocaaGreatDoorMgC
set_option linter.all false
namespace Go.Proofs.YtjdccdelcnmocaaGreatDoor
variable {sh s : Co} {l cs : List AV} {k : IntKind} {z g o f t m sz id lw lo q off len b : Nat} {v : AV} {j : Int} {ops os : List AOper} {c : ACode} {ks gs : List Nat} {want neg mx ok ng : Bool} {op : AOp} {ob : AObj} {md : Mode} {x y i : Opd} {ps : List (Nat × Co × Opd)} {u el : TypeId} {xs : List Opd} {kk : Option IntKind} {X : AS → Prop}
def F7 (s : AS) : ARes → Option AV
 | .tmp t => some (get s.e t)
 | .cell t sh => B8 s.H sh (get s.e t)
def CB (s : AS) : List ARes → Option (List AV)
 | [] => some []
 | r :: rs => match F7 s r, CB s rs with | some x, some xs => some (x :: xs) | _, _ => none
def Bd (s : AS) (rs : List ARes) : Option AV :=
 match CB s rs with
 | some [x] => some x
 | some xs => some (.tup xs)
 | none => none
def SameB (n : Nat) (H H' : A1) : Prop := ∀ k, k < n → H' k = H k
def GD (v : AV) (n : Nat) (H : A1) (res : List ARes) : AExit → AS → Prop
 | .normal, s | .ret, s => (∃ x, Bd s res = some x ∧ AH x v) ∧ n ≤ s.n ∧ SameB n H s.H
 | _, _ => False
def fin (R : DD) (n : Nat) (res : List ARes) : AExit → AS → Prop
 | .normal, s | .ret, s => ∃ r n' H', (∃ x, Bd s res = some x ∧ AH x r) ∧ n ≤ n' ∧ n' ≤ s.n ∧ (∀ k, n' ≤ k → H' k = none) ∧ SameB n' H' s.H ∧ R r n' H'
 | _, _ => False
theorem SameB.rfl_ (n : Nat) (H : A1) : SameB n H H := fun _ _ => rfl
theorem A9 {R : DD} {n m : Nat} {res : List ARes} {e : AJ} {H : A1} {r : AV} (h1 : Bd ⟨e, m, H⟩ res = some r) (h2 : n ≤ m) (h3 : ∀ k, m ≤ k → H k = none) (h4 : R r m H) : fin R n res .ret ⟨e, m, H⟩ :=
 ⟨r, m, H, ⟨r, h1, A4 _⟩, h2, Nat.le_refl _, h3, SameB.rfl_ _ _, h4⟩
theorem SameB.upd {n : Nat} {H H' : A1} (h : SameB n H H') {g : Nat} (hg : n ≤ g) (x : Option AObj) : SameB n H (upd H' g x) := fun k hk => by
 unfold Go.Proofs.YtjdccdelcnmocaaGreatDoor.upd; rw [if_neg (by omega)]; exact h k hk
theorem AP (H : A1) (g : Nat) (x : Option AObj) : upd H g x g = x := by simp [upd]
theorem upd_ne {H : A1} {g k : Nat} {x : Option AObj} (h : k ≠ g) : upd H g x k = H k := by simp [upd, h]
theorem JK (H : A1) (g : Nat) (x y : Option AObj) : upd (upd H g x) g y = upd H g y := by funext k; simp only [upd]; split <;> rfl
def Tt (ng t : Bool) : AV := .bool (if ng then !t else t)
def KK (ks : List FK) (ng : Bool) : AV → AV → Option AV
 | .agg a, .agg b => (CW ks a b).map (Tt ng)
 | _, _ => none
def Ki (ng : Bool) : AV → AV → Option AV
 | .bool a, .bool b => some (.bool (if ng then !(a == b) else a == b))
 | _, _ => none
def KI : AV → Option AV | .int k n => some (.int k (k.wrap (0 - n))) | _ => none
def Ju : AV → Option AV | .bool b => some (.bool (!b)) | _ => none
def K7 (k : IntKind) : AV → Option AV | .int _ n => some (.int k (k.wrap n)) | _ => none
def Eb (x : AV) (o : Nat) (s : Co) : Option AV := match x with | .agg cs => part cs o s | _ => none
def Gt : AV → AV → Option AV
 | .str s, .int _ j => if 0 ≤ j then (s[j.toNat]?).map fun b => .int .u8 b.toNat else none
 | _, _ => none
def HA (len sz : Nat) (s : Co) : AV → AV → Option AV
 | .agg cs, .int _ j => if 0 ≤ j ∧ j < len then part cs (j.toNat * sz) s else none
 | _, _ => none
def XL : AV → Option AV | .sl _ l _ => some (.int .i64 l.length) | .slm _ _ _ n => some (.int .i64 n) | .slg _ _ n => some (.int .i64 n) | _ => none
def Gm : AV → Option AV | .str s => some (.int .i64 s.length) | _ => none
def Gu (i : Nat) : AV → Option AV | .tup vs => vs[i]? | _ => none
def EZ : AV → Option AV | .ptr g o => some (.ptr g o) | .ref x => some (.ref x) | .fn f a b => if a.isEmpty then some (.fn f a b) else none | _ => none
def ED (z : List AV) (ps : List (Nat × Co × AV)) : Option AV := if Fy z.length ps then some (.agg (GE z (ps.map fun (o, _, x) => (o, x)))) else none
def Wm (mx : Bool) : AV → AV → Option AV
 | .int k a, .int k' b => if k = k' then some (.int k (if mx then max a b else min a b)) else none
 | _, _ => none
def Jx : AV → Option AV | .sl _ l _ => (bytesOf l).map .str | _ => none
def Kn : AV → Option AV | .int _ n => some (.str (Utf8.encode n).data.toList) | _ => none
def Gq (ng : Bool) : AV → AV → Option AV
 | .ptr g o, .ptr g' o' => if g = g' then some (.bool (if ng then !(decide (o = o')) else decide (o = o'))) else none
 | _, _ => none
def Ji (d : Option Nat) (K : AS → Prop) (e : AJ) (n : Nat) (H : A1) : AV → Prop
 | .str b => b.length ≤ maxLen ∧ ∀ n', n ≤ n' → K ⟨AC e d (.sl 1 (b.map fun u => .int .u8 u.toNat) .ro), n', H⟩
 | _ => False
def Js (d : Option Nat) (K : AS → Prop) (e : AJ) (n : Nat) (H : A1) : AV → Prop
 | .sl sz l (.own g) => l ≠ [] ∧ K ⟨AC e d (.sl sz l .ro), n, upd H g none⟩
 | _ => False
def A63 (kk : Option IntKind) (d : Option Nat) (K : AS → Prop) (e : AJ) (n : Nat) (H : A1) : Prop := ∀ g, n ≤ g → K ⟨AC e d (.mp g), g + 1, upd H g (some (.map kk []))⟩
def AA (P : Program) (d : Option Nat) (K : AS → Prop) (e : AJ) (n : Nat) (H : A1) (xs : List AV) : AV → Prop
 | .fn f a b => Ae P f = true ∧ CallK P f (a ++ xs ++ b) d K ⟨e, n, H⟩
 | _ => False
def Au (sh : Co) (x : AV) : Prop := x.fits sh = true ∧ ones x.cells
def He (sh : Co) (l : List AV) : Prop := ∀ x ∈ l, Au sh x
theorem Nw : He sh [] = True := by simp [He]
theorem Mv {x : AV} : He sh (x :: l) = (Au sh x ∧ He sh l) := by simp [He]
theorem OF {s : List UInt8} : Au none (.str s) = True := by simp [Au, AV.fits, ones, AV.cells, AV.one]
theorem NS {i : Int} : Au none (.int k i) = True := by simp [Au, AV.fits, ones, AV.cells, AV.one]
theorem M3 {b : Bool} : Au none (.bool b) = True := by simp [Au, AV.fits, ones, AV.cells, AV.one]
theorem Ke {t : Tok} : Au none (.sl z l t) = True := by simp [Au, AV.fits, ones, AV.cells, AV.one]
theorem LY : Au none (.ptr g o) = True := by simp [Au, AV.fits, ones, AV.cells, AV.one]
theorem Mu : Au none .np = True := by simp [Au, AV.fits, ones, AV.cells, AV.one]
theorem Nl {x : AV} : Au none (.ref x) = True := by simp [Au, AV.fits, ones, AV.cells, AV.one]
theorem MR {a b : List AV} : Au none (.fn f a b) = True := by simp [Au, AV.fits, ones, AV.cells, AV.one]
theorem OE : Au none .nfn = True := by simp [Au, AV.fits, ones, AV.cells, AV.one]
theorem Nk : Au none (.ifc t v) = True := by simp [Au, AV.fits, ones, AV.cells, AV.one]
theorem Nb : Au none .nif = True := by simp [Au, AV.fits, ones, AV.cells, AV.one]
theorem LT {s : Nat} : Au (some s) (.agg cs) = (cs.length = s ∧ ones cs) := by simp [Au, AV.fits, AV.cells]
def A33 (sh : Co) (d : Option Nat) (K : AS → Prop) (e : AJ) (n : Nat) (H : A1) (v : AV) (g o : Nat) : Option AObj → Prop
 | some (.cells t cs) => Au sh v ∧ o + v.cells.length ≤ cs.length ∧ K ⟨AC e d .any, n, upd H g (some (.cells t (splice cs o v.cells)))⟩
 | some (.grow t cs) => Au sh v ∧ o + v.cells.length ≤ cs.length ∧ K ⟨AC e d .any, n, upd H g (some (.grow t (splice cs o v.cells)))⟩
 | _ => False
theorem NO {d : Option Nat} {K : AS → Prop} {e : AJ} {n : Nat} {H : A1} : CZ sh d K ⟨e, n, H⟩ v (.ptr g o) = A33 sh d K e n H v g o (H g) := by
 show (match H g with | some (.cells e' cs) => _ | some (.grow e' cs) => _ | _ => False) = _
 cases H g with
 | none => rfl
 | some ob => cases ob with
  | cells t cs => exact propext and_assoc.symm
  | grow t cs => exact propext and_assoc.symm
  | _ => rfl
theorem O6 {d : Option Nat} {K : AS → Prop} {e : AJ} {n : Nat} {H : A1} {t : TypeId} : A33 sh d K e n H v g o (some (.cells t cs)) = (Au sh v ∧ o + v.cells.length ≤ cs.length ∧ K ⟨AC e d .any, n, upd H g (some (.cells t (splice cs o v.cells)))⟩) := rfl
theorem NE {d : Option Nat} {K : AS → Prop} {e : AJ} {n : Nat} {H : A1} {t : TypeId} : A33 sh d K e n H v g o (some (.grow t cs)) = (Au sh v ∧ o + v.cells.length ≤ cs.length ∧ K ⟨AC e d .any, n, upd H g (some (.grow t (splice cs o v.cells)))⟩) := rfl
theorem Lz : XL (.slg z g m) = some (.int .i64 m) := rfl
theorem ML : CY sz s (.slg z g m) (.int k j) = if z = sz ∧ 0 ≤ j ∧ j < m then some (.ptr g (j.toNat * sz)) else none := rfl
theorem Ml : XL (.slm z g o m) = some (.int .i64 m) := rfl
theorem MO : CY sz s (.slm z g o m) (.int k j) = if z = sz ∧ 0 ≤ j ∧ j < m then some (.ptr g (o + j.toNat * sz)) else none := rfl
theorem M6 : AM [] = [] := rfl
theorem Mg {x : AV} : AM (x :: l) = x.cells ++ AM l := rfl
theorem MN {t : Tok} : XL (.sl z l t) = some (.int .i64 l.length) := rfl
theorem N2 {t : Tok} : CY sz s (.sl z l t) (.int k j) = if z = sz ∧ 0 ≤ j then (match l[j.toNat]? with | some y => if y.fits s then some (.ref y) else none | none => none) else none := rfl
theorem Mm {t : Tok} {lo hi : Option AV} : Hn sz (.sl z l t) lo hi = if z = sz ∨ l = [] then (Fb lo hi l.length).map fun (a, b) => .sl sz ((l.take b).drop a) .ro else none := rfl
def Wz (ob : AObj) (d : Option Nat) (K : AS → Prop) (e : AJ) (n : Nat) (H : A1) : Prop := ∀ g, n ≤ g → K ⟨AC e d (.ptr g 0), g + 1, upd H g (some ob)⟩
def SV (sz : Nat) (l : List AV) (ob : AObj) (d : Option Nat) (K : AS → Prop) (e : AJ) (n : Nat) (H : A1) : Prop := ∀ g, n ≤ g → K ⟨AC e d (.sl sz l (.own g)), g + 1, upd H g (some ob)⟩
def KS (o : Option AV) (d : Option Nat) (K : AS → Prop) (e : AJ) (n : Nat) (H : A1) : Prop :=
 match o with
 | some v => K ⟨AC e d v, n, H⟩
 | none => False
theorem Lm {d : Option Nat} {K : AS → Prop} {e : AJ} {n : Nat} {H : A1} : KS (some v) d K e n H = K ⟨AC e d v, n, H⟩ := rfl
theorem OB {d : Option Nat} {K : AS → Prop} {e : AJ} {n : Nat} {H : A1} : KS none d K e n H = False := rfl
section
variable {P : Program} {e : AJ} {n : Nat} {H : A1} {Q : AExit → AS → Prop} {K : AS → Prop}
theorem Ng : aw P .skip Q ⟨e, n, H⟩ = Q .normal ⟨e, n, H⟩ := rfl
theorem FD : aw P (.reg ops) Q ⟨e, n, H⟩ = awOps P ops (Q .normal) ⟨e, n, H⟩ := rfl
theorem FC {a b : ACode} : aw P (.seq a b) Q ⟨e, n, H⟩ = aw P a (D6 (aw P b Q) Q) ⟨e, n, H⟩ := rfl
theorem Lc {c : Opd} {a b : ACode} : aw P (.cond c a b) Q ⟨e, n, H⟩ = Eu (aw P a Q ⟨e, n, H⟩) (aw P b Q ⟨e, n, H⟩) (ev e c) := rfl
theorem MV : aw P (.block id c) Q ⟨e, n, H⟩ = aw P c (CD id Q) ⟨e, n, H⟩ := rfl
theorem LI : aw P (.loop c) Q ⟨e, n, H⟩ = LoopK (fun Q s => aw P c Q s) Q ⟨e, n, H⟩ := rfl
theorem Ni : aw P (.exit id) Q ⟨e, n, H⟩ = Q (.exit id) ⟨e, n, H⟩ := rfl
theorem FN : aw P .ret Q ⟨e, n, H⟩ = Q .ret ⟨e, n, H⟩ := rfl
theorem FF : aw P .bad Q ⟨e, n, H⟩ = False := rfl
theorem HQ : aw P (.kp ks c) Q ⟨e, n, H⟩ = aw P c Q ⟨EC e ks, n, H⟩ := rfl
theorem HO : aw P (.ke ks c) Q ⟨e, n, H⟩ = aw P c (T1 ks Q) ⟨e, n, H⟩ := rfl
theorem Lg : T1 ks Q .normal ⟨e, n, H⟩ = Q .normal ⟨EC e ks, n, H⟩ := rfl
theorem MC {i : Nat} {s : AS} : T1 ks Q (.exit i) s = Q (.exit i) s := rfl
theorem Nq {s : AS} : T1 ks Q .ret s = Q .ret s := rfl
theorem MZ {l : List Seg} : aw P (.segs l) Q ⟨e, n, H⟩ = CR P l (Q .normal) ⟨e, n, H⟩ := rfl
theorem Ny : CR P [] K ⟨e, n, H⟩ = K ⟨e, n, H⟩ := rfl
def A3y (o : Option AV) (d : Nat) (ops : List AOper) (K : AS → Prop) (e : AJ) (n : Nat) (H : A1) : Prop :=
 match o with
 | some v => K ⟨put (G9 e ops) d v, n, H⟩
 | none => False
theorem LV {d : Nat} {K : AS → Prop} {e : AJ} {n : Nat} {H : A1} : A3y (some v) d ops K e n H = K ⟨put (G9 e ops) d v, n, H⟩ := rfl
theorem LZ {d : Nat} {K : AS → Prop} {e : AJ} {n : Nat} {H : A1} : A3y none d ops K e n H = False := rfl
theorem NY {t d x : Nat} {l : List Seg} : CR P (⟨some (t, want), ops, some (d, x)⟩ :: l) K ⟨e, n, H⟩ = A3y (Tq want x (get e t) (DS ops e H)) d ops (CR P l K) e n H := rfl
def evS (o : Option AV) (d : Option Nat) (os : List AOper) (e : AJ) (H : A1) : Option AJ :=
 match o with
 | some v => DS os (AC e d v) H
 | none => none
theorem Ly {d : Option Nat} {H : A1} : evS (some v) d os e H = DS os (AC e d v) H := rfl
theorem LJ {d : Option Nat} {H : A1} : evS none d os e H = none := rfl
theorem M0 {H : A1} : DS [] e H = some e := rfl
theorem MT {d : Option Nat} {g : Option (Nat × Bool)} {H : A1} : DS (⟨d, op, g⟩ :: os) e H = evS (pe op e H) d os e H := rfl
theorem No {l : List Seg} {p : Option (Nat × Nat)} : CR P (⟨none, ops, p⟩ :: l) K ⟨e, n, H⟩ = awOps P ops (CR P l K) ⟨e, n, H⟩ := rfl
theorem PJ {v : AV} (hv : v ≠ .any) : ∀ {e : AJ} {t : Nat}, get e t = v → Fc e t v = e
 | [], t, h => absurd h.symm hv
 | (k, u) :: r, t, h => by
  simp only [get] at h
  simp only [Fc]
  split
  ·rename_i hk; rw [if_pos hk] at h; rw [h, hk]
  ·rename_i hk; rw [if_neg hk] at h; rw [PJ hv h]
def EE (want : Bool) (A B C : Prop) : AV → Prop
 | .bool b => (b = want → A) ∧ (b ≠ want → B)
 | .und => C
 | _ => False
theorem NG {l : List Seg} : CR P (⟨some (t, want), ops, none⟩ :: l) K ⟨e, n, H⟩ = EE want (awOps P ops (CR P l K) ⟨Fc e t (.bool want), n, H⟩) (CR P l K ⟨GK (Fc e t (.bool (!want))) ops, n, H⟩) (CR P l K ⟨GK e ops, n, H⟩) (get e t) := by
 show guardK want _ (CR P l K ⟨GK e ops, n, H⟩) _ = _
 generalize hg : get e t = v
 cases v <;> try rfl
 rename_i b
 simp only [guardK, EE, eq_iff_iff]
 by_cases hb : b = want
 ·subst hb
  rw [PJ (by simp) hg]
  simp
 ·have hb' : b = !want := by cases b <;> cases want <;> simp_all
  subst hb'
  rw [PJ (by simp) hg]
  simp
theorem N9 : awOps P [] K ⟨e, n, H⟩ = K ⟨e, n, H⟩ := rfl
theorem Ld {d : Option Nat} : awOps P (⟨d, op, none⟩ :: os) K ⟨e, n, H⟩ = AI P d op (awOps P os K) ⟨e, n, H⟩ := rfl
theorem MD {m : Mode} {S : List Nat} : aw P (.regD m S ops) Q ⟨e, n, H⟩ = gsK P m (RW e S) ops (Q .normal) ⟨e, n, H⟩ := rfl
theorem Lv {m : Mode} {s : AS} : gsK P m (some gs) ops K s = gsM P m gs ops K s := rfl
theorem Ep {m : Mode} (h : A3 P m n gs ops K ⟨e, n, H⟩) : gsM P m gs ops K ⟨e, n, H⟩ := ⟨[], h⟩
theorem Xt {m : Mode} (ms : List Nat) (h : A3 P m n (ms ++ gs) ops K ⟨e, n, H⟩) : gsM P m gs ops K ⟨e, n, H⟩ := ⟨ms, h⟩
theorem Li : RW e [] = some [] := rfl
theorem O7 {ts : List Nat} : RW e (t :: ts) = gsC (get e t) (RW e ts) := rfl
theorem Mz : gsC (.ptr g o) (some gs) = some (g :: gs) := rfl
def Uu (ob : AObj) (d : Option Nat) (K : AS → Prop) (e : AJ) (n : Nat) (H : A1) : Prop := ∀ g, n ≤ g → H g = none → K ⟨AC e d (.ptr g 0), g + 1, upd H g (some ob)⟩
theorem GA {d : Option Nat} {H : A1} (h : Wz ob d K e n H) : Uu ob d K e n H := fun g hg _ => h g hg
def VB (sz : Nat) (l : List AV) (ob : AObj) (d : Option Nat) (K : AS → Prop) (e : AJ) (n : Nat) (H : A1) : Prop := ∀ g, n ≤ g → H g = none → K ⟨AC e d (.sl sz l (.own g)), g + 1, upd H g (some ob)⟩
theorem H8 {d : Option Nat} {H : A1} (h : SV sz l ob d K e n H) : VB sz l ob d K e n H := fun g hg _ => h g hg
theorem N4 : A3 P md lw gs [] K ⟨e, n, H⟩ = K ⟨e, n, H⟩ := rfl
theorem Mx {d : Option Nat} : A3 P md lw gs (⟨d, .load sh x, none⟩ :: os) K ⟨e, n, H⟩ = KS (B8 (BC gs H) sh (ev e x)) d (A3 P md lw gs os K) e n H := rfl
def QE (md : Mode) (lo : Nat) (ob : AObj) (d : Option Nat) (K : AS → Prop) (e : AJ) (n : Nat) (H : A1) : Prop := newK md lo ⟨e, n, H⟩ fun g n' => K ⟨AC e d (.ptr g 0), n', upd H g (some ob)⟩
def QS (md : Mode) (lo : Nat) (sz : Nat) (l : List AV) (ob : AObj) (d : Option Nat) (K : AS → Prop) (e : AJ) (n : Nat) (H : A1) : Prop := newK md lo ⟨e, n, H⟩ fun g n' => K ⟨AC e d (.sl sz l (.own g)), n', upd H g (some ob)⟩
theorem Nc {d : Option Nat} {H : A1} : QE .plain lo ob d K e n H = Uu ob d K e n H := rfl
theorem NW {d : Option Nat} {H : A1} : QE .late lo ob d K e n H = Uu ob d K e n H := rfl
theorem LW {d : Option Nat} {H : A1} : QE (.last q) lo ob d K e n H = Uu ob d K e n H := rfl
theorem NK {d : Option Nat} {H : A1} : QS .plain lo sz l ob d K e n H = VB sz l ob d K e n H := rfl
theorem Mf {d : Option Nat} {H : A1} : QS .late lo sz l ob d K e n H = VB sz l ob d K e n H := rfl
theorem Mp {d : Option Nat} {H : A1} : QS (.last q) lo sz l ob d K e n H = VB sz l ob d K e n H := rfl
theorem U7 {d : Option Nat} {H : A1} (hlo : lo ≤ n) (hex : ∃ g, lo ≤ g ∧ H g = none) (h : ∀ g n', lo ≤ g → H g = none → n ≤ n' → g < n' → K ⟨AC e d (.ptr g 0), n', upd H g (some ob)⟩) : QE .free lo ob d K e n H := ⟨hlo, hex, h⟩
theorem Tn {d : Option Nat} {H : A1} (hlo : lo ≤ n) (hex : ∃ g, lo ≤ g ∧ H g = none) (h : ∀ g n', lo ≤ g → H g = none → n ≤ n' → g < n' → K ⟨AC e d (.sl sz l (.own g)), n', upd H g (some ob)⟩) : QS .free lo sz l ob d K e n H := ⟨hlo, hex, h⟩
theorem Mc {d : Option Nat} {t : TypeId} {z : List AV} : A3 P md lw gs (⟨d, .alloc t z, none⟩ :: os) K ⟨e, n, H⟩ = (ones z ∧ QE md lw (.cells t z) d (A3 P md lw gs os K) e n H) := rfl
theorem Ln {d : Option Nat} {x v : Opd} : A3 P md lw gs (⟨d, .store sh x v, none⟩ :: os) K ⟨e, n, H⟩ = (LC md lw gs x (ev e x) ∧ CZ sh d (A3 P md lw gs os K) ⟨e, n, H⟩ (ev e v) (ev e x)) := rfl
theorem FU {d : Option Nat} : A3 P md lw gs (⟨d, .mv x, some (t, want)⟩ :: os) K ⟨e, n, H⟩ = guardK want (AI P d (.mv x) (A3 P md lw gs os K) ⟨e, n, H⟩) (A3 P md lw gs os K ⟨AC e d .und, n, H⟩) (get e t) := by
 show (match get e t with | .bool b => _ | .und => _ | _ => False) = _
 cases get e t <;> rfl
theorem O5 {d : Option Nat} {op : BinOp} : A3 P md lw gs (⟨d, .bin op x y, some (t, want)⟩ :: os) K ⟨e, n, H⟩ = guardK want (AI P d (.bin op x y) (A3 P md lw gs os K) ⟨e, n, H⟩) (A3 P md lw gs os K ⟨AC e d .und, n, H⟩) (get e t) := by
 show (match get e t with | .bool b => _ | .und => _ | _ => False) = _
 cases get e t <;> rfl
theorem OC {d : Option Nat} {ks : List FK} : A3 P md lw gs (⟨d, .eqs ks neg x y, some (t, want)⟩ :: os) K ⟨e, n, H⟩ = guardK want (AI P d (.eqs ks neg x y) (A3 P md lw gs os K) ⟨e, n, H⟩) (A3 P md lw gs os K ⟨AC e d .und, n, H⟩) (get e t) := by
 show (match get e t with | .bool b => _ | .und => _ | _ => False) = _
 cases get e t <;> rfl
theorem Lk {d : Option Nat} : A3 P md lw gs (⟨d, .eqb neg x y, some (t, want)⟩ :: os) K ⟨e, n, H⟩ = guardK want (AI P d (.eqb neg x y) (A3 P md lw gs os K) ⟨e, n, H⟩) (A3 P md lw gs os K ⟨AC e d .und, n, H⟩) (get e t) := by
 show (match get e t with | .bool b => _ | .und => _ | _ => False) = _
 cases get e t <;> rfl
theorem Nt {d : Option Nat} : A3 P md lw gs (⟨d, .eqn neg x, some (t, want)⟩ :: os) K ⟨e, n, H⟩ = guardK want (AI P d (.eqn neg x) (A3 P md lw gs os K) ⟨e, n, H⟩) (A3 P md lw gs os K ⟨AC e d .und, n, H⟩) (get e t) := by
 show (match get e t with | .bool b => _ | .und => _ | _ => False) = _
 cases get e t <;> rfl
theorem NR {d : Option Nat} : A3 P md lw gs (⟨d, .eqp neg x, some (t, want)⟩ :: os) K ⟨e, n, H⟩ = guardK want (AI P d (.eqp neg x) (A3 P md lw gs os K) ⟨e, n, H⟩) (A3 P md lw gs os K ⟨AC e d .und, n, H⟩) (get e t) := by
 show (match get e t with | .bool b => _ | .und => _ | _ => False) = _
 cases get e t <;> rfl
theorem Na {d : Option Nat} : A3 P md lw gs (⟨d, .eqi neg x, some (t, want)⟩ :: os) K ⟨e, n, H⟩ = guardK want (AI P d (.eqi neg x) (A3 P md lw gs os K) ⟨e, n, H⟩) (A3 P md lw gs os K ⟨AC e d .und, n, H⟩) (get e t) := by
 show (match get e t with | .bool b => _ | .und => _ | _ => False) = _
 cases get e t <;> rfl
theorem Mr {d : Option Nat} : A3 P md lw gs (⟨d, .neg x, some (t, want)⟩ :: os) K ⟨e, n, H⟩ = guardK want (AI P d (.neg x) (A3 P md lw gs os K) ⟨e, n, H⟩) (A3 P md lw gs os K ⟨AC e d .und, n, H⟩) (get e t) := by
 show (match get e t with | .bool b => _ | .und => _ | _ => False) = _
 cases get e t <;> rfl
theorem Ma {d : Option Nat} : A3 P md lw gs (⟨d, .not x, some (t, want)⟩ :: os) K ⟨e, n, H⟩ = guardK want (AI P d (.not x) (A3 P md lw gs os K) ⟨e, n, H⟩) (A3 P md lw gs os K ⟨AC e d .und, n, H⟩) (get e t) := by
 show (match get e t with | .bool b => _ | .und => _ | _ => False) = _
 cases get e t <;> rfl
theorem OD {d : Option Nat} : A3 P md lw gs (⟨d, .cvi k x, some (t, want)⟩ :: os) K ⟨e, n, H⟩ = guardK want (AI P d (.cvi k x) (A3 P md lw gs os K) ⟨e, n, H⟩) (A3 P md lw gs os K ⟨AC e d .und, n, H⟩) (get e t) := by
 show (match get e t with | .bool b => _ | .und => _ | _ => False) = _
 cases get e t <;> rfl
theorem Mh {d : Option Nat} {lo hi : Option Opd} : A3 P md lw gs (⟨d, .cut sz x lo hi, some (t, want)⟩ :: os) K ⟨e, n, H⟩ = guardK want (AI P d (.cut sz x lo hi) (A3 P md lw gs os K) ⟨e, n, H⟩) (A3 P md lw gs os K ⟨AC e d .und, n, H⟩) (get e t) := by
 show (match get e t with | .bool b => _ | .und => _ | _ => False) = _
 cases get e t <;> rfl
theorem LX {d : Option Nat} {lo hi : Option Opd} : A3 P md lw gs (⟨d, .cutS x lo hi, some (t, want)⟩ :: os) K ⟨e, n, H⟩ = guardK want (AI P d (.cutS x lo hi) (A3 P md lw gs os K) ⟨e, n, H⟩) (A3 P md lw gs os K ⟨AC e d .und, n, H⟩) (get e t) := by
 show (match get e t with | .bool b => _ | .und => _ | _ => False) = _
 cases get e t <;> rfl
theorem NT {d : Option Nat} : A3 P md lw gs (⟨d, .faddr x off s, some (t, want)⟩ :: os) K ⟨e, n, H⟩ = guardK want (AI P d (.faddr x off s) (A3 P md lw gs os K) ⟨e, n, H⟩) (A3 P md lw gs os K ⟨AC e d .und, n, H⟩) (get e t) := by
 show (match get e t with | .bool b => _ | .und => _ | _ => False) = _
 cases get e t <;> rfl
theorem LR {d : Option Nat} : A3 P md lw gs (⟨d, .field x off s, some (t, want)⟩ :: os) K ⟨e, n, H⟩ = guardK want (AI P d (.field x off s) (A3 P md lw gs os K) ⟨e, n, H⟩) (A3 P md lw gs os K ⟨AC e d .und, n, H⟩) (get e t) := by
 show (match get e t with | .bool b => _ | .und => _ | _ => False) = _
 cases get e t <;> rfl
theorem Ms {d : Option Nat} : A3 P md lw gs (⟨d, .iaddr sz s x i, some (t, want)⟩ :: os) K ⟨e, n, H⟩ = guardK want (AI P d (.iaddr sz s x i) (A3 P md lw gs os K) ⟨e, n, H⟩) (A3 P md lw gs os K ⟨AC e d .und, n, H⟩) (get e t) := by
 show (match get e t with | .bool b => _ | .und => _ | _ => False) = _
 cases get e t <;> rfl
theorem MX {d : Option Nat} : A3 P md lw gs (⟨d, .aaddr len sz s x i, some (t, want)⟩ :: os) K ⟨e, n, H⟩ = guardK want (AI P d (.aaddr len sz s x i) (A3 P md lw gs os K) ⟨e, n, H⟩) (A3 P md lw gs os K ⟨AC e d .und, n, H⟩) (get e t) := by
 show (match get e t with | .bool b => _ | .und => _ | _ => False) = _
 cases get e t <;> rfl
theorem LN {d : Option Nat} : A3 P md lw gs (⟨d, .sidx x i, some (t, want)⟩ :: os) K ⟨e, n, H⟩ = guardK want (AI P d (.sidx x i) (A3 P md lw gs os K) ⟨e, n, H⟩) (A3 P md lw gs os K ⟨AC e d .und, n, H⟩) (get e t) := by
 show (match get e t with | .bool b => _ | .und => _ | _ => False) = _
 cases get e t <;> rfl
theorem Np {d : Option Nat} : A3 P md lw gs (⟨d, .aidx len sz s x i, some (t, want)⟩ :: os) K ⟨e, n, H⟩ = guardK want (AI P d (.aidx len sz s x i) (A3 P md lw gs os K) ⟨e, n, H⟩) (A3 P md lw gs os K ⟨AC e d .und, n, H⟩) (get e t) := by
 show (match get e t with | .bool b => _ | .und => _ | _ => False) = _
 cases get e t <;> rfl
theorem N0 {d : Option Nat} : A3 P md lw gs (⟨d, .len x, some (t, want)⟩ :: os) K ⟨e, n, H⟩ = guardK want (AI P d (.len x) (A3 P md lw gs os K) ⟨e, n, H⟩) (A3 P md lw gs os K ⟨AC e d .und, n, H⟩) (get e t) := by
 show (match get e t with | .bool b => _ | .und => _ | _ => False) = _
 cases get e t <;> rfl
theorem Ls {d : Option Nat} : A3 P md lw gs (⟨d, .lenS x, some (t, want)⟩ :: os) K ⟨e, n, H⟩ = guardK want (AI P d (.lenS x) (A3 P md lw gs os K) ⟨e, n, H⟩) (A3 P md lw gs os K ⟨AC e d .und, n, H⟩) (get e t) := by
 show (match get e t with | .bool b => _ | .und => _ | _ => False) = _
 cases get e t <;> rfl
theorem LH {d : Option Nat} {i : Nat} : A3 P md lw gs (⟨d, .extr x i, some (t, want)⟩ :: os) K ⟨e, n, H⟩ = guardK want (AI P d (.extr x i) (A3 P md lw gs os K) ⟨e, n, H⟩) (A3 P md lw gs os K ⟨AC e d .und, n, H⟩) (get e t) := by
 show (match get e t with | .bool b => _ | .und => _ | _ => False) = _
 cases get e t <;> rfl
theorem Lf {d : Option Nat} {z : List AV} : A3 P md lw gs (⟨d, .build z ps, some (t, want)⟩ :: os) K ⟨e, n, H⟩ = guardK want (AI P d (.build z ps) (A3 P md lw gs os K) ⟨e, n, H⟩) (A3 P md lw gs os K ⟨AC e d .und, n, H⟩) (get e t) := by
 show (match get e t with | .bool b => _ | .und => _ | _ => False) = _
 cases get e t <;> rfl
theorem Ey {d : Option Nat} : A3 P md lw gs (⟨d, .mm mx x y, some (t, want)⟩ :: os) K ⟨e, n, H⟩ = guardK want (AI P d (.mm mx x y) (A3 P md lw gs os K) ⟨e, n, H⟩) (A3 P md lw gs os K ⟨AC e d .und, n, H⟩) (get e t) := by
 show (match get e t with | .bool b => _ | .und => _ | _ => False) = _
 cases get e t <;> rfl
theorem MY {d : Option Nat} : A3 P md lw gs (⟨d, .load sh x, some (t, want)⟩ :: os) K ⟨e, n, H⟩ = guardK want (KS (B8 (BC gs H) sh (ev e x)) d (A3 P md lw gs os K) e n H) (A3 P md lw gs os K ⟨AC e d .und, n, H⟩) (get e t) := by
 show K1 (Vj gs sh x (some (t, want)) e H) _ = _
 unfold Vj
 simp only
 cases get e t <;> try rfl
 rename_i b
 simp only [guardK, eq_iff_iff]
 by_cases hb : b = want
 ·rw [if_pos hb]
  exact ⟨fun h => ⟨fun _ => h, fun hne => absurd hb hne⟩, fun h => h.1 hb⟩
 ·rw [if_neg hb]
  exact ⟨fun h => ⟨fun he => absurd he hb, fun _ => h⟩, fun h => h.2 hb⟩
theorem F4 {d : Option Nat} : A3 P md lw gs (⟨d, .mv x, none⟩ :: os) K ⟨e, n, H⟩ = AI P d (.mv x) (A3 P md lw gs os K) ⟨e, n, H⟩ := rfl
theorem LL {d : Option Nat} {c a b : Opd} : A3 P md lw gs (⟨d, .pick c a b, none⟩ :: os) K ⟨e, n, H⟩ = AI P d (.pick c a b) (A3 P md lw gs os K) ⟨e, n, H⟩ := rfl
theorem Lo {d : Option Nat} {op : BinOp} : A3 P md lw gs (⟨d, .bin op x y, none⟩ :: os) K ⟨e, n, H⟩ = AI P d (.bin op x y) (A3 P md lw gs os K) ⟨e, n, H⟩ := rfl
theorem OA {d : Option Nat} {ks : List FK} : A3 P md lw gs (⟨d, .eqs ks neg x y, none⟩ :: os) K ⟨e, n, H⟩ = AI P d (.eqs ks neg x y) (A3 P md lw gs os K) ⟨e, n, H⟩ := rfl
theorem O0 {d : Option Nat} : A3 P md lw gs (⟨d, .eqb neg x y, none⟩ :: os) K ⟨e, n, H⟩ = AI P d (.eqb neg x y) (A3 P md lw gs os K) ⟨e, n, H⟩ := rfl
theorem M9 {d : Option Nat} : A3 P md lw gs (⟨d, .eqn neg x, none⟩ :: os) K ⟨e, n, H⟩ = AI P d (.eqn neg x) (A3 P md lw gs os K) ⟨e, n, H⟩ := rfl
theorem Nj {d : Option Nat} : A3 P md lw gs (⟨d, .eqp neg x, none⟩ :: os) K ⟨e, n, H⟩ = AI P d (.eqp neg x) (A3 P md lw gs os K) ⟨e, n, H⟩ := rfl
theorem M4 {d : Option Nat} : A3 P md lw gs (⟨d, .eqi neg x, none⟩ :: os) K ⟨e, n, H⟩ = AI P d (.eqi neg x) (A3 P md lw gs os K) ⟨e, n, H⟩ := rfl
theorem MF {d : Option Nat} : A3 P md lw gs (⟨d, .neg x, none⟩ :: os) K ⟨e, n, H⟩ = AI P d (.neg x) (A3 P md lw gs os K) ⟨e, n, H⟩ := rfl
theorem MA {d : Option Nat} : A3 P md lw gs (⟨d, .not x, none⟩ :: os) K ⟨e, n, H⟩ = AI P d (.not x) (A3 P md lw gs os K) ⟨e, n, H⟩ := rfl
theorem MG {d : Option Nat} : A3 P md lw gs (⟨d, .cvi k x, none⟩ :: os) K ⟨e, n, H⟩ = AI P d (.cvi k x) (A3 P md lw gs os K) ⟨e, n, H⟩ := rfl
theorem NF {d : Option Nat} {fst cap : List Opd} : A3 P md lw gs (⟨d, .mkfn f fst cap, none⟩ :: os) K ⟨e, n, H⟩ = AI P d (.mkfn f fst cap) (A3 P md lw gs os K) ⟨e, n, H⟩ := rfl
theorem N7 {d : Option Nat} {lo hi : Option Opd} : A3 P md lw gs (⟨d, .cut sz x lo hi, none⟩ :: os) K ⟨e, n, H⟩ = AI P d (.cut sz x lo hi) (A3 P md lw gs os K) ⟨e, n, H⟩ := rfl
theorem Mt {d : Option Nat} {lo hi : Option Opd} : A3 P md lw gs (⟨d, .cutS x lo hi, none⟩ :: os) K ⟨e, n, H⟩ = AI P d (.cutS x lo hi) (A3 P md lw gs os K) ⟨e, n, H⟩ := rfl
theorem Mi {d : Option Nat} : A3 P md lw gs (⟨d, .faddr x off s, none⟩ :: os) K ⟨e, n, H⟩ = AI P d (.faddr x off s) (A3 P md lw gs os K) ⟨e, n, H⟩ := rfl
theorem Mo {d : Option Nat} : A3 P md lw gs (⟨d, .field x off s, none⟩ :: os) K ⟨e, n, H⟩ = AI P d (.field x off s) (A3 P md lw gs os K) ⟨e, n, H⟩ := rfl
theorem Lw {d : Option Nat} : A3 P md lw gs (⟨d, .iaddr sz s x i, none⟩ :: os) K ⟨e, n, H⟩ = AI P d (.iaddr sz s x i) (A3 P md lw gs os K) ⟨e, n, H⟩ := rfl
theorem Mq {d : Option Nat} : A3 P md lw gs (⟨d, .aaddr len sz s x i, none⟩ :: os) K ⟨e, n, H⟩ = AI P d (.aaddr len sz s x i) (A3 P md lw gs os K) ⟨e, n, H⟩ := rfl
theorem MQ {d : Option Nat} : A3 P md lw gs (⟨d, .sidx x i, none⟩ :: os) K ⟨e, n, H⟩ = AI P d (.sidx x i) (A3 P md lw gs os K) ⟨e, n, H⟩ := rfl
theorem MH {d : Option Nat} : A3 P md lw gs (⟨d, .aidx len sz s x i, none⟩ :: os) K ⟨e, n, H⟩ = AI P d (.aidx len sz s x i) (A3 P md lw gs os K) ⟨e, n, H⟩ := rfl
theorem Mj {d : Option Nat} : A3 P md lw gs (⟨d, .len x, none⟩ :: os) K ⟨e, n, H⟩ = AI P d (.len x) (A3 P md lw gs os K) ⟨e, n, H⟩ := rfl
theorem N8 {d : Option Nat} : A3 P md lw gs (⟨d, .lenS x, none⟩ :: os) K ⟨e, n, H⟩ = AI P d (.lenS x) (A3 P md lw gs os K) ⟨e, n, H⟩ := rfl
theorem Nv {d : Option Nat} {j : Nat} : A3 P md lw gs (⟨d, .clen j, none⟩ :: os) K ⟨e, n, H⟩ = AI P d (.clen j) (A3 P md lw gs os K) ⟨e, n, H⟩ := rfl
theorem Nr {d : Option Nat} {i : Nat} : A3 P md lw gs (⟨d, .extr x i, none⟩ :: os) K ⟨e, n, H⟩ = AI P d (.extr x i) (A3 P md lw gs os K) ⟨e, n, H⟩ := rfl
theorem Ns {d : Option Nat} : A3 P md lw gs (⟨d, .nilck x, none⟩ :: os) K ⟨e, n, H⟩ = AI P d (.nilck x) (A3 P md lw gs os K) ⟨e, n, H⟩ := rfl
theorem Nm {d : Option Nat} {z : List AV} : A3 P md lw gs (⟨d, .build z ps, none⟩ :: os) K ⟨e, n, H⟩ = AI P d (.build z ps) (A3 P md lw gs os K) ⟨e, n, H⟩ := rfl
theorem FX {d : Option Nat} : A3 P md lw gs (⟨d, .mm mx x y, none⟩ :: os) K ⟨e, n, H⟩ = AI P d (.mm mx x y) (A3 P md lw gs os K) ⟨e, n, H⟩ := rfl
theorem M1 {d : Option Nat} : A3 P md lw gs (⟨d, .b2s x, none⟩ :: os) K ⟨e, n, H⟩ = AI P d (.b2s x) (A3 P md lw gs os K) ⟨e, n, H⟩ := rfl
theorem Nh {d : Option Nat} : A3 P md lw gs (⟨d, .r2s x, none⟩ :: os) K ⟨e, n, H⟩ = AI P d (.r2s x) (A3 P md lw gs os K) ⟨e, n, H⟩ := rfl
theorem Mw {d : Option Nat} : A3 P md lw gs (⟨d, .upc x, none⟩ :: os) K ⟨e, n, H⟩ = AI P d (.upc x) (A3 P md lw gs os K) ⟨e, n, H⟩ := rfl
theorem Lu {d : Option Nat} : A3 P md lw gs (⟨d, .eqpp neg x y, none⟩ :: os) K ⟨e, n, H⟩ = AI P d (.eqpp neg x y) (A3 P md lw gs os K) ⟨e, n, H⟩ := rfl
theorem Mk {d : Option Nat} : A3 P md lw gs (⟨d, .updn u x, none⟩ :: os) K ⟨e, n, H⟩ = AI P d (.updn u x) (A3 P md lw gs os K) ⟨e, n, H⟩ := rfl
theorem Md {d : Option Nat} : A3 P md lw gs (⟨d, .usd el x, none⟩ :: os) K ⟨e, n, H⟩ = AI P d (.usd el x) (A3 P md lw gs os K) ⟨e, n, H⟩ := rfl
theorem M8 {d : Option Nat} {x j : Opd} : A3 P md lw gs (⟨d, .ust el x j, none⟩ :: os) K ⟨e, n, H⟩ = AI P d (.ust el x j) (A3 P md lw gs os K) ⟨e, n, H⟩ := rfl
theorem NZ {d : Option Nat} : A3 P md lw gs (⟨d, .box el s x, none⟩ :: os) K ⟨e, n, H⟩ = AI P d (.box el s x) (A3 P md lw gs os K) ⟨e, n, H⟩ := rfl
theorem O8 {d : Option Nat} : A3 P md lw gs (⟨d, .bsl el s xs, none⟩ :: os) K ⟨e, n, H⟩ = (He s (xs.map (ev e)) ∧ QS md lw (BD s) (xs.map (ev e)) (.row el xs.length) d (A3 P md lw gs os K) e n H) := by
 have h : He s (xs.map (ev e)) = (∀ x ∈ xs, (ev e x).fits s = true ∧ ones (ev e x).cells) := by simp [He, Au]
 rw [h]; rfl
theorem NJ {d : Option Nat} {el sz by_ : Nat} : A3 P md lw gs (⟨d, .app el sz by_ x y, none⟩ :: os) K ⟨e, n, H⟩ = (Sr gs (ev e x) ∧ appKS el sz by_ d (KM gs H (A3 P md lw gs os K)) ⟨e, n, H⟩ (ev e x) (ev e y)) := rfl
theorem KM.of {H : A1} {s : AS} (h : K s) : KM gs H K s := fun _ => h
theorem KC.of {H : A1} {s : AS} (h : KeepM gs H s.H) (h' : K s) : KC gs H K s := ⟨h, h'⟩
theorem N1 {t : Tok} : Sr gs (.sl z l t) = True := rfl
theorem Nf {z g k : Nat} : Sr gs (.slg z g k) = (g ∈ gs) := rfl
theorem MJ {d : Option Nat} {el by_ : Nat} : A3 P md lw gs (⟨d, .appB el by_ x y, none⟩ :: os) K ⟨e, n, H⟩ = AI P d (.appB el by_ x y) (A3 P md lw gs os K) ⟨e, n, H⟩ := rfl
theorem MS {d : Option Nat} : A3 P md lw gs (⟨d, .s2b el x, none⟩ :: os) K ⟨e, n, H⟩ = AI P d (.s2b el x) (A3 P md lw gs os K) ⟨e, n, H⟩ := rfl
theorem Nd {d : Option Nat} : A3 P md lw gs (⟨d, .s2s x, none⟩ :: os) K ⟨e, n, H⟩ = AI P d (.s2s x) (A3 P md lw gs os K) ⟨e, n, H⟩ := rfl
theorem M2 {d : Option Nat} : A3 P md lw gs (⟨d, .mkmap kk, none⟩ :: os) K ⟨e, n, H⟩ = AI P d (.mkmap kk) (A3 P md lw gs os K) ⟨e, n, H⟩ := rfl
theorem Lp {d : Option Nat} {m k v : Opd} : A3 P md lw gs (⟨d, .mset kk m k v, none⟩ :: os) K ⟨e, n, H⟩ = AI P d (.mset kk m k v) (A3 P md lw gs os K) ⟨e, n, H⟩ := rfl
theorem NA {d : Option Nat} {z : AV} {m k : Opd} : A3 P md lw gs (⟨d, .mget kk z ok m k, none⟩ :: os) K ⟨e, n, H⟩ = KS (Dd (BC gs H) kk z ok (ev e m) (ev e k)) d (A3 P md lw gs os K) e n H := rfl
theorem N5 {d : Option Nat} : A3 P md lw gs (⟨d, .call f xs, none⟩ :: os) K ⟨e, n, H⟩ = CallK P f (xs.map (ev e)) d (KC gs H (A3 P md lw gs os K)) ⟨e, n, H⟩ := rfl
theorem Mn {d : Option Nat} : A3 P md lw gs (⟨d, .callp f xs, none⟩ :: os) K ⟨e, n, H⟩ = AI P d (.callp f xs) (A3 P md lw gs os K) ⟨e, n, H⟩ := rfl
theorem Lt {d : Option Nat} {f : Opd} : A3 P md lw gs (⟨d, .callv f xs, none⟩ :: os) K ⟨e, n, H⟩ = AI P d (.callv f xs) (A3 P md lw gs os K) ⟨e, n, H⟩ := rfl
theorem NQ : LC .plain lo gs x v = True := rfl
theorem NN : LC .free lo gs x v = True := rfl
theorem NX : LC .late lo gs x v = Uk gs v := rfl
theorem MI {q i : Nat} : LC (.last q) lo gs (.t i) v = ((i = q → Tj lo gs v) ∧ (i ≠ q → UF lo gs v)) := rfl
theorem O9 : Tj lo gs (.ptr g o) = (g < lo ∧ g ∉ gs) := rfl
theorem LP : UF lo gs (.ptr g o) = (lo ≤ g ∨ g ∈ gs) := rfl
theorem Nu : Uk gs (.ptr g o) = (g ∈ gs) := rfl
theorem Ja {a : Nat} {H : A1} {k : Nat} : BC (a :: gs) H k = if k = a then none else BC gs H k := rfl
theorem Ll {H : A1} {k : Nat} : BC [] H k = H k := rfl
theorem HN {d : Option Nat} : AI P d (.mv x) K ⟨e, n, H⟩ = KS (some (ev e x)) d K e n H := rfl
theorem LK {d : Option Nat} {c a b : Opd} : AI P d (.pick c a b) K ⟨e, n, H⟩ = KS (match ev e c with | .bool t => some (if t then ev e a else ev e b) | _ => none) d K e n H := rfl
theorem F3 {d : Option Nat} {o : BinOp} : AI P d (.bin o x y) K ⟨e, n, H⟩ = KS (Dz o (ev e x) (ev e y)) d K e n H := rfl
theorem FL {d : Option Nat} {ks : List FK} : AI P d (.eqs ks ng x y) K ⟨e, n, H⟩ = KS (KK ks ng (ev e x) (ev e y)) d K e n H := rfl
theorem F8 {d : Option Nat} : AI P d (.eqb ng x y) K ⟨e, n, H⟩ = KS (Ki ng (ev e x) (ev e y)) d K e n H := rfl
theorem FO {d : Option Nat} : AI P d (.eqn ng x) K ⟨e, n, H⟩ = KS (Hc ng (ev e x)) d K e n H := rfl
theorem FJ {d : Option Nat} : AI P d (.eqp ng x) K ⟨e, n, H⟩ = KS ((DA (ev e x)).map (Tt ng)) d K e n H := rfl
theorem FG {d : Option Nat} : AI P d (.eqi ng x) K ⟨e, n, H⟩ = KS ((DG (ev e x)).map (Tt ng)) d K e n H := rfl
theorem FQ {d : Option Nat} : AI P d (.neg x) K ⟨e, n, H⟩ = KS (KI (ev e x)) d K e n H := rfl
theorem FY {d : Option Nat} : AI P d (.not x) K ⟨e, n, H⟩ = KS (Ju (ev e x)) d K e n H := rfl
theorem Ez {d : Option Nat} : AI P d (.cvi k x) K ⟨e, n, H⟩ = KS (K7 k (ev e x)) d K e n H := rfl
theorem LF {d : Option Nat} {a b : List Opd} : AI P d (.mkfn f a b) K ⟨e, n, H⟩ = KS (some (.fn f (a.map (ev e)) (b.map (ev e)))) d K e n H := rfl
theorem ME {d : Option Nat} {lo hi : Option Opd} : AI P d (.cutS x lo hi) K ⟨e, n, H⟩ = KS (Ev (ev e x) (lo.map (ev e)) (hi.map (ev e))) d K e n H := rfl
theorem FV {d : Option Nat} {lo hi : Option Opd} : AI P d (.cut sz x lo hi) K ⟨e, n, H⟩ = KS (Hn sz (ev e x) (lo.map (ev e)) (hi.map (ev e))) d K e n H := rfl
theorem LM {d : Option Nat} : AI P d (.faddr x o s) K ⟨e, n, H⟩ = KS (HY (ev e x) o s) d K e n H := rfl
theorem MP {d : Option Nat} : AI P d (.field x o s) K ⟨e, n, H⟩ = KS (Eb (ev e x) o s) d K e n H := rfl
theorem M7 {d : Option Nat} : AI P d (.iaddr sz s x i) K ⟨e, n, H⟩ = KS (CY sz s (ev e x) (ev e i)) d K e n H := rfl
theorem Lh {d : Option Nat} {l sz : Nat} : AI P d (.aaddr l sz s x i) K ⟨e, n, H⟩ = KS (HB l sz s (ev e x) (ev e i)) d K e n H := rfl
theorem N3 {d : Option Nat} : AI P d (.sidx x i) K ⟨e, n, H⟩ = KS (Gt (ev e x) (ev e i)) d K e n H := rfl
theorem MM {d : Option Nat} {l sz : Nat} : AI P d (.aidx l sz s x i) K ⟨e, n, H⟩ = KS (HA l sz s (ev e x) (ev e i)) d K e n H := rfl
theorem F1 {d : Option Nat} : AI P d (.len x) K ⟨e, n, H⟩ = KS (XL (ev e x)) d K e n H := rfl
theorem MW {d : Option Nat} : AI P d (.lenS x) K ⟨e, n, H⟩ = KS (Gm (ev e x)) d K e n H := rfl
theorem NL {d : Option Nat} : AI P d (.clen m) K ⟨e, n, H⟩ = KS (some (.int .i64 m)) d K e n H := rfl
theorem NV {d : Option Nat} {i : Nat} : AI P d (.extr x i) K ⟨e, n, H⟩ = KS (Gu i (ev e x)) d K e n H := rfl
theorem LG {d : Option Nat} : AI P d (.nilck x) K ⟨e, n, H⟩ = KS (EZ (ev e x)) d K e n H := rfl
theorem LU {d : Option Nat} : AI P d (.load s x) K ⟨e, n, H⟩ = KS (B8 H s (ev e x)) d K e n H := rfl
theorem Lr {d : Option Nat} {z : List AV} : AI P d (.build z ps) K ⟨e, n, H⟩ = KS (ED z (ps.map fun (o, s, x) => (o, s, ev e x))) d K e n H := by
 have h : (ps.map fun (o, _, x) => (o, ev e x)) = (ps.map fun (o, s, x) => (o, s, ev e x)).map fun (o, _, x) => (o, x) := by rw [List.map_map]; rfl
 show K1 (if _ then some (.agg (GE z _)) else none) _ = _
 rw [h]; unfold KS ED; split <;> rfl
theorem HS {d : Option Nat} : AI P d (.mm mx x y) K ⟨e, n, H⟩ = KS (Wm mx (ev e x) (ev e y)) d K e n H := rfl
theorem FT {d : Option Nat} : AI P d (.b2s x) K ⟨e, n, H⟩ = KS (Jx (ev e x)) d K e n H := rfl
theorem FB {d : Option Nat} : AI P d (.r2s x) K ⟨e, n, H⟩ = KS (Kn (ev e x)) d K e n H := rfl
theorem FS {d : Option Nat} : AI P d (.upc x) K ⟨e, n, H⟩ = KS (EP H (ev e x)) d K e n H := rfl
theorem FM {d : Option Nat} : AI P d (.usd el x) K ⟨e, n, H⟩ = KS (EN H el (ev e x)) d K e n H := rfl
theorem Nn {d : Option Nat} : AI P d (.eqpp ng x y) K ⟨e, n, H⟩ = KS (Gq ng (ev e x) (ev e y)) d K e n H := rfl
theorem M5 {d : Option Nat} : AI P d (.updn u x) K ⟨e, n, H⟩ = KS (Bw P H u (ev e x)) d K e n H := rfl
theorem FP {d : Option Nat} {t : TypeId} {x m : Opd} : AI P d (.ust t x m) K ⟨e, n, H⟩ = KS (DX t (ev e x) (ev e m)) d K e n H := rfl
theorem LQ {d : Option Nat} {t : TypeId} {z : List AV} : AI P d (.alloc t z) K ⟨e, n, H⟩ = (ones z ∧ Wz (.cells t z) d K e n H) := rfl
theorem F9 {d : Option Nat} {t : TypeId} : AI P d (.box t sh x) K ⟨e, n, H⟩ = ((Au sh (ev e x) ∧ Wz (.cells t (ev e x).cells) d K e n H)) := propext and_assoc.symm
theorem Lj {d : Option Nat} {x v : Opd} : AI P d (.store sh x v) K ⟨e, n, H⟩ = CZ sh d K ⟨e, n, H⟩ (ev e v) (ev e x) := rfl
def newB (el sz : Nat) (l : List AV) (d : Option Nat) (K : AS → Prop) (e : AJ) (n : Nat) (H : A1) : Prop := SV sz l (.row el l.length) d K e n H ∨ ∀ g, n ≤ g → K ⟨AC e d (.slm sz g 0 l.length), g + 1, upd H g (some (.cells el (AM l)))⟩
theorem Hw {el sz : Nat} {d : Option Nat} (h : SV sz l (.row el l.length) d K e n H) : newB el sz l d K e n H := .inl h
theorem F6 {d : Option Nat} {t : TypeId} : AI P d (.bsl t sh xs) K ⟨e, n, H⟩ = (He sh (xs.map (ev e)) ∧ newB t (BD sh) (xs.map (ev e)) d K e n H) := by
 have h : He sh (xs.map (ev e)) = (∀ x ∈ xs, (ev e x).fits sh = true ∧ ones (ev e x).cells) := by simp [He, Au]
 rw [h]
 unfold newB SV
 rw [List.length_map]; rfl
theorem FA {d : Option Nat} : AI P d (.app t sz b x y) K ⟨e, n, H⟩ = appKS t sz b d K ⟨e, n, H⟩ (ev e x) (ev e y) := rfl
theorem Nz {d : Option Nat} : AI P d (.appB t b x y) K ⟨e, n, H⟩ = Qg t b d K ⟨e, n, H⟩ (ev e x) (ev e y) := rfl
theorem F5 {d : Option Nat} {t : TypeId} : AI P d (.s2b t x) K ⟨e, n, H⟩ = Ji d K e n H (ev e x) := rfl
theorem F2 {d : Option Nat} : AI P d (.s2s x) K ⟨e, n, H⟩ = Js d K e n H (ev e x) := rfl
theorem Lq {d : Option Nat} : AI P d (.mkmap kk) K ⟨e, n, H⟩ = A63 kk d K e n H := rfl
theorem My {d : Option Nat} {m k v : Opd} : AI P d (.mset kk m k v) K ⟨e, n, H⟩ = E5 kk d K ⟨e, n, H⟩ (ev e k) (ev e v) (ev e m) := rfl
def A6e (m : Nat) (o : Option AObj) (d : Option Nat) (K : AS → Prop) (e : AJ) (n : Nat) (H : A1) : Prop := match o with
 | some (.map _ es) => ∀ g, n ≤ g → K ⟨AC e d (.ptr g 0), g + 1, upd H g (some (.iter m es.length (List.range es.length) none))⟩
 | _ => False
def A60 (g m len : Nat) (left : List Nat) (o : Option AObj) (d : Option Nat) (K : AS → Prop) (e : AJ) (n : Nat) (H : A1) : Prop := match o with
 | some (.map _ es) => es.length = len ∧ (left = [] → K ⟨AC e d (.tup [.bool false]), n, H⟩) ∧ ∀ j ∈ left, ∀ k v, es[j]? = some (k, v) → K ⟨AC e d (.tup [.bool true, k, v]), n, upd H g (some (.iter m len (left.erase j) (some j)))⟩
 | _ => False
def A5g (g : Nat) (o : Option AObj) (d : Option Nat) (K : AS → Prop) (e : AJ) (n : Nat) (H : A1) : Prop := match o with
 | some (.iter m len left _) => A60 g m len left (H m) d K e n H
 | _ => False
theorem NI {left : List Nat} {cur d : Option Nat} : A5g g (some (.iter m len left cur)) d K e n H = A60 g m len left (H m) d K e n H := rfl
theorem NB {d : Option Nat} : R5 d K ⟨e, n, H⟩ (.mp m) = A6e m (H m) d K e n H := rfl
theorem NM {d : Option Nat} : RX d K ⟨e, n, H⟩ (.ptr g 0) = A5g g (H g) d K e n H := propext ⟨fun h => h.2, fun h => ⟨rfl, h⟩⟩
def A34 (el : TypeId) (z : AV) (m : Nat) (d : Option Nat) (K : AS → Prop) (e : AJ) (n : Nat) (H : A1) : Prop := ∀ g, n ≤ g → K ⟨AC e d (.slm 1 g 0 m), g + 1, upd H g (some (.cells el (List.replicate m z)))⟩
theorem A0f {z : AV} {d : Option Nat} (h : ∀ g, n ≤ g → K ⟨AC e d (.slm 1 g 0 m), g + 1, upd H g (some (.cells el (List.replicate m z)))⟩) : A34 el z m d K e n H := h
theorem Nx {z : AV} {d : Option Nat} {k k' : IntKind} {p q : Int} : L6 el b z d K ⟨e, n, H⟩ (.int k p) (.int k' q) = (p = q ∧ 0 ≤ p ∧ (b : Int) * p ≤ 281474976710656 ∧ p ≤ maxLen ∧ A34 el z p.toNat d K e n H) := rfl
theorem MU {d : Option Nat} {z : AV} : AI P d (.mksl el b z x y) K ⟨e, n, H⟩ = L6 el b z d K ⟨e, n, H⟩ (ev e x) (ev e y) := rfl
theorem FW {d : Option Nat} : AI P d (.rng x) K ⟨e, n, H⟩ = R5 d K ⟨e, n, H⟩ (ev e x) := rfl
theorem FH {d : Option Nat} : AI P d (.nxt x) K ⟨e, n, H⟩ = RX d K ⟨e, n, H⟩ (ev e x) := rfl
theorem F0 {d : Option Nat} : AI P d (.ent x) K ⟨e, n, H⟩ = KS (HW H (ev e x)) d K e n H := rfl
theorem ND {d : Option Nat} {z : AV} {m k : Opd} : AI P d (.mget kk z ok m k) K ⟨e, n, H⟩ = KS (Dd H kk z ok (ev e m) (ev e k)) d K e n H := rfl
theorem NU {d : Option Nat} : AI P d (.call f xs) K ⟨e, n, H⟩ = CallK P f (xs.map (ev e)) d K ⟨e, n, H⟩ := rfl
theorem NH {d : Option Nat} : AI P d (.callp f xs) K ⟨e, n, H⟩ = CallP P f (xs.map (ev e)) d K ⟨e, n, H⟩ := rfl
theorem MB {d : Option Nat} : AI P d (.callv x xs) K ⟨e, n, H⟩ = AA P d K e n H (xs.map (ev e)) (ev e x) := rfl
theorem Zd {el sz by_ z z' : Nat} {d : Option Nat} {m m' : List AV} {t : Tok} (hz : z' = sz ∨ m = []) (hs : AK m m') (hm : m ≠ []) (hb : m.length * by_ ≤ 140737488355328) (hx : m.length ≤ maxLen) (h : ∀ g, n ≤ g → K ⟨AC e d (.sl sz m' (.own g)), g + 1, upd H g (some (.row el m'.length))⟩) : appKS el sz by_ d K ⟨e, n, H⟩ (.sl z [] .nil) (.sl z' m t) := by
 have hl := DL hs
 exact ⟨hz, m', hs, by simpa [hl] using hb, by simpa [hl] using hx, fun h' => absurd h' (fun e => hm (List.length_eq_zero_iff.1 (by rw [hl, e]; rfl))), fun _ => .inl h⟩
theorem QI {el sz by_ z z' : Nat} {d : Option Nat} {m m' : List AV} {t : Tok} (hz : z' = sz ∨ m = []) (hs : AK m m') (hm : m ≠ []) (hb : m.length * by_ ≤ 140737488355328) (hx : m.length ≤ maxLen) (h : ∀ g, n ≤ g → K ⟨AC e d (.slg sz g m'.length), g + 1, upd H g (some (.grow el (AM m')))⟩) : appKS el sz by_ d K ⟨e, n, H⟩ (.sl z [] .nil) (.sl z' m t) := by
 have hl := DL hs
 exact ⟨hz, m', hs, by simpa [hl] using hb, by simpa [hl] using hx, fun h' => absurd h' (fun e => hm (List.length_eq_zero_iff.1 (by rw [hl, e]; rfl))), fun _ => .inr h⟩
theorem Pv {el sz by_ g0 k z' : Nat} {d : Option Nat} {m m' cs : List AV} {t : Tok} (hz : z' = sz ∨ m = []) (hs : AK m m') (hr : H g0 = some (.grow el cs)) (hc : cs.length = k * sz) (hb : (k + m.length) * by_ ≤ 140737488355328) (hx : k + m.length ≤ maxLen) (h : ∀ g n', (g = g0 ∨ n ≤ g) → n ≤ n' → g < n' → K ⟨AC e d (.slg sz g (k + m'.length)), n', upd (upd H g0 none) g (some (.grow el (cs ++ AM m')))⟩) : appKS el sz by_ d K ⟨e, n, H⟩ (.slg sz g0 k) (.sl z' m t) := by
 have hl := DL hs
 refine ⟨hz, m', hs, rfl, by rw [← hl]; exact hb, by rw [← hl]; exact hx, ?_⟩
 show Qh el sz by_ d K ⟨e, n, H⟩ g0 k m' (H g0)
 rw [hr]
 exact ⟨rfl, hc, h⟩
theorem Z5 {el sz by_ g0 z' : Nat} {d : Option Nat} {l m m' : List AV} {t : Tok} (hz : z' = sz ∨ m = []) (hs : AK m m') (hr : H g0 = some (.row el l.length)) (hb : (l.length + m.length) * by_ ≤ 140737488355328) (hx : l.length + m.length ≤ maxLen) (h : ∀ g n', (g = g0 ∨ n ≤ g) → n ≤ n' → g < n' → K ⟨AC e d (.sl sz (l ++ m') (.own g)), n', upd (upd H g0 none) g (some (.row el (l.length + m'.length)))⟩) : appKS el sz by_ d K ⟨e, n, H⟩ (.sl sz l (.own g0)) (.sl z' m t) := by
 have hl := DL hs
 exact ⟨hz, m', hs, by rw [← hl]; exact hb, by rw [← hl]; exact hx, rfl, hr, h⟩
theorem Mb {s : AS} : D6 X Q .normal s = X s := rfl
theorem MK {s : AS} {i : Nat} : D6 X Q (.exit i) s = Q (.exit i) s := rfl
theorem Lx {s : AS} : D6 X Q .ret s = Q .ret s := rfl
theorem O4 {s : AS} : CD id Q .normal s = Q .normal s := rfl
theorem KL {id i : Nat} {s : AS} : CD id Q (.exit i) s = if i = id then Q .normal s else Q (.exit i) s := rfl
theorem NP {s : AS} : CD id Q .ret s = Q .ret s := rfl
end
/-! ### simp looks at what is known, not into what follows -/
section
variable {P : Program} {K : AS → Prop} {Q : AExit → AS → Prop} {d : Option Nat} {n : Nat}
end
abbrev zM (d s : Nat) : AOper := ⟨some d, .mv (.t s), none⟩
abbrev zL (d s : Nat) : AOper := ⟨some d, .load none (.t s), none⟩
abbrev zF (d s k : Nat) : AOper := ⟨some d, .faddr (.t s) k none, none⟩
abbrev zG (d k s : Nat) : AOper := ⟨some d, .load (some k) (.t s), none⟩
abbrev zX (d s k : Nat) : AOper := ⟨some d, .extr (.t s) k, none⟩
abbrev zI (d : Nat) (k : Int) : AOper := ⟨some d, .mv (.c (.int .i64 k)), none⟩
abbrev zB (d : Nat) (b : Bool) : AOper := ⟨some d, .mv (.c (.bool b)), none⟩
abbrev zS (k a b : Nat) : AOper := ⟨none, .store (some k) (.t a) (.t b), none⟩
abbrev zU (a b : Nat) : AOper := ⟨none, .store none (.t a) (.t b), none⟩
abbrev zP (d a b : Nat) : AOper := ⟨some d, .pick (.t a) (.t b) (.c (.bool false)), none⟩
abbrev zO (d a b : Nat) : AOper := ⟨some d, .pick (.t a) (.c (.bool true)) (.t b), none⟩
abbrev zV (d f a : Nat) : AOper := ⟨some d, .callp f [.t a], none⟩
abbrev zW (d f a b : Nat) : AOper := ⟨some d, .callp f [.t a, .t b], none⟩
abbrev zN (d s : Nat) : AOper := ⟨some d, .not (.t s), none⟩
abbrev zY (d s : Nat) : AOper := ⟨some d, .len (.t s), none⟩
abbrev zZ (d s : Nat) : AOper := ⟨some d, .nilck (.t s), none⟩
abbrev zH (d e k s : Nat) : AOper := ⟨some d, .box e (some k) (.t s), none⟩
abbrev zJ (d k a b : Nat) : AOper := ⟨some d, .iaddr k none (.t a) (.t b), none⟩
abbrev zD (d : Nat) (o : BinOp) (a b : Nat) : AOper := ⟨some d, .bin o (.t a) (.t b), none⟩
abbrev zE (d : Nat) (o : BinOp) (a : Nat) (k : Int) : AOper := ⟨some d, .bin o (.t a) (.c (.int .i64 k)), none⟩
abbrev DB (P : Program) (ef : List Nat) (f : Func) : Option (Nat × Nat × List ARes × ACode) := (Ri P ef f).map fun x => (x.nargs, x.nt, x.res, x.code)
abbrev DC (c : AFun) : Option (Nat × Nat × List ARes × ACode) := some (c.nargs, c.nt, c.res, bare c.code)
end Go.Proofs.YtjdccdelcnmocaaGreatDoor
