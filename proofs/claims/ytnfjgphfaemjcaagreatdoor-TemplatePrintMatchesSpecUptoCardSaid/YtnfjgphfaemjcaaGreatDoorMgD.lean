/- What is asked at a function's end, and how a function's contract comes of its code; no condition. -/
import Derived.Test.YtnfjgphfaemjcaaGreatDoorMgC
set_option linter.all false
set_option linter.unusedSimpArgs false
set_option linter.unusedVariables false
namespace Go.Proofs.YtnfjgphfaemjcaaGreatDoor
def Fc (s : AS) : ARes → Option AV
 | .tmp t => some (get s.e t)
 | .cell t sh => Az s.H sh (get s.e t)
def Cn (s : AS) : List ARes → Option (List AV)
 | [] => some []
 | r :: rs => match Fc s r, Cn s rs with | some x, some xs => some (x :: xs) | _, _ => none
def Bk (s : AS) (rs : List ARes) : Option AV :=
 match Cn s rs with
 | some [x] => some x
 | some xs => some (.tup xs)
 | none => none
def SameB (n : Nat) (H H' : A3) : Prop := ∀ k, k < n → H' k = H k
def ID (v : AV) (n : Nat) (H : A3) (res : List ARes) : AExit → AS → Prop
 | .normal, s | .ret, s => (∃ x, Bk s res = some x ∧ A9 x v) ∧ n ≤ s.n ∧ SameB n H s.H
 | _, _ => False
def fin (R : Fz) (n : Nat) (res : List ARes) : AExit → AS → Prop
 | .normal, s | .ret, s => ∃ r n' H', (∃ x, Bk s res = some x ∧ A9 x r) ∧ n ≤ n' ∧ n' ≤ s.n ∧ (∀ k, n' ≤ k → H' k = none) ∧ SameB n' H' s.H ∧ R r n' H'
 | _, _ => False
theorem SameB.rfl_ (n : Nat) (H : A3) : SameB n H H := fun _ _ => rfl
theorem RP {R : Fz} {n m : Nat} {res : List ARes} {e : AK} {H : A3} {r : AV} (h1 : Bk ⟨e, m, H⟩ res = some r) (h2 : n ≤ m) (h3 : ∀ k, m ≤ k → H k = none) (h4 : R r m H) : fin R n res .ret ⟨e, m, H⟩ :=
 ⟨r, m, H, ⟨r, h1, A1 _⟩, h2, Nat.le_refl _, h3, SameB.rfl_ _ _, h4⟩
theorem SameB.upd {n : Nat} {H H' : A3} (h : SameB n H H') {g : Nat} (hg : n ≤ g) (x : Option AObj) : SameB n H (upd H' g x) := fun k hk => by
 unfold Go.Proofs.YtnfjgphfaemjcaaGreatDoor.upd; rw [if_neg (by omega)]; exact h k hk
theorem Ay (H : A3) (g : Nat) (x : Option AObj) : upd H g x g = x := by simp [upd]
theorem upd_ne {H : A3} {g k : Nat} {x : Option AObj} (h : k ≠ g) : upd H g x k = H k := by simp [upd, h]
theorem Cc (H : A3) (g : Nat) (x y : Option AObj) : upd (upd H g x) g y = upd H g y := by funext k; simp only [upd]; split <;> rfl
def Qs (ng t : Bool) : AV := .bool (if ng then !t else t)
def I7 (ks : List FK) (ng : Bool) : AV → AV → Option AV
 | .agg a, .agg b => (CM ks a b).map (Qs ng)
 | _, _ => none
def IK (ng : Bool) : AV → AV → Option AV
 | .bool a, .bool b => some (.bool (if ng then !(a == b) else a == b))
 | _, _ => none
def I0 : AV → Option AV | .int k n => some (.int k (k.wrap (0 - n))) | _ => none
def IT : AV → Option AV | .bool b => some (.bool (!b)) | _ => none
def IF (k : IntKind) : AV → Option AV | .int _ n => some (.int k (k.wrap n)) | _ => none
def Dc (x : AV) (o : Nat) (s : BD) : Option AV := match x with | .agg cs => part cs o s | _ => none
def FF : AV → AV → Option AV
 | .str s, .int _ j => if 0 ≤ j then (s[j.toNat]?).map fun b => .int .u8 b.toNat else none
 | _, _ => none
def Ep (len sz : Nat) (s : BD) : AV → AV → Option AV
 | .agg cs, .int _ j => if 0 ≤ j ∧ j < len then part cs (j.toNat * sz) s else none
 | _, _ => none
def S4 : AV → Option AV | .sl _ l _ => some (.int .i64 l.length) | .slm _ _ _ n => some (.int .i64 n) | .slg _ _ n => some (.int .i64 n) | _ => none
def Ei : AV → Option AV | .str s => some (.int .i64 s.length) | _ => none
def Ez (i : Nat) : AV → Option AV | .tup vs => vs[i]? | _ => none
def Df : AV → Option AV | .ptr g o => some (.ptr g o) | .ref x => some (.ref x) | .fn f a b => if a.isEmpty then some (.fn f a b) else none | _ => none
def DS (z : List AV) (ps : List (Nat × BD × AV)) : Option AV := if EH z.length ps then some (.agg (EQ z (ps.map fun (o, _, x) => (o, x)))) else none
def Sq (mx : Bool) : AV → AV → Option AV
 | .int k a, .int k' b => if k = k' then some (.int k (if mx then max a b else min a b)) else none
 | _, _ => none
def IV : AV → Option AV | .sl _ l _ => (bytesOf l).map .str | _ => none
def I6 : AV → Option AV | .int _ n => some (.str (Utf8.encode n).data.toList) | _ => none
def FJ (ng : Bool) : AV → AV → Option AV
 | .ptr g o, .ptr g' o' => if g = g' then some (.bool (if ng then !(decide (o = o')) else decide (o = o'))) else none
 | _, _ => none
def IW (d : Option Nat) (K : AS → Prop) (e : AK) (n : Nat) (H : A3) : AV → Prop
 | .str b => b.length ≤ maxLen ∧ ∀ n', n ≤ n' → K ⟨AG e d (.sl 1 (b.map fun u => .int .u8 u.toNat) .ro), n', H⟩
 | _ => False
def I8 (d : Option Nat) (K : AS → Prop) (e : AK) (n : Nat) (H : A3) : AV → Prop
 | .sl sz l (.own g) => l ≠ [] ∧ K ⟨AG e d (.sl sz l .ro), n, upd H g none⟩
 | _ => False
def Xh (kk : Option IntKind) (d : Option Nat) (K : AS → Prop) (e : AK) (n : Nat) (H : A3) : Prop := ∀ g, n ≤ g → K ⟨AG e d (.mp g), g + 1, upd H g (some (.map kk []))⟩
def D4 (P : Program) (d : Option Nat) (K : AS → Prop) (e : AK) (n : Nat) (H : A3) (xs : List AV) : AV → Prop
 | .fn f a b => DQ P f = true ∧ CallK P f (a ++ xs ++ b) d K ⟨e, n, H⟩
 | _ => False
def Bf (sh : BD) (x : AV) : Prop := x.fits sh = true ∧ ones x.cells
def GI (sh : BD) (l : List AV) : Prop := ∀ x ∈ l, Bf sh x
theorem J8 {sh : BD} : GI sh [] = True := by simp [GI]
theorem JV {sh : BD} {x : AV} {l : List AV} : GI sh (x :: l) = (Bf sh x ∧ GI sh l) := by simp [GI]
theorem JY {s : List UInt8} : Bf none (.str s) = True := by simp [Bf, AV.fits, ones, AV.cells, AV.one]
theorem Kj {k : IntKind} {i : Int} : Bf none (.int k i) = True := by simp [Bf, AV.fits, ones, AV.cells, AV.one]
theorem KO {b : Bool} : Bf none (.bool b) = True := by simp [Bf, AV.fits, ones, AV.cells, AV.one]
theorem KZ {z : Nat} {l : List AV} {t : Tok} : Bf none (.sl z l t) = True := by simp [Bf, AV.fits, ones, AV.cells, AV.one]
theorem Jj {g o : Nat} : Bf none (.ptr g o) = True := by simp [Bf, AV.fits, ones, AV.cells, AV.one]
theorem Iz : Bf none .np = True := by simp [Bf, AV.fits, ones, AV.cells, AV.one]
theorem KB {x : AV} : Bf none (.ref x) = True := by simp [Bf, AV.fits, ones, AV.cells, AV.one]
theorem Ki {f : Nat} {a b : List AV} : Bf none (.fn f a b) = True := by simp [Bf, AV.fits, ones, AV.cells, AV.one]
theorem KG : Bf none .nfn = True := by simp [Bf, AV.fits, ones, AV.cells, AV.one]
theorem KL {t : Nat} {v : AV} : Bf none (.ifc t v) = True := by simp [Bf, AV.fits, ones, AV.cells, AV.one]
theorem JT : Bf none .nif = True := by simp [Bf, AV.fits, ones, AV.cells, AV.one]
theorem Jp {s : Nat} {cs : List AV} : Bf (some s) (.agg cs) = (cs.length = s ∧ ones cs) := by simp [Bf, AV.fits, AV.cells]
def WA (sh : BD) (d : Option Nat) (K : AS → Prop) (e : AK) (n : Nat) (H : A3) (v : AV) (g o : Nat) : Option AObj → Prop
 | some (.cells t cs) => Bf sh v ∧ o + v.cells.length ≤ cs.length ∧ K ⟨AG e d .any, n, upd H g (some (.cells t (splice cs o v.cells)))⟩
 | some (.grow t cs) => Bf sh v ∧ o + v.cells.length ≤ cs.length ∧ K ⟨AG e d .any, n, upd H g (some (.grow t (splice cs o v.cells)))⟩
 | _ => False
theorem Jf {sh : BD} {d : Option Nat} {K : AS → Prop} {e : AK} {n : Nat} {H : A3} {v : AV} {g o : Nat} : CS sh d K ⟨e, n, H⟩ v (.ptr g o) = WA sh d K e n H v g o (H g) := by
 show (match H g with | some (.cells e' cs) => _ | some (.grow e' cs) => _ | _ => False) = _
 cases H g with
 | none => rfl
 | some ob => cases ob with
  | cells t cs => exact propext and_assoc.symm
  | grow t cs => exact propext and_assoc.symm
  | _ => rfl
theorem K5 {sh : BD} {d : Option Nat} {K : AS → Prop} {e : AK} {n : Nat} {H : A3} {v : AV} {g o : Nat} {t : TypeId} {cs : List AV} : WA sh d K e n H v g o (some (.cells t cs)) = (Bf sh v ∧ o + v.cells.length ≤ cs.length ∧ K ⟨AG e d .any, n, upd H g (some (.cells t (splice cs o v.cells)))⟩) := rfl
theorem Jc {sh : BD} {d : Option Nat} {K : AS → Prop} {e : AK} {n : Nat} {H : A3} {v : AV} {g o : Nat} {t : TypeId} {cs : List AV} : WA sh d K e n H v g o (some (.grow t cs)) = (Bf sh v ∧ o + v.cells.length ≤ cs.length ∧ K ⟨AG e d .any, n, upd H g (some (.grow t (splice cs o v.cells)))⟩) := rfl
theorem Kb {z g m : Nat} : S4 (.slg z g m) = some (.int .i64 m) := rfl
theorem KE {sz z g m : Nat} {s : BD} {k : IntKind} {j : Int} : CN sz s (.slg z g m) (.int k j) = if z = sz ∧ 0 ≤ j ∧ j < m then some (.ptr g (j.toNat * sz)) else none := rfl
theorem J5 {z g o m : Nat} : S4 (.slm z g o m) = some (.int .i64 m) := rfl
theorem Jl {sz z g o m : Nat} {s : BD} {k : IntKind} {j : Int} : CN sz s (.slm z g o m) (.int k j) = if z = sz ∧ 0 ≤ j ∧ j < m then some (.ptr g (o + j.toNat * sz)) else none := rfl
theorem Ja : AL [] = [] := rfl
theorem KX {x : AV} {l : List AV} : AL (x :: l) = x.cells ++ AL l := rfl
theorem Jb {z : Nat} {l : List AV} {t : Tok} : S4 (.sl z l t) = some (.int .i64 l.length) := rfl
theorem K6 {sz z : Nat} {s : BD} {l : List AV} {t : Tok} {k : IntKind} {j : Int} : CN sz s (.sl z l t) (.int k j) = if z = sz ∧ 0 ≤ j then (match l[j.toNat]? with | some y => if y.fits s then some (.ref y) else none | none => none) else none := rfl
theorem KP {sz z : Nat} {l : List AV} {t : Tok} {lo hi : Option AV} : F5 sz (.sl z l t) lo hi = if z = sz ∨ l = [] then (Dg lo hi l.length).map fun (a, b) => .sl sz ((l.take b).drop a) .ro else none := rfl
theorem Ji {sz z g n : Nat} {lo hi : Option AV} : F5 sz (.slg z g n) lo hi = if z = sz then (Dg lo hi n).bind fun (a, b) => if a = 0 then some (.slg sz g b) else none else none := rfl
def Uq (ob : AObj) (d : Option Nat) (K : AS → Prop) (e : AK) (n : Nat) (H : A3) : Prop := ∀ g, n ≤ g → K ⟨AG e d (.ptr g 0), g + 1, upd H g (some ob)⟩
def UU (sz : Nat) (l : List AV) (ob : AObj) (d : Option Nat) (K : AS → Prop) (e : AK) (n : Nat) (H : A3) : Prop := ∀ g, n ≤ g → K ⟨AG e d (.sl sz l (.own g)), g + 1, upd H g (some ob)⟩
def KS (o : Option AV) (d : Option Nat) (K : AS → Prop) (e : AK) (n : Nat) (H : A3) : Prop :=
 match o with
 | some v => K ⟨AG e d v, n, H⟩
 | none => False
theorem Kh {v : AV} {d : Option Nat} {K : AS → Prop} {e : AK} {n : Nat} {H : A3} : KS (some v) d K e n H = K ⟨AG e d v, n, H⟩ := rfl
theorem K7 {d : Option Nat} {K : AS → Prop} {e : AK} {n : Nat} {H : A3} : KS none d K e n H = False := rfl
section
variable {P : Program} {e : AK} {n : Nat} {H : A3} {Q : AExit → AS → Prop} {K : AS → Prop}
theorem Jw : aw P .skip Q ⟨e, n, H⟩ = Q .normal ⟨e, n, H⟩ := rfl
theorem E1 {ops : List AOper} : aw P (.reg ops) Q ⟨e, n, H⟩ = awOps P ops (Q .normal) ⟨e, n, H⟩ := rfl
theorem Dy {a b : ACode} : aw P (.seq a b) Q ⟨e, n, H⟩ = aw P a (DY (aw P b Q) Q) ⟨e, n, H⟩ := rfl
theorem JJ {c : Opd} {a b : ACode} : aw P (.cond c a b) Q ⟨e, n, H⟩ = Dr (aw P a Q ⟨e, n, H⟩) (aw P b Q ⟨e, n, H⟩) (ev e c) := rfl
theorem KF {id : Nat} {c : ACode} : aw P (.block id c) Q ⟨e, n, H⟩ = aw P c (E5 id Q) ⟨e, n, H⟩ := rfl
theorem KK {c : ACode} : aw P (.loop c) Q ⟨e, n, H⟩ = LoopK (fun Q s => aw P c Q s) Q ⟨e, n, H⟩ := rfl
theorem JB {id : Nat} : aw P (.exit id) Q ⟨e, n, H⟩ = Q (.exit id) ⟨e, n, H⟩ := rfl
theorem Dz : aw P .ret Q ⟨e, n, H⟩ = Q .ret ⟨e, n, H⟩ := rfl
theorem E3 : aw P .bad Q ⟨e, n, H⟩ = False := rfl
theorem G3 {ks : List Nat} {c : ACode} : aw P (.kp ks c) Q ⟨e, n, H⟩ = aw P c Q ⟨DG e ks, n, H⟩ := rfl
theorem Fv {ks : List Nat} {c : ACode} : aw P (.ke ks c) Q ⟨e, n, H⟩ = aw P c (La ks Q) ⟨e, n, H⟩ := rfl
theorem JL {ks : List Nat} : La ks Q .normal ⟨e, n, H⟩ = Q .normal ⟨DG e ks, n, H⟩ := rfl
theorem J3 {ks : List Nat} {i : Nat} {s : AS} : La ks Q (.exit i) s = Q (.exit i) s := rfl
theorem JF {ks : List Nat} {s : AS} : La ks Q .ret s = Q .ret s := rfl
theorem Jr {l : List Seg} : aw P (.segs l) Q ⟨e, n, H⟩ = AR P l (Q .normal) ⟨e, n, H⟩ := rfl
theorem JK : AR P [] K ⟨e, n, H⟩ = K ⟨e, n, H⟩ := rfl
def Wr (o : Option AV) (d : Nat) (ops : List AOper) (K : AS → Prop) (e : AK) (n : Nat) (H : A3) : Prop :=
 match o with
 | some v => K ⟨put (Dv e ops) d v, n, H⟩
 | none => False
theorem JD {v : AV} {d : Nat} {ops : List AOper} {K : AS → Prop} {e : AK} {n : Nat} {H : A3} : Wr (some v) d ops K e n H = K ⟨put (Dv e ops) d v, n, H⟩ := rfl
theorem K0 {d : Nat} {ops : List AOper} {K : AS → Prop} {e : AK} {n : Nat} {H : A3} : Wr none d ops K e n H = False := rfl
theorem I5 {t d x : Nat} {want : Bool} {ops : List AOper} {l : List Seg} : AR P (⟨some (t, want), ops, some (d, x)⟩ :: l) K ⟨e, n, H⟩ = Wr (PM want x (get e t) (CW ops e H)) d ops (AR P l K) e n H := rfl
def YW (o : Option AV) (d : Option Nat) (os : List AOper) (e : AK) (H : A3) : Option AK :=
 match o with
 | some v => CW os (AG e d v) H
 | none => none
theorem KQ {v : AV} {d : Option Nat} {os : List AOper} {H : A3} : YW (some v) d os e H = CW os (AG e d v) H := rfl
theorem JC {d : Option Nat} {os : List AOper} {H : A3} : YW none d os e H = none := rfl
theorem Jt {H : A3} : CW [] e H = some e := rfl
theorem JU {d : Option Nat} {op : AOp} {g : Option (Nat × Bool)} {os : List AOper} {H : A3} : CW (⟨d, op, g⟩ :: os) e H = YW (pe op e H) d os e H := rfl
theorem II {ops : List AOper} {l : List Seg} {p : Option (Nat × Nat)} : AR P (⟨none, ops, p⟩ :: l) K ⟨e, n, H⟩ = awOps P ops (AR P l K) ⟨e, n, H⟩ := rfl
theorem L6 {v : AV} (hv : v ≠ .any) : ∀ {e : AK} {t : Nat}, get e t = v → Di e t v = e
 | [], t, h => absurd h.symm hv
 | (k, u) :: r, t, h => by
  simp only [get] at h
  simp only [Di]
  split
  ·rename_i hk; rw [if_pos hk] at h; rw [h, hk]
  ·rename_i hk; rw [if_neg hk] at h; rw [L6 hv h]
def DT (want : Bool) (A B C : Prop) : AV → Prop
 | .bool b => (b = want → A) ∧ (b ≠ want → B)
 | .und => C
 | _ => False
theorem Hu {t : Nat} {want : Bool} {ops : List AOper} {l : List Seg} : AR P (⟨some (t, want), ops, none⟩ :: l) K ⟨e, n, H⟩ = DT want (awOps P ops (AR P l K) ⟨Di e t (.bool want), n, H⟩) (AR P l K ⟨EA (Di e t (.bool (!want))) ops, n, H⟩) (AR P l K ⟨EA e ops, n, H⟩) (get e t) := by
 show guardK want _ (AR P l K ⟨EA e ops, n, H⟩) _ = _
 generalize hg : get e t = v
 cases v <;> try rfl
 rename_i b
 simp only [guardK, DT, eq_iff_iff]
 by_cases hb : b = want
 ·subst hb
  rw [L6 (by simp) hg]
  simp
 ·have hb' : b = !want := by cases b <;> cases want <;> simp_all
  subst hb'
  rw [L6 (by simp) hg]
  simp
theorem KD : awOps P [] K ⟨e, n, H⟩ = K ⟨e, n, H⟩ := rfl
theorem JH {d : Option Nat} {op : AOp} {os : List AOper} : awOps P (⟨d, op, none⟩ :: os) K ⟨e, n, H⟩ = AI P d op (awOps P os K) ⟨e, n, H⟩ := rfl
theorem Iw {m : Mode} {S : List Nat} {ops : List AOper} : aw P (.regD m S ops) Q ⟨e, n, H⟩ = gsK P m (OT e S) ops (Q .normal) ⟨e, n, H⟩ := rfl
theorem Ka {m : Mode} {gs : List Nat} {ops : List AOper} {s : AS} : gsK P m (some gs) ops K s = XZ P m gs ops K s := rfl
theorem A2 {m : Mode} {gs : List Nat} {ops : List AOper} (h : A4 P m n gs ops K ⟨e, n, H⟩) : XZ P m gs ops K ⟨e, n, H⟩ := ⟨[], GO h fun _ h => .of h⟩
theorem K9 : OT e [] = some [] := rfl
theorem JQ {t : Nat} {ts : List Nat} : OT e (t :: ts) = YO (get e t) (OT e ts) := rfl
theorem JO {g o : Nat} {gs : List Nat} : YO (.ptr g o) (some gs) = some (g :: gs) := rfl
def Pz (ob : AObj) (d : Option Nat) (K : AS → Prop) (e : AK) (n : Nat) (H : A3) : Prop := ∀ g, n ≤ g → H g = none → K ⟨AG e d (.ptr g 0), g + 1, upd H g (some ob)⟩
theorem A5 {ob : AObj} {d : Option Nat} {H : A3} (h : Uq ob d K e n H) : Pz ob d K e n H := fun g hg _ => h g hg
def RN (sz : Nat) (l : List AV) (ob : AObj) (d : Option Nat) (K : AS → Prop) (e : AK) (n : Nat) (H : A3) : Prop := ∀ g, n ≤ g → H g = none → K ⟨AG e d (.sl sz l (.own g)), g + 1, upd H g (some ob)⟩
theorem Aw {sz : Nat} {l : List AV} {ob : AObj} {d : Option Nat} {H : A3} (h : UU sz l ob d K e n H) : RN sz l ob d K e n H := fun g hg _ => h g hg
theorem KR {md : Mode} {lw : Nat} {gs : List Nat} : A4 P md lw gs [] K ⟨e, n, H⟩ = K ⟨e, n, H⟩ := rfl
theorem Kc {md : Mode} {lw : Nat} {gs : List Nat} {d : Option Nat} {sh : BD} {x : Opd} {os : List AOper} : A4 P md lw gs (⟨d, .load sh x, none⟩ :: os) K ⟨e, n, H⟩ = KS (Az (AT gs (hM md H)) sh (ev e x)) d (A4 P md lw gs os K) e n H := rfl
def MO (md : Mode) (lo : Nat) (ob : AObj) (d : Option Nat) (K : AS → Prop) (e : AK) (n : Nat) (H : A3) : Prop := newK md lo ⟨e, n, H⟩ fun g n' => K ⟨AG e d (.ptr g 0), n', upd H g (some ob)⟩
def Rv (md : Mode) (lo : Nat) (sz : Nat) (l : List AV) (ob : AObj) (d : Option Nat) (K : AS → Prop) (e : AK) (n : Nat) (H : A3) : Prop := newK md lo ⟨e, n, H⟩ fun g n' => K ⟨AG e d (.sl sz l (.own g)), n', upd H g (some ob)⟩
theorem KA {lo : Nat} {ob : AObj} {d : Option Nat} {H : A3} : MO .plain lo ob d K e n H = Pz ob d K e n H := rfl
theorem J9 {lo : Nat} {ob : AObj} {d : Option Nat} {H : A3} : MO .late lo ob d K e n H = Pz ob d K e n H := rfl
theorem Kf {q lo : Nat} {ob : AObj} {d : Option Nat} {H : A3} : MO (.last q) lo ob d K e n H = Pz ob d K e n H := rfl
theorem K8 {lo : Nat} {sz : Nat} {l : List AV} {ob : AObj} {d : Option Nat} {H : A3} : Rv .plain lo sz l ob d K e n H = RN sz l ob d K e n H := rfl
theorem Iy {lo : Nat} {sz : Nat} {l : List AV} {ob : AObj} {d : Option Nat} {H : A3} : Rv .late lo sz l ob d K e n H = RN sz l ob d K e n H := rfl
theorem Ke {q lo : Nat} {sz : Nat} {l : List AV} {ob : AObj} {d : Option Nat} {H : A3} : Rv (.last q) lo sz l ob d K e n H = RN sz l ob d K e n H := rfl
theorem K4 {H : A3} : hM .plain H = H := rfl
theorem Iv {H : A3} : hM .late H = H := rfl
theorem JM {q : Nat} {H : A3} : hM (.last q) H = H := rfl
theorem JZ {H : A3} : hM .free H = H := rfl
theorem Jq {H : A3} : hM .early H = H := rfl
theorem K2 {H : A3} : hM .refs H = fun _ => none := rfl
theorem Kd {lo : Nat} {ob : AObj} {d : Option Nat} {H : A3} : MO .early lo ob d K e n H = Pz ob d K e n H := rfl
theorem Jh {md : Mode} {lw : Nat} {gs : List Nat} {d : Option Nat} {t : TypeId} {z : List AV} {os : List AOper} : A4 P md lw gs (⟨d, .alloc t z, none⟩ :: os) K ⟨e, n, H⟩ = (ones z ∧ MO md lw (.cells t z) d (A4 P md lw gs os K) e n H) := rfl
theorem KT {md : Mode} {lw : Nat} {gs : List Nat} {d : Option Nat} {sh : BD} {x v : Opd} {os : List AOper} : A4 P md lw gs (⟨d, .store sh x v, none⟩ :: os) K ⟨e, n, H⟩ = (Gq md lw gs x (ev e x) ∧ CS sh d (A4 P md lw gs os K) ⟨e, n, H⟩ (ev e v) (ev e x)) := rfl
theorem Ft {md : Mode} {lw : Nat} {gs : List Nat} {t : Nat} {want : Bool} {d : Option Nat} {x : Opd} {os : List AOper} : A4 P md lw gs (⟨d, .mv x, some (t, want)⟩ :: os) K ⟨e, n, H⟩ = guardK want (AI P d (.mv x) (A4 P md lw gs os K) ⟨e, n, H⟩) (A4 P md lw gs os K ⟨AG e d .und, n, H⟩) (get e t) := by
 show (match get e t with | .bool b => _ | .und => _ | _ => False) = _
 cases get e t <;> rfl
theorem OG {md : Mode} {lw : Nat} {gs : List Nat} {t : Nat} {want : Bool} {d : Option Nat} {op : BinOp} {x y : Opd} {os : List AOper} : A4 P md lw gs (⟨d, .bin op x y, some (t, want)⟩ :: os) K ⟨e, n, H⟩ = guardK want (AI P d (.bin op x y) (A4 P md lw gs os K) ⟨e, n, H⟩) (A4 P md lw gs os K ⟨AG e d .und, n, H⟩) (get e t) := by
 show (match get e t with | .bool b => _ | .und => _ | _ => False) = _
 cases get e t <;> rfl
theorem N9 {md : Mode} {lw : Nat} {gs : List Nat} {t : Nat} {want : Bool} {d : Option Nat} {ks : List FK} {neg : Bool} {x y : Opd} {os : List AOper} : A4 P md lw gs (⟨d, .eqs ks neg x y, some (t, want)⟩ :: os) K ⟨e, n, H⟩ = guardK want (AI P d (.eqs ks neg x y) (A4 P md lw gs os K) ⟨e, n, H⟩) (A4 P md lw gs os K ⟨AG e d .und, n, H⟩) (get e t) := by
 show (match get e t with | .bool b => _ | .und => _ | _ => False) = _
 cases get e t <;> rfl
theorem OS {md : Mode} {lw : Nat} {gs : List Nat} {t : Nat} {want : Bool} {d : Option Nat} {neg : Bool} {x y : Opd} {os : List AOper} : A4 P md lw gs (⟨d, .eqb neg x y, some (t, want)⟩ :: os) K ⟨e, n, H⟩ = guardK want (AI P d (.eqb neg x y) (A4 P md lw gs os K) ⟨e, n, H⟩) (A4 P md lw gs os K ⟨AG e d .und, n, H⟩) (get e t) := by
 show (match get e t with | .bool b => _ | .und => _ | _ => False) = _
 cases get e t <;> rfl
theorem NT {md : Mode} {lw : Nat} {gs : List Nat} {t : Nat} {want : Bool} {d : Option Nat} {neg : Bool} {x : Opd} {os : List AOper} : A4 P md lw gs (⟨d, .eqn neg x, some (t, want)⟩ :: os) K ⟨e, n, H⟩ = guardK want (AI P d (.eqn neg x) (A4 P md lw gs os K) ⟨e, n, H⟩) (A4 P md lw gs os K ⟨AG e d .und, n, H⟩) (get e t) := by
 show (match get e t with | .bool b => _ | .und => _ | _ => False) = _
 cases get e t <;> rfl
theorem Nu {md : Mode} {lw : Nat} {gs : List Nat} {t : Nat} {want : Bool} {d : Option Nat} {neg : Bool} {x : Opd} {os : List AOper} : A4 P md lw gs (⟨d, .eqp neg x, some (t, want)⟩ :: os) K ⟨e, n, H⟩ = guardK want (AI P d (.eqp neg x) (A4 P md lw gs os K) ⟨e, n, H⟩) (A4 P md lw gs os K ⟨AG e d .und, n, H⟩) (get e t) := by
 show (match get e t with | .bool b => _ | .und => _ | _ => False) = _
 cases get e t <;> rfl
theorem OV {md : Mode} {lw : Nat} {gs : List Nat} {t : Nat} {want : Bool} {d : Option Nat} {neg : Bool} {x : Opd} {os : List AOper} : A4 P md lw gs (⟨d, .eqi neg x, some (t, want)⟩ :: os) K ⟨e, n, H⟩ = guardK want (AI P d (.eqi neg x) (A4 P md lw gs os K) ⟨e, n, H⟩) (A4 P md lw gs os K ⟨AG e d .und, n, H⟩) (get e t) := by
 show (match get e t with | .bool b => _ | .und => _ | _ => False) = _
 cases get e t <;> rfl
theorem Na {md : Mode} {lw : Nat} {gs : List Nat} {t : Nat} {want : Bool} {d : Option Nat} {x : Opd} {os : List AOper} : A4 P md lw gs (⟨d, .neg x, some (t, want)⟩ :: os) K ⟨e, n, H⟩ = guardK want (AI P d (.neg x) (A4 P md lw gs os K) ⟨e, n, H⟩) (A4 P md lw gs os K ⟨AG e d .und, n, H⟩) (get e t) := by
 show (match get e t with | .bool b => _ | .und => _ | _ => False) = _
 cases get e t <;> rfl
theorem Mt {md : Mode} {lw : Nat} {gs : List Nat} {t : Nat} {want : Bool} {d : Option Nat} {x : Opd} {os : List AOper} : A4 P md lw gs (⟨d, .not x, some (t, want)⟩ :: os) K ⟨e, n, H⟩ = guardK want (AI P d (.not x) (A4 P md lw gs os K) ⟨e, n, H⟩) (A4 P md lw gs os K ⟨AG e d .und, n, H⟩) (get e t) := by
 show (match get e t with | .bool b => _ | .und => _ | _ => False) = _
 cases get e t <;> rfl
theorem OJ {md : Mode} {lw : Nat} {gs : List Nat} {t : Nat} {want : Bool} {d : Option Nat} {k : IntKind} {x : Opd} {os : List AOper} : A4 P md lw gs (⟨d, .cvi k x, some (t, want)⟩ :: os) K ⟨e, n, H⟩ = guardK want (AI P d (.cvi k x) (A4 P md lw gs os K) ⟨e, n, H⟩) (A4 P md lw gs os K ⟨AG e d .und, n, H⟩) (get e t) := by
 show (match get e t with | .bool b => _ | .und => _ | _ => False) = _
 cases get e t <;> rfl
theorem N3 {md : Mode} {lw : Nat} {gs : List Nat} {t : Nat} {want : Bool} {d : Option Nat} {sz : Nat} {x : Opd} {lo hi : Option Opd} {os : List AOper} : A4 P md lw gs (⟨d, .cut sz x lo hi, some (t, want)⟩ :: os) K ⟨e, n, H⟩ = guardK want (AI P d (.cut sz x lo hi) (A4 P md lw gs os K) ⟨e, n, H⟩) (A4 P md lw gs os K ⟨AG e d .und, n, H⟩) (get e t) := by
 show (match get e t with | .bool b => _ | .und => _ | _ => False) = _
 cases get e t <;> rfl
theorem O9 {md : Mode} {lw : Nat} {gs : List Nat} {t : Nat} {want : Bool} {d : Option Nat} {x : Opd} {lo hi : Option Opd} {os : List AOper} : A4 P md lw gs (⟨d, .cutS x lo hi, some (t, want)⟩ :: os) K ⟨e, n, H⟩ = guardK want (AI P d (.cutS x lo hi) (A4 P md lw gs os K) ⟨e, n, H⟩) (A4 P md lw gs os K ⟨AG e d .und, n, H⟩) (get e t) := by
 show (match get e t with | .bool b => _ | .und => _ | _ => False) = _
 cases get e t <;> rfl
theorem NV {md : Mode} {lw : Nat} {gs : List Nat} {t : Nat} {want : Bool} {d : Option Nat} {x : Opd} {off : Nat} {s : BD} {os : List AOper} : A4 P md lw gs (⟨d, .faddr x off s, some (t, want)⟩ :: os) K ⟨e, n, H⟩ = guardK want (AI P d (.faddr x off s) (A4 P md lw gs os K) ⟨e, n, H⟩) (A4 P md lw gs os K ⟨AG e d .und, n, H⟩) (get e t) := by
 show (match get e t with | .bool b => _ | .und => _ | _ => False) = _
 cases get e t <;> rfl
theorem OF {md : Mode} {lw : Nat} {gs : List Nat} {t : Nat} {want : Bool} {d : Option Nat} {x : Opd} {off : Nat} {s : BD} {os : List AOper} : A4 P md lw gs (⟨d, .field x off s, some (t, want)⟩ :: os) K ⟨e, n, H⟩ = guardK want (AI P d (.field x off s) (A4 P md lw gs os K) ⟨e, n, H⟩) (A4 P md lw gs os K ⟨AG e d .und, n, H⟩) (get e t) := by
 show (match get e t with | .bool b => _ | .und => _ | _ => False) = _
 cases get e t <;> rfl
theorem ND {md : Mode} {lw : Nat} {gs : List Nat} {t : Nat} {want : Bool} {d : Option Nat} {sz : Nat} {s : BD} {x i : Opd} {os : List AOper} : A4 P md lw gs (⟨d, .iaddr sz s x i, some (t, want)⟩ :: os) K ⟨e, n, H⟩ = guardK want (AI P d (.iaddr sz s x i) (A4 P md lw gs os K) ⟨e, n, H⟩) (A4 P md lw gs os K ⟨AG e d .und, n, H⟩) (get e t) := by
 show (match get e t with | .bool b => _ | .und => _ | _ => False) = _
 cases get e t <;> rfl
theorem NN {md : Mode} {lw : Nat} {gs : List Nat} {t : Nat} {want : Bool} {d : Option Nat} {len sz : Nat} {s : BD} {x i : Opd} {os : List AOper} : A4 P md lw gs (⟨d, .aaddr len sz s x i, some (t, want)⟩ :: os) K ⟨e, n, H⟩ = guardK want (AI P d (.aaddr len sz s x i) (A4 P md lw gs os K) ⟨e, n, H⟩) (A4 P md lw gs os K ⟨AG e d .und, n, H⟩) (get e t) := by
 show (match get e t with | .bool b => _ | .und => _ | _ => False) = _
 cases get e t <;> rfl
theorem Mz {md : Mode} {lw : Nat} {gs : List Nat} {t : Nat} {want : Bool} {d : Option Nat} {x i : Opd} {os : List AOper} : A4 P md lw gs (⟨d, .sidx x i, some (t, want)⟩ :: os) K ⟨e, n, H⟩ = guardK want (AI P d (.sidx x i) (A4 P md lw gs os K) ⟨e, n, H⟩) (A4 P md lw gs os K ⟨AG e d .und, n, H⟩) (get e t) := by
 show (match get e t with | .bool b => _ | .und => _ | _ => False) = _
 cases get e t <;> rfl
theorem MW {md : Mode} {lw : Nat} {gs : List Nat} {t : Nat} {want : Bool} {d : Option Nat} {len sz : Nat} {s : BD} {x i : Opd} {os : List AOper} : A4 P md lw gs (⟨d, .aidx len sz s x i, some (t, want)⟩ :: os) K ⟨e, n, H⟩ = guardK want (AI P d (.aidx len sz s x i) (A4 P md lw gs os K) ⟨e, n, H⟩) (A4 P md lw gs os K ⟨AG e d .und, n, H⟩) (get e t) := by
 show (match get e t with | .bool b => _ | .und => _ | _ => False) = _
 cases get e t <;> rfl
theorem OU {md : Mode} {lw : Nat} {gs : List Nat} {t : Nat} {want : Bool} {d : Option Nat} {x : Opd} {os : List AOper} : A4 P md lw gs (⟨d, .len x, some (t, want)⟩ :: os) K ⟨e, n, H⟩ = guardK want (AI P d (.len x) (A4 P md lw gs os K) ⟨e, n, H⟩) (A4 P md lw gs os K ⟨AG e d .und, n, H⟩) (get e t) := by
 show (match get e t with | .bool b => _ | .und => _ | _ => False) = _
 cases get e t <;> rfl
theorem NP {md : Mode} {lw : Nat} {gs : List Nat} {t : Nat} {want : Bool} {d : Option Nat} {x : Opd} {os : List AOper} : A4 P md lw gs (⟨d, .lenS x, some (t, want)⟩ :: os) K ⟨e, n, H⟩ = guardK want (AI P d (.lenS x) (A4 P md lw gs os K) ⟨e, n, H⟩) (A4 P md lw gs os K ⟨AG e d .und, n, H⟩) (get e t) := by
 show (match get e t with | .bool b => _ | .und => _ | _ => False) = _
 cases get e t <;> rfl
theorem OB {md : Mode} {lw : Nat} {gs : List Nat} {t : Nat} {want : Bool} {d : Option Nat} {x : Opd} {i : Nat} {os : List AOper} : A4 P md lw gs (⟨d, .extr x i, some (t, want)⟩ :: os) K ⟨e, n, H⟩ = guardK want (AI P d (.extr x i) (A4 P md lw gs os K) ⟨e, n, H⟩) (A4 P md lw gs os K ⟨AG e d .und, n, H⟩) (get e t) := by
 show (match get e t with | .bool b => _ | .und => _ | _ => False) = _
 cases get e t <;> rfl
theorem N8 {md : Mode} {lw : Nat} {gs : List Nat} {t : Nat} {want : Bool} {d : Option Nat} {z : List AV} {ps : List (Nat × BD × Opd)} {os : List AOper} : A4 P md lw gs (⟨d, .build z ps, some (t, want)⟩ :: os) K ⟨e, n, H⟩ = guardK want (AI P d (.build z ps) (A4 P md lw gs os K) ⟨e, n, H⟩) (A4 P md lw gs os K ⟨AG e d .und, n, H⟩) (get e t) := by
 show (match get e t with | .bool b => _ | .und => _ | _ => False) = _
 cases get e t <;> rfl
theorem FZ {md : Mode} {lw : Nat} {gs : List Nat} {t : Nat} {want : Bool} {d : Option Nat} {mx : Bool} {x y : Opd} {os : List AOper} : A4 P md lw gs (⟨d, .mm mx x y, some (t, want)⟩ :: os) K ⟨e, n, H⟩ = guardK want (AI P d (.mm mx x y) (A4 P md lw gs os K) ⟨e, n, H⟩) (A4 P md lw gs os K ⟨AG e d .und, n, H⟩) (get e t) := by
 show (match get e t with | .bool b => _ | .und => _ | _ => False) = _
 cases get e t <;> rfl
theorem Nn {md : Mode} {lw : Nat} {gs : List Nat} {t : Nat} {want : Bool} {d : Option Nat} {sh : BD} {x : Opd} {os : List AOper} : A4 P md lw gs (⟨d, .load sh x, some (t, want)⟩ :: os) K ⟨e, n, H⟩ = guardK want (KS (Az (AT gs (hM md H)) sh (ev e x)) d (A4 P md lw gs os K) e n H) (A4 P md lw gs os K ⟨AG e d .und, n, H⟩) (get e t) := by
 show K1 (Km gs sh x (some (t, want)) e (hM md H)) _ = _
 unfold Km
 simp only
 cases get e t <;> try rfl
 rename_i b
 simp only [guardK, eq_iff_iff]
 by_cases hb : b = want
 ·rw [if_pos hb]
  exact ⟨fun h => ⟨fun _ => h, fun hne => absurd hb hne⟩, fun h => h.1 hb⟩
 ·rw [if_neg hb]
  exact ⟨fun h => ⟨fun he => absurd he hb, fun _ => h⟩, fun h => h.2 hb⟩
theorem Fa {md : Mode} {lw : Nat} {gs : List Nat} {d : Option Nat} {x : Opd} {os : List AOper} : A4 P md lw gs (⟨d, .mv x, none⟩ :: os) K ⟨e, n, H⟩ = AI P d (.mv x) (A4 P md lw gs os K) ⟨e, n, H⟩ := rfl
theorem Oh {md : Mode} {lw : Nat} {gs : List Nat} {d : Option Nat} {c a b : Opd} {os : List AOper} : A4 P md lw gs (⟨d, .pick c a b, none⟩ :: os) K ⟨e, n, H⟩ = AI P d (.pick c a b) (A4 P md lw gs os K) ⟨e, n, H⟩ := rfl
theorem MY {md : Mode} {lw : Nat} {gs : List Nat} {d : Option Nat} {op : BinOp} {x y : Opd} {os : List AOper} : A4 P md lw gs (⟨d, .bin op x y, none⟩ :: os) K ⟨e, n, H⟩ = AI P d (.bin op x y) (A4 P md lw gs os K) ⟨e, n, H⟩ := rfl
theorem Mw {md : Mode} {lw : Nat} {gs : List Nat} {d : Option Nat} {ks : List FK} {neg : Bool} {x y : Opd} {os : List AOper} : A4 P md lw gs (⟨d, .eqs ks neg x y, none⟩ :: os) K ⟨e, n, H⟩ = AI P d (.eqs ks neg x y) (A4 P md lw gs os K) ⟨e, n, H⟩ := rfl
theorem N7 {md : Mode} {lw : Nat} {gs : List Nat} {d : Option Nat} {neg : Bool} {x y : Opd} {os : List AOper} : A4 P md lw gs (⟨d, .eqb neg x y, none⟩ :: os) K ⟨e, n, H⟩ = AI P d (.eqb neg x y) (A4 P md lw gs os K) ⟨e, n, H⟩ := rfl
theorem N4 {md : Mode} {lw : Nat} {gs : List Nat} {d : Option Nat} {neg : Bool} {x : Opd} {os : List AOper} : A4 P md lw gs (⟨d, .eqn neg x, none⟩ :: os) K ⟨e, n, H⟩ = AI P d (.eqn neg x) (A4 P md lw gs os K) ⟨e, n, H⟩ := rfl
theorem Mv {md : Mode} {lw : Nat} {gs : List Nat} {d : Option Nat} {neg : Bool} {x : Opd} {os : List AOper} : A4 P md lw gs (⟨d, .eqp neg x, none⟩ :: os) K ⟨e, n, H⟩ = AI P d (.eqp neg x) (A4 P md lw gs os K) ⟨e, n, H⟩ := rfl
theorem Oa {md : Mode} {lw : Nat} {gs : List Nat} {d : Option Nat} {neg : Bool} {x : Opd} {os : List AOper} : A4 P md lw gs (⟨d, .eqi neg x, none⟩ :: os) K ⟨e, n, H⟩ = AI P d (.eqi neg x) (A4 P md lw gs os K) ⟨e, n, H⟩ := rfl
theorem OC {md : Mode} {lw : Nat} {gs : List Nat} {d : Option Nat} {x : Opd} {os : List AOper} : A4 P md lw gs (⟨d, .neg x, none⟩ :: os) K ⟨e, n, H⟩ = AI P d (.neg x) (A4 P md lw gs os K) ⟨e, n, H⟩ := rfl
theorem OA {md : Mode} {lw : Nat} {gs : List Nat} {d : Option Nat} {x : Opd} {os : List AOper} : A4 P md lw gs (⟨d, .not x, none⟩ :: os) K ⟨e, n, H⟩ = AI P d (.not x) (A4 P md lw gs os K) ⟨e, n, H⟩ := rfl
theorem O5 {md : Mode} {lw : Nat} {gs : List Nat} {d : Option Nat} {k : IntKind} {x : Opd} {os : List AOper} : A4 P md lw gs (⟨d, .cvi k x, none⟩ :: os) K ⟨e, n, H⟩ = AI P d (.cvi k x) (A4 P md lw gs os K) ⟨e, n, H⟩ := rfl
theorem NH {md : Mode} {lw : Nat} {gs : List Nat} {d : Option Nat} {f : Nat} {fst cap : List Opd} {os : List AOper} : A4 P md lw gs (⟨d, .mkfn f fst cap, none⟩ :: os) K ⟨e, n, H⟩ = AI P d (.mkfn f fst cap) (A4 P md lw gs os K) ⟨e, n, H⟩ := rfl
theorem Nq {md : Mode} {lw : Nat} {gs : List Nat} {d : Option Nat} {sz : Nat} {x : Opd} {lo hi : Option Opd} {os : List AOper} : A4 P md lw gs (⟨d, .cut sz x lo hi, none⟩ :: os) K ⟨e, n, H⟩ = AI P d (.cut sz x lo hi) (A4 P md lw gs os K) ⟨e, n, H⟩ := rfl
theorem OQ {md : Mode} {lw : Nat} {gs : List Nat} {d : Option Nat} {x : Opd} {lo hi : Option Opd} {os : List AOper} : A4 P md lw gs (⟨d, .cutS x lo hi, none⟩ :: os) K ⟨e, n, H⟩ = AI P d (.cutS x lo hi) (A4 P md lw gs os K) ⟨e, n, H⟩ := rfl
theorem NG {md : Mode} {lw : Nat} {gs : List Nat} {d : Option Nat} {x : Opd} {off : Nat} {s : BD} {os : List AOper} : A4 P md lw gs (⟨d, .faddr x off s, none⟩ :: os) K ⟨e, n, H⟩ = AI P d (.faddr x off s) (A4 P md lw gs os K) ⟨e, n, H⟩ := rfl
theorem MU {md : Mode} {lw : Nat} {gs : List Nat} {d : Option Nat} {x : Opd} {off : Nat} {s : BD} {os : List AOper} : A4 P md lw gs (⟨d, .field x off s, none⟩ :: os) K ⟨e, n, H⟩ = AI P d (.field x off s) (A4 P md lw gs os K) ⟨e, n, H⟩ := rfl
theorem MX {md : Mode} {lw : Nat} {gs : List Nat} {d : Option Nat} {sz : Nat} {s : BD} {x i : Opd} {os : List AOper} : A4 P md lw gs (⟨d, .iaddr sz s x i, none⟩ :: os) K ⟨e, n, H⟩ = AI P d (.iaddr sz s x i) (A4 P md lw gs os K) ⟨e, n, H⟩ := rfl
theorem Md {md : Mode} {lw : Nat} {gs : List Nat} {d : Option Nat} {len sz : Nat} {s : BD} {x i : Opd} {os : List AOper} : A4 P md lw gs (⟨d, .aaddr len sz s x i, none⟩ :: os) K ⟨e, n, H⟩ = AI P d (.aaddr len sz s x i) (A4 P md lw gs os K) ⟨e, n, H⟩ := rfl
theorem Oc {md : Mode} {lw : Nat} {gs : List Nat} {d : Option Nat} {x i : Opd} {os : List AOper} : A4 P md lw gs (⟨d, .sidx x i, none⟩ :: os) K ⟨e, n, H⟩ = AI P d (.sidx x i) (A4 P md lw gs os K) ⟨e, n, H⟩ := rfl
theorem Nz {md : Mode} {lw : Nat} {gs : List Nat} {d : Option Nat} {len sz : Nat} {s : BD} {x i : Opd} {os : List AOper} : A4 P md lw gs (⟨d, .aidx len sz s x i, none⟩ :: os) K ⟨e, n, H⟩ = AI P d (.aidx len sz s x i) (A4 P md lw gs os K) ⟨e, n, H⟩ := rfl
theorem Ml {md : Mode} {lw : Nat} {gs : List Nat} {d : Option Nat} {x : Opd} {os : List AOper} : A4 P md lw gs (⟨d, .len x, none⟩ :: os) K ⟨e, n, H⟩ = AI P d (.len x) (A4 P md lw gs os K) ⟨e, n, H⟩ := rfl
theorem Ns {md : Mode} {lw : Nat} {gs : List Nat} {d : Option Nat} {x : Opd} {os : List AOper} : A4 P md lw gs (⟨d, .lenS x, none⟩ :: os) K ⟨e, n, H⟩ = AI P d (.lenS x) (A4 P md lw gs os K) ⟨e, n, H⟩ := rfl
theorem Mo {md : Mode} {lw : Nat} {gs : List Nat} {d : Option Nat} {j : Nat} {os : List AOper} : A4 P md lw gs (⟨d, .clen j, none⟩ :: os) K ⟨e, n, H⟩ = AI P d (.clen j) (A4 P md lw gs os K) ⟨e, n, H⟩ := rfl
theorem Nf {md : Mode} {lw : Nat} {gs : List Nat} {d : Option Nat} {x : Opd} {i : Nat} {os : List AOper} : A4 P md lw gs (⟨d, .extr x i, none⟩ :: os) K ⟨e, n, H⟩ = AI P d (.extr x i) (A4 P md lw gs os K) ⟨e, n, H⟩ := rfl
theorem Mg {md : Mode} {lw : Nat} {gs : List Nat} {d : Option Nat} {x : Opd} {os : List AOper} : A4 P md lw gs (⟨d, .nilck x, none⟩ :: os) K ⟨e, n, H⟩ = AI P d (.nilck x) (A4 P md lw gs os K) ⟨e, n, H⟩ := rfl
theorem Od {md : Mode} {lw : Nat} {gs : List Nat} {d : Option Nat} {z : List AV} {ps : List (Nat × BD × Opd)} {os : List AOper} : A4 P md lw gs (⟨d, .build z ps, none⟩ :: os) K ⟨e, n, H⟩ = AI P d (.build z ps) (A4 P md lw gs os K) ⟨e, n, H⟩ := rfl
theorem Fj {md : Mode} {lw : Nat} {gs : List Nat} {d : Option Nat} {mx : Bool} {x y : Opd} {os : List AOper} : A4 P md lw gs (⟨d, .mm mx x y, none⟩ :: os) K ⟨e, n, H⟩ = AI P d (.mm mx x y) (A4 P md lw gs os K) ⟨e, n, H⟩ := rfl
theorem OX {md : Mode} {lw : Nat} {gs : List Nat} {d : Option Nat} {x : Opd} {os : List AOper} : A4 P md lw gs (⟨d, .b2s x, none⟩ :: os) K ⟨e, n, H⟩ = AI P d (.b2s x) (A4 P md lw gs os K) ⟨e, n, H⟩ := rfl
theorem NI {md : Mode} {lw : Nat} {gs : List Nat} {d : Option Nat} {x : Opd} {os : List AOper} : A4 P md lw gs (⟨d, .r2s x, none⟩ :: os) K ⟨e, n, H⟩ = AI P d (.r2s x) (A4 P md lw gs os K) ⟨e, n, H⟩ := rfl
theorem Nk {md : Mode} {lw : Nat} {gs : List Nat} {d : Option Nat} {x : Opd} {os : List AOper} : A4 P md lw gs (⟨d, .upc x, none⟩ :: os) K ⟨e, n, H⟩ = AI P d (.upc x) (A4 P md lw gs os K) ⟨e, n, H⟩ := rfl
theorem Nh {md : Mode} {lw : Nat} {gs : List Nat} {d : Option Nat} {neg : Bool} {x y : Opd} {os : List AOper} : A4 P md lw gs (⟨d, .eqpp neg x y, none⟩ :: os) K ⟨e, n, H⟩ = AI P d (.eqpp neg x y) (A4 P md lw gs os K) ⟨e, n, H⟩ := rfl
theorem O3 {md : Mode} {lw : Nat} {gs : List Nat} {d : Option Nat} {u : TypeId} {x : Opd} {os : List AOper} : A4 P md lw gs (⟨d, .updn u x, none⟩ :: os) K ⟨e, n, H⟩ = AI P d (.updn u x) (A4 P md lw gs os K) ⟨e, n, H⟩ := rfl
theorem NF {md : Mode} {lw : Nat} {gs : List Nat} {d : Option Nat} {el : TypeId} {x : Opd} {os : List AOper} : A4 P md lw gs (⟨d, .usd el x, none⟩ :: os) K ⟨e, n, H⟩ = AI P d (.usd el x) (A4 P md lw gs os K) ⟨e, n, H⟩ := rfl
theorem OM {md : Mode} {lw : Nat} {gs : List Nat} {d : Option Nat} {el : TypeId} {x j : Opd} {os : List AOper} : A4 P md lw gs (⟨d, .ust el x j, none⟩ :: os) K ⟨e, n, H⟩ = AI P d (.ust el x j) (A4 P md lw gs os K) ⟨e, n, H⟩ := rfl
theorem Nm {md : Mode} {lw : Nat} {gs : List Nat} {d : Option Nat} {el : TypeId} {sh : BD} {x : Opd} {os : List AOper} : A4 P md lw gs (⟨d, .box el sh x, none⟩ :: os) K ⟨e, n, H⟩ = ((ev e x).fits sh = true ∧ ones (ev e x).cells ∧ MO md lw (.cells el (ev e x).cells) d (A4 P md lw gs os K) e n H) := rfl
theorem NU {md : Mode} {lw : Nat} {gs : List Nat} {d : Option Nat} {el : TypeId} {s : BD} {xs : List Opd} {os : List AOper} : A4 P md lw gs (⟨d, .bsl el s xs, none⟩ :: os) K ⟨e, n, H⟩ = (GI s (xs.map (ev e)) ∧ Rv md lw (BG s) (xs.map (ev e)) (.row el xs.length) d (A4 P md lw gs os K) e n H) := by
 have h : GI s (xs.map (ev e)) = (∀ x ∈ xs, (ev e x).fits s = true ∧ ones (ev e x).cells) := by simp [GI, Bf]
 rw [h]; rfl
theorem Nt {md : Mode} {lw : Nat} {gs : List Nat} {d : Option Nat} {el sz by_ : Nat} {x y : Opd} {os : List AOper} : A4 P md lw gs (⟨d, .app el sz by_ x y, none⟩ :: os) K ⟨e, n, H⟩ = freeM md lw ⟨e, n, H⟩ (Io gs (ev e x) ∧ appKS el sz by_ d (KM gs H (A4 P md lw gs os K)) ⟨e, n, H⟩ (ev e x) (ev e y)) := rfl
theorem JA {lo : Nat} {s : AS} {A : Prop} : freeM .plain lo s A = A := rfl
theorem JP {lo : Nat} {s : AS} {A : Prop} : freeM .late lo s A = A := rfl
theorem J7 {q lo : Nat} {s : AS} {A : Prop} : freeM (.last q) lo s A = A := rfl
theorem KM.of {gs : List Nat} {H : A3} {s : AS} (h : K s) : KM gs H K s := fun _ => h
theorem KC.of {gs : List Nat} {H : A3} {s : AS} (h : KeepM gs H s.H) (h' : K s) : KC gs H K s := ⟨h, h'⟩
theorem KN {gs : List Nat} {z : Nat} {l : List AV} {t : Tok} : Io gs (.sl z l t) = True := rfl
theorem Jv {gs : List Nat} {z g k : Nat} : Io gs (.slg z g k) = (g ∈ gs) := rfl
theorem MZ {md : Mode} {lw : Nat} {gs : List Nat} {d : Option Nat} {el by_ : Nat} {x y : Opd} {os : List AOper} : A4 P md lw gs (⟨d, .appB el by_ x y, none⟩ :: os) K ⟨e, n, H⟩ = AI P d (.appB el by_ x y) (A4 P md lw gs os K) ⟨e, n, H⟩ := rfl
theorem Mx {md : Mode} {lw : Nat} {gs : List Nat} {d : Option Nat} {el : TypeId} {x : Opd} {os : List AOper} : A4 P md lw gs (⟨d, .s2b el x, none⟩ :: os) K ⟨e, n, H⟩ = AI P d (.s2b el x) (A4 P md lw gs os K) ⟨e, n, H⟩ := rfl
theorem Mq {md : Mode} {lw : Nat} {gs : List Nat} {d : Option Nat} {x : Opd} {os : List AOper} : A4 P md lw gs (⟨d, .s2s x, none⟩ :: os) K ⟨e, n, H⟩ = AI P d (.s2s x) (A4 P md lw gs os K) ⟨e, n, H⟩ := rfl
theorem Ob {md : Mode} {lw : Nat} {gs : List Nat} {d : Option Nat} {kk : Option IntKind} {os : List AOper} : A4 P md lw gs (⟨d, .mkmap kk, none⟩ :: os) K ⟨e, n, H⟩ = AI P d (.mkmap kk) (A4 P md lw gs os K) ⟨e, n, H⟩ := rfl
theorem Nj {md : Mode} {lw : Nat} {gs : List Nat} {d : Option Nat} {kk : Option IntKind} {m k v : Opd} {os : List AOper} : A4 P md lw gs (⟨d, .mset kk m k v, none⟩ :: os) K ⟨e, n, H⟩ = AI P d (.mset kk m k v) (A4 P md lw gs os K) ⟨e, n, H⟩ := rfl
theorem Mc {md : Mode} {lw : Nat} {gs : List Nat} {d : Option Nat} {kk : Option IntKind} {z : AV} {ok : Bool} {m k : Opd} {os : List AOper} : A4 P md lw gs (⟨d, .mget kk z ok m k, none⟩ :: os) K ⟨e, n, H⟩ = KS (D6 (AT gs H) kk z ok (ev e m) (ev e k)) d (A4 P md lw gs os K) e n H := rfl
theorem Nw {md : Mode} {lw : Nat} {gs : List Nat} {d : Option Nat} {f : Nat} {xs : List Opd} {os : List AOper} : A4 P md lw gs (⟨d, .call f xs, none⟩ :: os) K ⟨e, n, H⟩ = exM md gs d (A4 P md lw gs os K) ⟨e, n, H⟩ (CallK P f (xs.map (ev e)) d (KC gs H (A4 P md lw gs os K)) ⟨e, n, H⟩) := rfl
theorem Jk {gs : List Nat} {d : Option Nat} {s : AS} {A : Prop} : exM .plain gs d K s A = A := rfl
theorem Kg {gs : List Nat} {d : Option Nat} {s : AS} {A : Prop} : exM .late gs d K s A = A := rfl
theorem J1 {q : Nat} {gs : List Nat} {d : Option Nat} {s : AS} {A : Prop} : exM (.last q) gs d K s A = A := rfl
theorem KY {gs : List Nat} {d : Option Nat} {s : AS} {A : Prop} : exM .free gs d K s A = A := rfl
theorem Of {md : Mode} {lw : Nat} {gs : List Nat} {d : Option Nat} {f : Nat} {xs : List Opd} {os : List AOper} : A4 P md lw gs (⟨d, .callp f xs, none⟩ :: os) K ⟨e, n, H⟩ = AI P d (.callp f xs) (A4 P md lw gs os K) ⟨e, n, H⟩ := rfl
theorem Mm {md : Mode} {lw : Nat} {gs : List Nat} {d : Option Nat} {f : Opd} {xs : List Opd} {os : List AOper} : A4 P md lw gs (⟨d, .callv f xs, none⟩ :: os) K ⟨e, n, H⟩ = AI P d (.callv f xs) (A4 P md lw gs os K) ⟨e, n, H⟩ := rfl
theorem JG {lo : Nat} {gs : List Nat} {x : Opd} {v : AV} : Gq .plain lo gs x v = True := rfl
theorem Je {lo : Nat} {gs : List Nat} {x : Opd} {v : AV} : Gq .free lo gs x v = True := rfl
theorem KJ {lo : Nat} {gs : List Nat} {x : Opd} {v : AV} : Gq .refs lo gs x v = True := rfl
theorem JX {lo : Nat} {gs : List Nat} {x : Opd} {v : AV} : Gq .early lo gs x v = True := rfl
theorem Jz {lo : Nat} {gs : List Nat} {x : Opd} {v : AV} : Gq .late lo gs x v = Rh gs v := rfl
theorem KU {lo : Nat} {gs : List Nat} {q i : Nat} {v : AV} : Gq (.last q) lo gs (.t i) v = ((i = q → QH lo gs v) ∧ (i ≠ q → Qj lo gs v)) := rfl
theorem Jd {lo : Nat} {gs : List Nat} {g o : Nat} : QH lo gs (.ptr g o) = (g < lo ∧ g ∉ gs) := rfl
theorem Jm {lo : Nat} {gs : List Nat} {g o : Nat} : Qj lo gs (.ptr g o) = (lo ≤ g ∨ g ∈ gs) := rfl
theorem Ix {gs : List Nat} {g o : Nat} : Rh gs (.ptr g o) = (g ∈ gs) := rfl
theorem HO {a : Nat} {gs : List Nat} {H : A3} {k : Nat} : AT (a :: gs) H k = if k = a then none else AT gs H k := rfl
theorem Jy {H : A3} {k : Nat} : AT [] H k = H k := rfl
theorem Fx {d : Option Nat} {x : Opd} : AI P d (.mv x) K ⟨e, n, H⟩ = KS (some (ev e x)) d K e n H := rfl
theorem Nc {d : Option Nat} {c a b : Opd} : AI P d (.pick c a b) K ⟨e, n, H⟩ = KS (match ev e c with | .bool t => some (if t then ev e a else ev e b) | _ => none) d K e n H := rfl
theorem FQ {d : Option Nat} {o : BinOp} {x y : Opd} : AI P d (.bin o x y) K ⟨e, n, H⟩ = KS (DK o (ev e x) (ev e y)) d K e n H := rfl
theorem FV {d : Option Nat} {ks : List FK} {ng : Bool} {x y : Opd} : AI P d (.eqs ks ng x y) K ⟨e, n, H⟩ = KS (I7 ks ng (ev e x) (ev e y)) d K e n H := rfl
theorem Fo {d : Option Nat} {ng : Bool} {x y : Opd} : AI P d (.eqb ng x y) K ⟨e, n, H⟩ = KS (IK ng (ev e x) (ev e y)) d K e n H := rfl
theorem Fr {d : Option Nat} {ng : Bool} {x : Opd} : AI P d (.eqn ng x) K ⟨e, n, H⟩ = KS (GD ng (ev e x)) d K e n H := rfl
theorem Fh {d : Option Nat} {ng : Bool} {x : Opd} : AI P d (.eqp ng x) K ⟨e, n, H⟩ = KS ((Ci (ev e x)).map (Qs ng)) d K e n H := rfl
theorem Fk {d : Option Nat} {ng : Bool} {x : Opd} : AI P d (.eqi ng x) K ⟨e, n, H⟩ = KS ((Cw (ev e x)).map (Qs ng)) d K e n H := rfl
theorem Fd {d : Option Nat} {x : Opd} : AI P d (.neg x) K ⟨e, n, H⟩ = KS (I0 (ev e x)) d K e n H := rfl
theorem Ff {d : Option Nat} {x : Opd} : AI P d (.not x) K ⟨e, n, H⟩ = KS (IT (ev e x)) d K e n H := rfl
theorem FW {d : Option Nat} {k : IntKind} {x : Opd} : AI P d (.cvi k x) K ⟨e, n, H⟩ = KS (IF k (ev e x)) d K e n H := rfl
theorem NM {d : Option Nat} {f : Nat} {a b : List Opd} : AI P d (.mkfn f a b) K ⟨e, n, H⟩ = KS (some (.fn f (a.map (ev e)) (b.map (ev e)))) d K e n H := rfl
theorem Nx {d : Option Nat} {x : Opd} {lo hi : Option Opd} : AI P d (.cutS x lo hi) K ⟨e, n, H⟩ = KS (Du (ev e x) (lo.map (ev e)) (hi.map (ev e))) d K e n H := rfl
theorem FX {d : Option Nat} {sz : Nat} {x : Opd} {lo hi : Option Opd} : AI P d (.cut sz x lo hi) K ⟨e, n, H⟩ = KS (F5 sz (ev e x) (lo.map (ev e)) (hi.map (ev e))) d K e n H := rfl
theorem JS {d : Option Nat} {x : Opd} {o : Nat} {s : BD} : AI P d (.faddr x o s) K ⟨e, n, H⟩ = KS (G6 (ev e x) o s) d K e n H := rfl
theorem N2 {d : Option Nat} {x : Opd} {o : Nat} {s : BD} : AI P d (.field x o s) K ⟨e, n, H⟩ = KS (Dc (ev e x) o s) d K e n H := rfl
theorem Oe {d : Option Nat} {sz : Nat} {s : BD} {x i : Opd} : AI P d (.iaddr sz s x i) K ⟨e, n, H⟩ = KS (CN sz s (ev e x) (ev e i)) d K e n H := rfl
theorem Oi {d : Option Nat} {l sz : Nat} {s : BD} {x i : Opd} : AI P d (.aaddr l sz s x i) K ⟨e, n, H⟩ = KS (FY l sz s (ev e x) (ev e i)) d K e n H := rfl
theorem Ng {d : Option Nat} {x i : Opd} : AI P d (.sidx x i) K ⟨e, n, H⟩ = KS (FF (ev e x) (ev e i)) d K e n H := rfl
theorem NY {d : Option Nat} {l sz : Nat} {s : BD} {x i : Opd} : AI P d (.aidx l sz s x i) K ⟨e, n, H⟩ = KS (Ep l sz s (ev e x) (ev e i)) d K e n H := rfl
theorem FM {d : Option Nat} {x : Opd} : AI P d (.len x) K ⟨e, n, H⟩ = KS (S4 (ev e x)) d K e n H := rfl
theorem J0 {d : Option Nat} {x : Opd} : AI P d (.lenS x) K ⟨e, n, H⟩ = KS (Ei (ev e x)) d K e n H := rfl
theorem Mi {d : Option Nat} {m : Nat} : AI P d (.clen m) K ⟨e, n, H⟩ = KS (some (.int .i64 m)) d K e n H := rfl
theorem NS {d : Option Nat} {x : Opd} {i : Nat} : AI P d (.extr x i) K ⟨e, n, H⟩ = KS (Ez i (ev e x)) d K e n H := rfl
theorem JE {d : Option Nat} {x : Opd} : AI P d (.nilck x) K ⟨e, n, H⟩ = KS (Df (ev e x)) d K e n H := rfl
theorem Ju {d : Option Nat} {s : BD} {x : Opd} : AI P d (.load s x) K ⟨e, n, H⟩ = KS (Az H s (ev e x)) d K e n H := rfl
theorem Nd {d : Option Nat} {z : List AV} {ps : List (Nat × BD × Opd)} : AI P d (.build z ps) K ⟨e, n, H⟩ = KS (DS z (ps.map fun (o, s, x) => (o, s, ev e x))) d K e n H := by
 have h : (ps.map fun (o, _, x) => (o, ev e x)) = (ps.map fun (o, s, x) => (o, s, ev e x)).map fun (o, _, x) => (o, x) := by rw [List.map_map]; rfl
 show K1 (if _ then some (.agg (EQ z _)) else none) _ = _
 rw [h]; unfold KS DS; split <;> rfl
theorem Hj {d : Option Nat} {mx : Bool} {x y : Opd} : AI P d (.mm mx x y) K ⟨e, n, H⟩ = KS (Sq mx (ev e x) (ev e y)) d K e n H := rfl
theorem FO {d : Option Nat} {x : Opd} : AI P d (.b2s x) K ⟨e, n, H⟩ = KS (IV (ev e x)) d K e n H := rfl
theorem FT {d : Option Nat} {x : Opd} : AI P d (.r2s x) K ⟨e, n, H⟩ = KS (I6 (ev e x)) d K e n H := rfl
theorem FN {d : Option Nat} {x : Opd} : AI P d (.upc x) K ⟨e, n, H⟩ = KS (DX H (ev e x)) d K e n H := rfl
theorem Fb {d : Option Nat} {el : TypeId} {x : Opd} : AI P d (.usd el x) K ⟨e, n, H⟩ = KS (DZ H el (ev e x)) d K e n H := rfl
theorem NW {d : Option Nat} {ng : Bool} {x y : Opd} : AI P d (.eqpp ng x y) K ⟨e, n, H⟩ = KS (FJ ng (ev e x) (ev e y)) d K e n H := rfl
theorem Nr {d : Option Nat} {u : TypeId} {x : Opd} : AI P d (.updn u x) K ⟨e, n, H⟩ = KS (Bm P H u (ev e x)) d K e n H := rfl
theorem Fq {d : Option Nat} {t : TypeId} {x m : Opd} : AI P d (.ust t x m) K ⟨e, n, H⟩ = KS (D1 t (ev e x) (ev e m)) d K e n H := rfl
theorem NE {d : Option Nat} {t : TypeId} {z : List AV} : AI P d (.alloc t z) K ⟨e, n, H⟩ = (ones z ∧ Uq (.cells t z) d K e n H) := rfl
theorem FP {d : Option Nat} {t : TypeId} {sh : BD} {x : Opd} : AI P d (.box t sh x) K ⟨e, n, H⟩ = ((Bf sh (ev e x) ∧ Uq (.cells t (ev e x).cells) d K e n H)) := propext and_assoc.symm
theorem Jx {d : Option Nat} {sh : BD} {x v : Opd} : AI P d (.store sh x v) K ⟨e, n, H⟩ = CS sh d K ⟨e, n, H⟩ (ev e v) (ev e x) := rfl
def WO (el sz : Nat) (l : List AV) (d : Option Nat) (K : AS → Prop) (e : AK) (n : Nat) (H : A3) : Prop := UU sz l (.row el l.length) d K e n H ∨ ∀ g, n ≤ g → K ⟨AG e d (.slm sz g 0 l.length), g + 1, upd H g (some (.cells el (AL l)))⟩
theorem Av {el sz : Nat} {l : List AV} {d : Option Nat} (h : UU sz l (.row el l.length) d K e n H) : WO el sz l d K e n H := .inl h
theorem FU {d : Option Nat} {t : TypeId} {sh : BD} {xs : List Opd} : AI P d (.bsl t sh xs) K ⟨e, n, H⟩ = (GI sh (xs.map (ev e)) ∧ WO t (BG sh) (xs.map (ev e)) d K e n H) := by
 have h : GI sh (xs.map (ev e)) = (∀ x ∈ xs, (ev e x).fits sh = true ∧ ones (ev e x).cells) := by simp [GI, Bf]
 rw [h]
 unfold WO UU
 rw [List.length_map]; rfl
theorem FS {d : Option Nat} {t sz b : Nat} {x y : Opd} : AI P d (.app t sz b x y) K ⟨e, n, H⟩ = appKS t sz b d K ⟨e, n, H⟩ (ev e x) (ev e y) := rfl
theorem Jo {d : Option Nat} {t b : Nat} {x y : Opd} : AI P d (.appB t b x y) K ⟨e, n, H⟩ = LL t b d K ⟨e, n, H⟩ (ev e x) (ev e y) := rfl
theorem Fm {d : Option Nat} {t : TypeId} {x : Opd} : AI P d (.s2b t x) K ⟨e, n, H⟩ = IW d K e n H (ev e x) := rfl
theorem Fu {d : Option Nat} {x : Opd} : AI P d (.s2s x) K ⟨e, n, H⟩ = I8 d K e n H (ev e x) := rfl
theorem Ma {d : Option Nat} {kk : Option IntKind} : AI P d (.mkmap kk) K ⟨e, n, H⟩ = Xh kk d K e n H := rfl
theorem NA {d : Option Nat} {kk : Option IntKind} {m k v : Opd} : AI P d (.mset kk m k v) K ⟨e, n, H⟩ = DL kk d K ⟨e, n, H⟩ (ev e k) (ev e v) (ev e m) := rfl
def YZ (m : Nat) (o : Option AObj) (d : Option Nat) (K : AS → Prop) (e : AK) (n : Nat) (H : A3) : Prop := match o with
 | some (.map _ es) => ∀ g, n ≤ g → K ⟨AG e d (.ptr g 0), g + 1, upd H g (some (.iter m es.length (List.range es.length) none))⟩
 | _ => False
def YN (g m len : Nat) (left : List Nat) (o : Option AObj) (d : Option Nat) (K : AS → Prop) (e : AK) (n : Nat) (H : A3) : Prop := match o with
 | some (.map _ es) => es.length = len ∧ (left = [] → K ⟨AG e d (.tup [.bool false]), n, H⟩) ∧ ∀ j ∈ left, ∀ k v, es[j]? = some (k, v) → K ⟨AG e d (.tup [.bool true, k, v]), n, upd H g (some (.iter m len (left.erase j) (some j)))⟩
 | _ => False
def Xi (g : Nat) (o : Option AObj) (d : Option Nat) (K : AS → Prop) (e : AK) (n : Nat) (H : A3) : Prop := match o with
 | some (.iter m len left _) => YN g m len left (H m) d K e n H
 | _ => False
theorem J4 {g m len : Nat} {left : List Nat} {cur d : Option Nat} : Xi g (some (.iter m len left cur)) d K e n H = YN g m len left (H m) d K e n H := rfl
theorem J6 {m : Nat} {d : Option Nat} : O2 d K ⟨e, n, H⟩ (.mp m) = YZ m (H m) d K e n H := rfl
theorem K3 {g : Nat} {d : Option Nat} : NL d K ⟨e, n, H⟩ (.ptr g 0) = Xi g (H g) d K e n H := propext ⟨fun h => h.2, fun h => ⟨rfl, h⟩⟩
def YY (el : TypeId) (z : AV) (m : Nat) (d : Option Nat) (K : AS → Prop) (e : AK) (n : Nat) (H : A3) : Prop := ∀ g, n ≤ g → K ⟨AG e d (.slm 1 g 0 m), g + 1, upd H g (some (.cells el (List.replicate m z)))⟩
theorem Jg {el : TypeId} {b : Nat} {z : AV} {d : Option Nat} {k k' : IntKind} {p q : Int} : Il el b z d K ⟨e, n, H⟩ (.int k p) (.int k' q) = (p = q ∧ 0 ≤ p ∧ (b : Int) * p ≤ 281474976710656 ∧ p ≤ maxLen ∧ YY el z p.toNat d K e n H) := rfl
theorem Mr {d : Option Nat} {el : TypeId} {b : Nat} {z : AV} {x y : Opd} : AI P d (.mksl el b z x y) K ⟨e, n, H⟩ = Il el b z d K ⟨e, n, H⟩ (ev e x) (ev e y) := rfl
theorem FL {d : Option Nat} {x : Opd} : AI P d (.rng x) K ⟨e, n, H⟩ = O2 d K ⟨e, n, H⟩ (ev e x) := rfl
theorem Fp {d : Option Nat} {x : Opd} : AI P d (.nxt x) K ⟨e, n, H⟩ = NL d K ⟨e, n, H⟩ (ev e x) := rfl
theorem Fg {d : Option Nat} {x : Opd} : AI P d (.ent x) K ⟨e, n, H⟩ = KS (G7 H (ev e x)) d K e n H := rfl
theorem OD {d : Option Nat} {kk : Option IntKind} {z : AV} {ok : Bool} {m k : Opd} : AI P d (.mget kk z ok m k) K ⟨e, n, H⟩ = KS (D6 H kk z ok (ev e m) (ev e k)) d K e n H := rfl
theorem KH {d : Option Nat} {f : Nat} {xs : List Opd} : AI P d (.call f xs) K ⟨e, n, H⟩ = CallK P f (xs.map (ev e)) d K ⟨e, n, H⟩ := rfl
theorem Nb {d : Option Nat} {f : Nat} {xs : List Opd} : AI P d (.callp f xs) K ⟨e, n, H⟩ = CallP P f (xs.map (ev e)) d K ⟨e, n, H⟩ := rfl
theorem Mn {d : Option Nat} {x : Opd} {xs : List Opd} : AI P d (.callv x xs) K ⟨e, n, H⟩ = D4 P d K e n H (xs.map (ev e)) (ev e x) := rfl
theorem TL {el sz by_ z z' : Nat} {d : Option Nat} {m m' : List AV} {t : Tok} (hz : z' = sz ∨ m = []) (hs : AA m m') (hm : m ≠ []) (hb : m.length * by_ ≤ 140737488355328) (hx : m.length ≤ maxLen) (h : ∀ g, n ≤ g → K ⟨AG e d (.sl sz m' (.own g)), g + 1, upd H g (some (.row el m'.length))⟩) : appKS el sz by_ d K ⟨e, n, H⟩ (.sl z [] .nil) (.sl z' m t) := by
 have hl := DR hs
 exact ⟨hz, m', hs, by simpa [hl] using hb, by simpa [hl] using hx, fun h' => absurd h' (fun e => hm (List.length_eq_zero_iff.1 (by rw [hl, e]; rfl))), fun _ => .inl h⟩
theorem T6 {el sz by_ g0 z' : Nat} {d : Option Nat} {l m m' : List AV} {t : Tok} (hz : z' = sz ∨ m = []) (hs : AA m m') (hr : H g0 = some (.row el l.length)) (hb : (l.length + m.length) * by_ ≤ 140737488355328) (hx : l.length + m.length ≤ maxLen) (h : ∀ g n', (g = g0 ∨ n ≤ g) → n ≤ n' → g < n' → K ⟨AG e d (.sl sz (l ++ m') (.own g)), n', upd (upd H g0 none) g (some (.row el (l.length + m'.length)))⟩) : appKS el sz by_ d K ⟨e, n, H⟩ (.sl sz l (.own g0)) (.sl z' m t) := by
 have hl := DR hs
 exact ⟨hz, m', hs, by rw [← hl]; exact hb, by rw [← hl]; exact hx, rfl, hr, h⟩
theorem JR {X : AS → Prop} {s : AS} : DY X Q .normal s = X s := rfl
theorem KI {X : AS → Prop} {s : AS} {i : Nat} : DY X Q (.exit i) s = Q (.exit i) s := rfl
theorem JI {X : AS → Prop} {s : AS} : DY X Q .ret s = Q .ret s := rfl
theorem KV {id : Nat} {s : AS} : E5 id Q .normal s = Q .normal s := rfl
theorem IQ {id i : Nat} {s : AS} : E5 id Q (.exit i) s = if i = id then Q .normal s else Q (.exit i) s := rfl
theorem J2 {id : Nat} {s : AS} : E5 id Q .ret s = Q .ret s := rfl
end
/-! ### simp looks at what is known, not into what follows -/
section
variable {P : Program} {K : AS → Prop} {Q : AExit → AS → Prop} {d : Option Nat} {n : Nat}
end
abbrev zM (d s : Nat) : AOper := ⟨some d, .mv (.t s), none⟩
abbrev zL (d s : Nat) : AOper := ⟨some d, .load none (.t s), none⟩
abbrev zF (d s k : Nat) : AOper := ⟨some d, .faddr (.t s) k none, none⟩
abbrev zG (d k s : Nat) : AOper := ⟨some d, .load (some k) (.t s), none⟩
abbrev zX (d s k : Nat) : AOper := ⟨some d, .extr (.t s) k, none⟩
abbrev zI (d : Nat) (k : Int) : AOper := ⟨some d, .mv (.c (.int .i64 k)), none⟩
abbrev zB (d : Nat) (b : Bool) : AOper := ⟨some d, .mv (.c (.bool b)), none⟩
abbrev zS (k a b : Nat) : AOper := ⟨none, .store (some k) (.t a) (.t b), none⟩
abbrev zU (a b : Nat) : AOper := ⟨none, .store none (.t a) (.t b), none⟩
abbrev zP (d a b : Nat) : AOper := ⟨some d, .pick (.t a) (.t b) (.c (.bool false)), none⟩
abbrev zO (d a b : Nat) : AOper := ⟨some d, .pick (.t a) (.c (.bool true)) (.t b), none⟩
abbrev zV (d f a : Nat) : AOper := ⟨some d, .callp f [.t a], none⟩
abbrev zW (d f a b : Nat) : AOper := ⟨some d, .callp f [.t a, .t b], none⟩
abbrev zN (d s : Nat) : AOper := ⟨some d, .not (.t s), none⟩
abbrev zY (d s : Nat) : AOper := ⟨some d, .len (.t s), none⟩
abbrev zZ (d s : Nat) : AOper := ⟨some d, .nilck (.t s), none⟩
abbrev zH (d e k s : Nat) : AOper := ⟨some d, .box e (some k) (.t s), none⟩
abbrev zJ (d k a b : Nat) : AOper := ⟨some d, .iaddr k none (.t a) (.t b), none⟩
abbrev zD (d : Nat) (o : BinOp) (a b : Nat) : AOper := ⟨some d, .bin o (.t a) (.t b), none⟩
abbrev zE (d : Nat) (o : BinOp) (a : Nat) (k : Int) : AOper := ⟨some d, .bin o (.t a) (.c (.int .i64 k)), none⟩
end Go.Proofs.YtnfjgphfaemjcaaGreatDoor
