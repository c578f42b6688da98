/- What is asked at a function's end, and how a function's contract comes of its code; no condition. -/
import Derived.Test.YtnfjgphfaemjcaaGreatDoorMgC
set_option linter.all false
set_option linter.unusedSimpArgs false
set_option linter.unusedVariables false
namespace Go.Proofs.YtnfjgphfaemjcaaGreatDoor
def ER (s : AS) : ARes → Option AV
 | .tmp t => some (get s.e t)
 | .cell t sh => Am s.H sh (get s.e t)
def CD (s : AS) : List ARes → Option (List AV)
 | [] => some []
 | r :: rs => match ER s r, CD s rs with | some x, some xs => some (x :: xs) | _, _ => none
def BB (s : AS) (rs : List ARes) : Option AV :=
 match CD s rs with
 | some [x] => some x
 | some xs => some (.tup xs)
 | none => none
def SameB (n : Nat) (H H' : A2) : Prop := ∀ k, k < n → H' k = H k
def Lo (v : AV) (n : Nat) (H : A2) (res : List ARes) : AExit → AS → Prop
 | .normal, s | .ret, s => (∃ x, BB s res = some x ∧ AA x v) ∧ n ≤ s.n ∧ SameB n H s.H
 | _, _ => False
def fin (R : DL) (n : Nat) (res : List ARes) : AExit → AS → Prop
 | .normal, s | .ret, s => ∃ r n' H', (∃ x, BB s res = some x ∧ AA x r) ∧ n ≤ n' ∧ n' ≤ s.n ∧ (∀ k, n' ≤ k → H' k = none) ∧ SameB n' H' s.H ∧ R r n' H'
 | _, _ => False
theorem SameB.rfl_ (n : Nat) (H : A2) : SameB n H H := fun _ _ => rfl
theorem B8 {R : DL} {n m : Nat} {res : List ARes} {e : AL} {H : A2} {r : AV} (h1 : BB ⟨e, m, H⟩ res = some r) (h2 : n ≤ m) (h3 : ∀ k, m ≤ k → H k = none) (h4 : R r m H) : fin R n res .ret ⟨e, m, H⟩ :=
 ⟨r, m, H, ⟨r, h1, A1 _⟩, h2, Nat.le_refl _, h3, SameB.rfl_ _ _, h4⟩
theorem PF {R : DL} {n m : Nat} {res : List ARes} {e : AL} {H : A2} {r : AV} (h1 : BB ⟨e, m, H⟩ res = some r) (h2 : n ≤ m) (h3 : ∀ k, m ≤ k → H k = none) (h4 : R r m H) : fin R n res .normal ⟨e, m, H⟩ :=
 ⟨r, m, H, ⟨r, h1, A1 _⟩, h2, Nat.le_refl _, h3, SameB.rfl_ _ _, h4⟩
theorem SameB.upd {n : Nat} {H H' : A2} (h : SameB n H H') {g : Nat} (hg : n ≤ g) (x : Option AObj) : SameB n H (upd H' g x) := fun k hk => by
 unfold Go.Proofs.YtnfjgphfaemjcaaGreatDoor.upd; rw [if_neg (by omega)]; exact h k hk
theorem AY (H : A2) (g : Nat) (x : Option AObj) : upd H g x g = x := by simp [upd]
theorem upd_ne {H : A2} {g k : Nat} {x : Option AObj} (h : k ≠ g) : upd H g x k = H k := by simp [upd, h]
theorem CE (H : A2) (g : Nat) (x y : Option AObj) : upd (upd H g x) g y = upd H g y := by funext k; simp only [upd]; split <;> rfl
def Qz (ng t : Bool) : AV := .bool (if ng then !t else t)
def I0 (ks : List FK) (ng : Bool) : AV → AV → Option AV
 | .agg a, .agg b => (C5 ks a b).map (Qz ng)
 | _, _ => none
def Hd (ng : Bool) : AV → AV → Option AV
 | .bool a, .bool b => some (.bool (if ng then !(a == b) else a == b))
 | _, _ => none
def HQ : AV → Option AV | .int k n => some (.int k (k.wrap (0 - n))) | _ => none
def Hu : AV → Option AV | .bool b => some (.bool (!b)) | _ => none
def Hx (k : IntKind) : AV → Option AV | .int _ n => some (.int k (k.wrap n)) | _ => none
def DC (x : AV) (o : Nat) (s : Ar) : Option AV := match x with | .agg cs => part cs o s | _ => none
def Ea : AV → AV → Option AV
 | .str s, .int _ j => if 0 ≤ j then (s[j.toNat]?).map fun b => .int .u8 b.toNat else none
 | _, _ => none
def EW (len sz : Nat) (s : Ar) : AV → AV → Option AV
 | .agg cs, .int _ j => if 0 ≤ j ∧ j < len then part cs (j.toNat * sz) s else none
 | _, _ => none
def RE : AV → Option AV | .sl _ l _ => some (.int .i64 l.length) | .slm _ _ _ n => some (.int .i64 n) | .slg _ _ n => some (.int .i64 n) | _ => none
def Eb : AV → Option AV | .str s => some (.int .i64 s.length) | _ => none
def Ee (i : Nat) : AV → Option AV | .tup vs => vs[i]? | _ => none
def DG : AV → Option AV | .ptr g o => some (.ptr g o) | .ref x => some (.ref x) | .fn f a b => if a.isEmpty then some (.fn f a b) else none | _ => none
def Cv (z : List AV) (ps : List (Nat × Ar × AV)) : Option AV := if E5 z.length ps then some (.agg (EG z (ps.map fun (o, _, x) => (o, x)))) else none
def Su (mx : Bool) : AV → AV → Option AV
 | .int k a, .int k' b => if k = k' then some (.int k (if mx then max a b else min a b)) else none
 | _, _ => none
def Hc : AV → Option AV | .sl _ l _ => (bytesOf l).map .str | _ => none
def HS : AV → Option AV | .int _ n => some (.str (Utf8.encode n).data.toList) | _ => none
def Ec (ng : Bool) : AV → AV → Option AV
 | .ptr g o, .ptr g' o' => if g = g' then some (.bool (if ng then !(decide (o = o')) else decide (o = o'))) else none
 | _, _ => none
def Hq (d : Option Nat) (K : AS → Prop) (e : AL) (n : Nat) (H : A2) : AV → Prop
 | .str b => b.length ≤ maxLen ∧ ∀ n', n ≤ n' → K ⟨AB e d (.sl 1 (b.map fun u => .int .u8 u.toNat) .ro), n', H⟩
 | _ => False
def Hs (d : Option Nat) (K : AS → Prop) (e : AL) (n : Nat) (H : A2) : AV → Prop
 | .sl sz l (.own g) => l ≠ [] ∧ K ⟨AB e d (.sl sz l .ro), n, upd H g none⟩
 | _ => False
def ZO (kk : Option IntKind) (d : Option Nat) (K : AS → Prop) (e : AL) (n : Nat) (H : A2) : Prop := ∀ g, n ≤ g → K ⟨AB e d (.mp g), g + 1, upd H g (some (.map kk []))⟩
def Cb (P : Program) (d : Option Nat) (K : AS → Prop) (e : AL) (n : Nat) (H : A2) (xs : List AV) : AV → Prop
 | .fn f a b => DE P f = true ∧ CallK P f (a ++ xs ++ b) d K ⟨e, n, H⟩
 | _ => False
def BA (sh : Ar) (x : AV) : Prop := x.fits sh = true ∧ ones x.cells
def GN (sh : Ar) (l : List AV) : Prop := ∀ x ∈ l, BA sh x
theorem Is {sh : Ar} : GN sh [] = True := by simp [GN]
theorem K0 {sh : Ar} {x : AV} {l : List AV} : GN sh (x :: l) = (BA sh x ∧ GN sh l) := by simp [GN]
theorem IC {s : List UInt8} : BA none (.str s) = True := by simp [BA, AV.fits, ones, AV.cells, AV.one]
theorem Ia {k : IntKind} {i : Int} : BA none (.int k i) = True := by simp [BA, AV.fits, ones, AV.cells, AV.one]
theorem Jx {b : Bool} : BA none (.bool b) = True := by simp [BA, AV.fits, ones, AV.cells, AV.one]
theorem JO {z : Nat} {l : List AV} {t : Tok} : BA none (.sl z l t) = True := by simp [BA, AV.fits, ones, AV.cells, AV.one]
theorem JS {g o : Nat} : BA none (.ptr g o) = True := by simp [BA, AV.fits, ones, AV.cells, AV.one]
theorem JN : BA none .np = True := by simp [BA, AV.fits, ones, AV.cells, AV.one]
theorem IA {x : AV} : BA none (.ref x) = True := by simp [BA, AV.fits, ones, AV.cells, AV.one]
theorem It {f : Nat} {a b : List AV} : BA none (.fn f a b) = True := by simp [BA, AV.fits, ones, AV.cells, AV.one]
theorem KA : BA none .nfn = True := by simp [BA, AV.fits, ones, AV.cells, AV.one]
theorem IU {t : Nat} {v : AV} : BA none (.ifc t v) = True := by simp [BA, AV.fits, ones, AV.cells, AV.one]
theorem Jt : BA none .nif = True := by simp [BA, AV.fits, ones, AV.cells, AV.one]
theorem IK {s : Nat} {cs : List AV} : BA (some s) (.agg cs) = (cs.length = s ∧ ones cs) := by simp [BA, AV.fits, AV.cells]
def YW (sh : Ar) (d : Option Nat) (K : AS → Prop) (e : AL) (n : Nat) (H : A2) (v : AV) (g o : Nat) : Option AObj → Prop
 | some (.cells t cs) => BA sh v ∧ o + v.cells.length ≤ cs.length ∧ K ⟨AB e d .any, n, upd H g (some (.cells t (splice cs o v.cells)))⟩
 | some (.grow t cs) => BA sh v ∧ o + v.cells.length ≤ cs.length ∧ K ⟨AB e d .any, n, upd H g (some (.grow t (splice cs o v.cells)))⟩
 | _ => False
theorem Im {sh : Ar} {d : Option Nat} {K : AS → Prop} {e : AL} {n : Nat} {H : A2} {v : AV} {g o : Nat} : C9 sh d K ⟨e, n, H⟩ v (.ptr g o) = YW sh d K e n H v g o (H g) := by
 show (match H g with | some (.cells e' cs) => _ | some (.grow e' cs) => _ | _ => False) = _
 cases H g with
 | none => rfl
 | some ob => cases ob with
  | cells t cs => exact propext and_assoc.symm
  | grow t cs => exact propext and_assoc.symm
  | _ => rfl
theorem JM {sh : Ar} {d : Option Nat} {K : AS → Prop} {e : AL} {n : Nat} {H : A2} {v : AV} {g o : Nat} {t : TypeId} {cs : List AV} : YW sh d K e n H v g o (some (.cells t cs)) = (BA sh v ∧ o + v.cells.length ≤ cs.length ∧ K ⟨AB e d .any, n, upd H g (some (.cells t (splice cs o v.cells)))⟩) := rfl
theorem IR {sh : Ar} {d : Option Nat} {K : AS → Prop} {e : AL} {n : Nat} {H : A2} {v : AV} {g o : Nat} {t : TypeId} {cs : List AV} : YW sh d K e n H v g o (some (.grow t cs)) = (BA sh v ∧ o + v.cells.length ≤ cs.length ∧ K ⟨AB e d .any, n, upd H g (some (.grow t (splice cs o v.cells)))⟩) := rfl
theorem Jz {z g m : Nat} : RE (.slg z g m) = some (.int .i64 m) := rfl
theorem JP {sz z g m : Nat} {s : Ar} {k : IntKind} {j : Int} : C6 sz s (.slg z g m) (.int k j) = if z = sz ∧ 0 ≤ j ∧ j < m then some (.ptr g (j.toNat * sz)) else none := rfl
theorem Ih {z g o m : Nat} : RE (.slm z g o m) = some (.int .i64 m) := rfl
theorem IQ {sz z g o m : Nat} {s : Ar} {k : IntKind} {j : Int} : C6 sz s (.slm z g o m) (.int k j) = if z = sz ∧ 0 ≤ j ∧ j < m then some (.ptr g (o + j.toNat * sz)) else none := rfl
theorem Iu : AD [] = [] := rfl
theorem J7 {x : AV} {l : List AV} : AD (x :: l) = x.cells ++ AD l := rfl
theorem JB {z : Nat} {l : List AV} {t : Tok} : RE (.sl z l t) = some (.int .i64 l.length) := rfl
theorem IF {sz z : Nat} {s : Ar} {l : List AV} {t : Tok} {k : IntKind} {j : Int} : C6 sz s (.sl z l t) (.int k j) = if z = sz ∧ 0 ≤ j then (match l[j.toNat]? with | some y => if y.fits s then some (.ref y) else none | none => none) else none := rfl
theorem KO {sz z : Nat} {l : List AV} {t : Tok} {lo hi : Option AV} : Fc sz (.sl z l t) lo hi = if z = sz ∨ l = [] then (DK lo hi l.length).map fun (a, b) => .sl sz ((l.take b).drop a) .ro else none := rfl
theorem IE {sz z g n : Nat} {lo hi : Option AV} : Fc sz (.slg z g n) lo hi = if z = sz then (DK lo hi n).bind fun (a, b) => if a = 0 then some (.slg sz g b) else none else none := rfl
def W2 (ob : AObj) (d : Option Nat) (K : AS → Prop) (e : AL) (n : Nat) (H : A2) : Prop := ∀ g, n ≤ g → K ⟨AB e d (.ptr g 0), g + 1, upd H g (some ob)⟩
def U6 (sz : Nat) (l : List AV) (ob : AObj) (d : Option Nat) (K : AS → Prop) (e : AL) (n : Nat) (H : A2) : Prop := ∀ g, n ≤ g → K ⟨AB e d (.sl sz l (.own g)), g + 1, upd H g (some ob)⟩
def KS (o : Option AV) (d : Option Nat) (K : AS → Prop) (e : AL) (n : Nat) (H : A2) : Prop :=
 match o with
 | some v => K ⟨AB e d v, n, H⟩
 | none => False
theorem J4 {v : AV} {d : Option Nat} {K : AS → Prop} {e : AL} {n : Nat} {H : A2} : KS (some v) d K e n H = K ⟨AB e d v, n, H⟩ := rfl
theorem Jo {d : Option Nat} {K : AS → Prop} {e : AL} {n : Nat} {H : A2} : KS none d K e n H = False := rfl
section
variable {P : Program} {e : AL} {n : Nat} {H : A2} {Q : AExit → AS → Prop} {K : AS → Prop}
theorem Jm : aw P .skip Q ⟨e, n, H⟩ = Q .normal ⟨e, n, H⟩ := rfl
theorem Dg {ops : List AOper} : aw P (.reg ops) Q ⟨e, n, H⟩ = awOps P ops (Q .normal) ⟨e, n, H⟩ := rfl
theorem Dj {a b : ACode} : aw P (.seq a b) Q ⟨e, n, H⟩ = aw P a (DO (aw P b Q) Q) ⟨e, n, H⟩ := rfl
theorem KG {c : Opd} {a b : ACode} : aw P (.cond c a b) Q ⟨e, n, H⟩ = DP (aw P a Q ⟨e, n, H⟩) (aw P b Q ⟨e, n, H⟩) (ev e c) := rfl
theorem JZ {id : Nat} {c : ACode} : aw P (.block id c) Q ⟨e, n, H⟩ = aw P c (Dv id Q) ⟨e, n, H⟩ := rfl
theorem J0 {c : ACode} : aw P (.loop c) Q ⟨e, n, H⟩ = LoopK (fun Q s => aw P c Q s) Q ⟨e, n, H⟩ := rfl
theorem KK {id : Nat} : aw P (.exit id) Q ⟨e, n, H⟩ = Q (.exit id) ⟨e, n, H⟩ := rfl
theorem DQ : aw P .ret Q ⟨e, n, H⟩ = Q .ret ⟨e, n, H⟩ := rfl
theorem DZ : aw P .bad Q ⟨e, n, H⟩ = False := rfl
theorem EU {ks : List Nat} {c : ACode} : aw P (.kp ks c) Q ⟨e, n, H⟩ = aw P c Q ⟨CS e ks, n, H⟩ := rfl
theorem FW {ks : List Nat} {c : ACode} : aw P (.ke ks c) Q ⟨e, n, H⟩ = aw P c (Lh ks Q) ⟨e, n, H⟩ := rfl
theorem I7 {ks : List Nat} : Lh ks Q .normal ⟨e, n, H⟩ = Q .normal ⟨CS e ks, n, H⟩ := rfl
theorem Id {ks : List Nat} {i : Nat} {s : AS} : Lh ks Q (.exit i) s = Q (.exit i) s := rfl
theorem IP {ks : List Nat} {s : AS} : Lh ks Q .ret s = Q .ret s := rfl
theorem KJ {l : List Seg} : aw P (.segs l) Q ⟨e, n, H⟩ = C3 P l (Q .normal) ⟨e, n, H⟩ := rfl
theorem IM : C3 P [] K ⟨e, n, H⟩ = K ⟨e, n, H⟩ := rfl
def YT (o : Option AV) (d : Nat) (ops : List AOper) (K : AS → Prop) (e : AL) (n : Nat) (H : A2) : Prop :=
 match o with
 | some v => K ⟨put (E6 e ops) d v, n, H⟩
 | none => False
theorem K4 {v : AV} {d : Nat} {ops : List AOper} {K : AS → Prop} {e : AL} {n : Nat} {H : A2} : YT (some v) d ops K e n H = K ⟨put (E6 e ops) d v, n, H⟩ := rfl
theorem IH {d : Nat} {ops : List AOper} {K : AS → Prop} {e : AL} {n : Nat} {H : A2} : YT none d ops K e n H = False := rfl
theorem JD {t d x : Nat} {want : Bool} {ops : List AOper} {l : List Seg} : C3 P (⟨some (t, want), ops, some (d, x)⟩ :: l) K ⟨e, n, H⟩ = YT (R5 want x (get e t) (Ce ops e H)) d ops (C3 P l K) e n H := rfl
def evS (o : Option AV) (d : Option Nat) (os : List AOper) (e : AL) (H : A2) : Option AL :=
 match o with
 | some v => Ce os (AB e d v) H
 | none => none
theorem Ju {v : AV} {d : Option Nat} {os : List AOper} {H : A2} : evS (some v) d os e H = Ce os (AB e d v) H := rfl
theorem KD {d : Option Nat} {os : List AOper} {H : A2} : evS none d os e H = none := rfl
theorem Ix {H : A2} : Ce [] e H = some e := rfl
theorem J2 {d : Option Nat} {op : AOp} {g : Option (Nat × Bool)} {os : List AOper} {H : A2} : Ce (⟨d, op, g⟩ :: os) e H = evS (pe op e H) d os e H := rfl
theorem IT {ops : List AOper} {l : List Seg} {p : Option (Nat × Nat)} : C3 P (⟨none, ops, p⟩ :: l) K ⟨e, n, H⟩ = awOps P ops (C3 P l K) ⟨e, n, H⟩ := rfl
theorem Lk {v : AV} (hv : v ≠ .any) : ∀ {e : AL} {t : Nat}, get e t = v → Dx e t v = e
 | [], t, h => absurd h.symm hv
 | (k, u) :: r, t, h => by
  simp only [get] at h
  simp only [Dx]
  split
  ·rename_i hk; rw [if_pos hk] at h; rw [h, hk]
  ·rename_i hk; rw [if_neg hk] at h; rw [Lk hv h]
def Cs (want : Bool) (A B C : Prop) : AV → Prop
 | .bool b => (b = want → A) ∧ (b ≠ want → B)
 | .und => C
 | _ => False
theorem KR {t : Nat} {want : Bool} {ops : List AOper} {l : List Seg} : C3 P (⟨some (t, want), ops, none⟩ :: l) K ⟨e, n, H⟩ = Cs want (awOps P ops (C3 P l K) ⟨Dx e t (.bool want), n, H⟩) (C3 P l K ⟨EM (Dx e t (.bool (!want))) ops, n, H⟩) (C3 P l K ⟨EM e ops, n, H⟩) (get e t) := by
 show guardK want _ (C3 P l K ⟨EM e ops, n, H⟩) _ = _
 generalize hg : get e t = v
 cases v <;> try rfl
 rename_i b
 simp only [guardK, Cs, eq_iff_iff]
 by_cases hb : b = want
 ·subst hb
  rw [Lk (by simp) hg]
  simp
 ·have hb' : b = !want := by cases b <;> cases want <;> simp_all
  subst hb'
  rw [Lk (by simp) hg]
  simp
theorem Jg : awOps P [] K ⟨e, n, H⟩ = K ⟨e, n, H⟩ := rfl
theorem J3 {d : Option Nat} {op : AOp} {os : List AOper} : awOps P (⟨d, op, none⟩ :: os) K ⟨e, n, H⟩ = AE P d op (awOps P os K) ⟨e, n, H⟩ := rfl
theorem JV {m : Mode} {S : List Nat} {ops : List AOper} : aw P (.regD m S ops) Q ⟨e, n, H⟩ = gsK P m (OU e S) ops (Q .normal) ⟨e, n, H⟩ := rfl
theorem K7 {m : Mode} {gs : List Nat} {ops : List AOper} {s : AS} : gsK P m (some gs) ops K s = Z0 P m gs ops K s := rfl
theorem A3 {m : Mode} {gs : List Nat} {ops : List AOper} (h : A4 P m n gs ops K ⟨e, n, H⟩) : Z0 P m gs ops K ⟨e, n, H⟩ := ⟨[], EZ h fun _ h => .of h⟩
theorem RD {m : Mode} {gs : List Nat} {ops : List AOper} (ms : List Nat) (h : A4 P m n (ms ++ gs) ops K ⟨e, n, H⟩) : Z0 P m gs ops K ⟨e, n, H⟩ := ⟨ms, EZ h fun _ h => .of h⟩
theorem Ip : OU e [] = some [] := rfl
theorem J9 {t : Nat} {ts : List Nat} : OU e (t :: ts) = Zv (get e t) (OU e ts) := rfl
theorem KQ {g o : Nat} {gs : List Nat} : Zv (.ptr g o) (some gs) = some (g :: gs) := rfl
def QG (ob : AObj) (d : Option Nat) (K : AS → Prop) (e : AL) (n : Nat) (H : A2) : Prop := ∀ g, n ≤ g → H g = none → K ⟨AB e d (.ptr g 0), g + 1, upd H g (some ob)⟩
theorem A5 {ob : AObj} {d : Option Nat} {H : A2} (h : W2 ob d K e n H) : QG ob d K e n H := fun g hg _ => h g hg
def SR (sz : Nat) (l : List AV) (ob : AObj) (d : Option Nat) (K : AS → Prop) (e : AL) (n : Nat) (H : A2) : Prop := ∀ g, n ≤ g → H g = none → K ⟨AB e d (.sl sz l (.own g)), g + 1, upd H g (some ob)⟩
theorem AR {sz : Nat} {l : List AV} {ob : AObj} {d : Option Nat} {H : A2} (h : U6 sz l ob d K e n H) : SR sz l ob d K e n H := fun g hg _ => h g hg
theorem Jw {md : Mode} {lw : Nat} {gs : List Nat} : A4 P md lw gs [] K ⟨e, n, H⟩ = K ⟨e, n, H⟩ := rfl
theorem KT {md : Mode} {lw : Nat} {gs : List Nat} {d : Option Nat} {sh : Ar} {x : Opd} {os : List AOper} : A4 P md lw gs (⟨d, .load sh x, none⟩ :: os) K ⟨e, n, H⟩ = KS (Am (AZ gs (hM md H)) sh (ev e x)) d (A4 P md lw gs os K) e n H := rfl
def Lg (md : Mode) (lo : Nat) (ob : AObj) (d : Option Nat) (K : AS → Prop) (e : AL) (n : Nat) (H : A2) : Prop := newK md lo ⟨e, n, H⟩ fun g n' => K ⟨AB e d (.ptr g 0), n', upd H g (some ob)⟩
def T3 (md : Mode) (lo : Nat) (sz : Nat) (l : List AV) (ob : AObj) (d : Option Nat) (K : AS → Prop) (e : AL) (n : Nat) (H : A2) : Prop := newK md lo ⟨e, n, H⟩ fun g n' => K ⟨AB e d (.sl sz l (.own g)), n', upd H g (some ob)⟩
theorem Jb {lo : Nat} {ob : AObj} {d : Option Nat} {H : A2} : Lg .plain lo ob d K e n H = QG ob d K e n H := rfl
theorem JQ {lo : Nat} {ob : AObj} {d : Option Nat} {H : A2} : Lg .late lo ob d K e n H = QG ob d K e n H := rfl
theorem I5 {q lo : Nat} {ob : AObj} {d : Option Nat} {H : A2} : Lg (.last q) lo ob d K e n H = QG ob d K e n H := rfl
theorem IZ {lo : Nat} {sz : Nat} {l : List AV} {ob : AObj} {d : Option Nat} {H : A2} : T3 .plain lo sz l ob d K e n H = SR sz l ob d K e n H := rfl
theorem IL {lo : Nat} {sz : Nat} {l : List AV} {ob : AObj} {d : Option Nat} {H : A2} : T3 .late lo sz l ob d K e n H = SR sz l ob d K e n H := rfl
theorem Ig {q lo : Nat} {sz : Nat} {l : List AV} {ob : AObj} {d : Option Nat} {H : A2} : T3 (.last q) lo sz l ob d K e n H = SR sz l ob d K e n H := rfl
theorem JW {H : A2} : hM .plain H = H := rfl
theorem Je {H : A2} : hM .late H = H := rfl
theorem IG {q : Nat} {H : A2} : hM (.last q) H = H := rfl
theorem Jl {H : A2} : hM .free H = H := rfl
theorem JK {H : A2} : hM .early H = H := rfl
theorem Jk {H : A2} : hM .refs H = fun _ => none := rfl
theorem Jj {lo : Nat} {ob : AObj} {d : Option Nat} {H : A2} : Lg .early lo ob d K e n H = QG ob d K e n H := rfl
theorem LW {lo : Nat} {ob : AObj} {d : Option Nat} {H : A2} (hlo : lo ≤ n) (hex : FreeH H) (h : ∀ g n', lo ≤ g → H g = none → n ≤ n' → g < n' → K ⟨AB e d (.ptr g 0), n', upd H g (some ob)⟩) : Lg .refs lo ob d K e n H := ⟨hlo, hex, h⟩
theorem ID {md : Mode} {lw : Nat} {gs : List Nat} {d : Option Nat} {t : TypeId} {z : List AV} {os : List AOper} : A4 P md lw gs (⟨d, .alloc t z, none⟩ :: os) K ⟨e, n, H⟩ = (ones z ∧ Lg md lw (.cells t z) d (A4 P md lw gs os K) e n H) := rfl
theorem J8 {md : Mode} {lw : Nat} {gs : List Nat} {d : Option Nat} {sh : Ar} {x v : Opd} {os : List AOper} : A4 P md lw gs (⟨d, .store sh x v, none⟩ :: os) K ⟨e, n, H⟩ = (Gs md lw gs x (ev e x) ∧ C9 sh d (A4 P md lw gs os K) ⟨e, n, H⟩ (ev e v) (ev e x)) := rfl
theorem F0 {md : Mode} {lw : Nat} {gs : List Nat} {t : Nat} {want : Bool} {d : Option Nat} {x : Opd} {os : List AOper} : A4 P md lw gs (⟨d, .mv x, some (t, want)⟩ :: os) K ⟨e, n, H⟩ = guardK want (AE P d (.mv x) (A4 P md lw gs os K) ⟨e, n, H⟩) (A4 P md lw gs os K ⟨AB e d .und, n, H⟩) (get e t) := by
 show (match get e t with | .bool b => _ | .und => _ | _ => False) = _
 cases get e t <;> rfl
theorem Nd {md : Mode} {lw : Nat} {gs : List Nat} {t : Nat} {want : Bool} {d : Option Nat} {op : BinOp} {x y : Opd} {os : List AOper} : A4 P md lw gs (⟨d, .bin op x y, some (t, want)⟩ :: os) K ⟨e, n, H⟩ = guardK want (AE P d (.bin op x y) (A4 P md lw gs os K) ⟨e, n, H⟩) (A4 P md lw gs os K ⟨AB e d .und, n, H⟩) (get e t) := by
 show (match get e t with | .bool b => _ | .und => _ | _ => False) = _
 cases get e t <;> rfl
theorem NU {md : Mode} {lw : Nat} {gs : List Nat} {t : Nat} {want : Bool} {d : Option Nat} {ks : List FK} {neg : Bool} {x y : Opd} {os : List AOper} : A4 P md lw gs (⟨d, .eqs ks neg x y, some (t, want)⟩ :: os) K ⟨e, n, H⟩ = guardK want (AE P d (.eqs ks neg x y) (A4 P md lw gs os K) ⟨e, n, H⟩) (A4 P md lw gs os K ⟨AB e d .und, n, H⟩) (get e t) := by
 show (match get e t with | .bool b => _ | .und => _ | _ => False) = _
 cases get e t <;> rfl
theorem MY {md : Mode} {lw : Nat} {gs : List Nat} {t : Nat} {want : Bool} {d : Option Nat} {neg : Bool} {x y : Opd} {os : List AOper} : A4 P md lw gs (⟨d, .eqb neg x y, some (t, want)⟩ :: os) K ⟨e, n, H⟩ = guardK want (AE P d (.eqb neg x y) (A4 P md lw gs os K) ⟨e, n, H⟩) (A4 P md lw gs os K ⟨AB e d .und, n, H⟩) (get e t) := by
 show (match get e t with | .bool b => _ | .und => _ | _ => False) = _
 cases get e t <;> rfl
theorem Mh {md : Mode} {lw : Nat} {gs : List Nat} {t : Nat} {want : Bool} {d : Option Nat} {neg : Bool} {x : Opd} {os : List AOper} : A4 P md lw gs (⟨d, .eqn neg x, some (t, want)⟩ :: os) K ⟨e, n, H⟩ = guardK want (AE P d (.eqn neg x) (A4 P md lw gs os K) ⟨e, n, H⟩) (A4 P md lw gs os K ⟨AB e d .und, n, H⟩) (get e t) := by
 show (match get e t with | .bool b => _ | .und => _ | _ => False) = _
 cases get e t <;> rfl
theorem MU {md : Mode} {lw : Nat} {gs : List Nat} {t : Nat} {want : Bool} {d : Option Nat} {neg : Bool} {x : Opd} {os : List AOper} : A4 P md lw gs (⟨d, .eqp neg x, some (t, want)⟩ :: os) K ⟨e, n, H⟩ = guardK want (AE P d (.eqp neg x) (A4 P md lw gs os K) ⟨e, n, H⟩) (A4 P md lw gs os K ⟨AB e d .und, n, H⟩) (get e t) := by
 show (match get e t with | .bool b => _ | .und => _ | _ => False) = _
 cases get e t <;> rfl
theorem Mj {md : Mode} {lw : Nat} {gs : List Nat} {t : Nat} {want : Bool} {d : Option Nat} {neg : Bool} {x : Opd} {os : List AOper} : A4 P md lw gs (⟨d, .eqi neg x, some (t, want)⟩ :: os) K ⟨e, n, H⟩ = guardK want (AE P d (.eqi neg x) (A4 P md lw gs os K) ⟨e, n, H⟩) (A4 P md lw gs os K ⟨AB e d .und, n, H⟩) (get e t) := by
 show (match get e t with | .bool b => _ | .und => _ | _ => False) = _
 cases get e t <;> rfl
theorem MN {md : Mode} {lw : Nat} {gs : List Nat} {t : Nat} {want : Bool} {d : Option Nat} {x : Opd} {os : List AOper} : A4 P md lw gs (⟨d, .neg x, some (t, want)⟩ :: os) K ⟨e, n, H⟩ = guardK want (AE P d (.neg x) (A4 P md lw gs os K) ⟨e, n, H⟩) (A4 P md lw gs os K ⟨AB e d .und, n, H⟩) (get e t) := by
 show (match get e t with | .bool b => _ | .und => _ | _ => False) = _
 cases get e t <;> rfl
theorem ML {md : Mode} {lw : Nat} {gs : List Nat} {t : Nat} {want : Bool} {d : Option Nat} {x : Opd} {os : List AOper} : A4 P md lw gs (⟨d, .not x, some (t, want)⟩ :: os) K ⟨e, n, H⟩ = guardK want (AE P d (.not x) (A4 P md lw gs os K) ⟨e, n, H⟩) (A4 P md lw gs os K ⟨AB e d .und, n, H⟩) (get e t) := by
 show (match get e t with | .bool b => _ | .und => _ | _ => False) = _
 cases get e t <;> rfl
theorem Nf {md : Mode} {lw : Nat} {gs : List Nat} {t : Nat} {want : Bool} {d : Option Nat} {k : IntKind} {x : Opd} {os : List AOper} : A4 P md lw gs (⟨d, .cvi k x, some (t, want)⟩ :: os) K ⟨e, n, H⟩ = guardK want (AE P d (.cvi k x) (A4 P md lw gs os K) ⟨e, n, H⟩) (A4 P md lw gs os K ⟨AB e d .und, n, H⟩) (get e t) := by
 show (match get e t with | .bool b => _ | .und => _ | _ => False) = _
 cases get e t <;> rfl
theorem MK {md : Mode} {lw : Nat} {gs : List Nat} {t : Nat} {want : Bool} {d : Option Nat} {sz : Nat} {x : Opd} {lo hi : Option Opd} {os : List AOper} : A4 P md lw gs (⟨d, .cut sz x lo hi, some (t, want)⟩ :: os) K ⟨e, n, H⟩ = guardK want (AE P d (.cut sz x lo hi) (A4 P md lw gs os K) ⟨e, n, H⟩) (A4 P md lw gs os K ⟨AB e d .und, n, H⟩) (get e t) := by
 show (match get e t with | .bool b => _ | .und => _ | _ => False) = _
 cases get e t <;> rfl
theorem M9 {md : Mode} {lw : Nat} {gs : List Nat} {t : Nat} {want : Bool} {d : Option Nat} {x : Opd} {lo hi : Option Opd} {os : List AOper} : A4 P md lw gs (⟨d, .cutS x lo hi, some (t, want)⟩ :: os) K ⟨e, n, H⟩ = guardK want (AE P d (.cutS x lo hi) (A4 P md lw gs os K) ⟨e, n, H⟩) (A4 P md lw gs os K ⟨AB e d .und, n, H⟩) (get e t) := by
 show (match get e t with | .bool b => _ | .und => _ | _ => False) = _
 cases get e t <;> rfl
theorem MQ {md : Mode} {lw : Nat} {gs : List Nat} {t : Nat} {want : Bool} {d : Option Nat} {x : Opd} {off : Nat} {s : Ar} {os : List AOper} : A4 P md lw gs (⟨d, .faddr x off s, some (t, want)⟩ :: os) K ⟨e, n, H⟩ = guardK want (AE P d (.faddr x off s) (A4 P md lw gs os K) ⟨e, n, H⟩) (A4 P md lw gs os K ⟨AB e d .und, n, H⟩) (get e t) := by
 show (match get e t with | .bool b => _ | .und => _ | _ => False) = _
 cases get e t <;> rfl
theorem NP {md : Mode} {lw : Nat} {gs : List Nat} {t : Nat} {want : Bool} {d : Option Nat} {x : Opd} {off : Nat} {s : Ar} {os : List AOper} : A4 P md lw gs (⟨d, .field x off s, some (t, want)⟩ :: os) K ⟨e, n, H⟩ = guardK want (AE P d (.field x off s) (A4 P md lw gs os K) ⟨e, n, H⟩) (A4 P md lw gs os K ⟨AB e d .und, n, H⟩) (get e t) := by
 show (match get e t with | .bool b => _ | .und => _ | _ => False) = _
 cases get e t <;> rfl
theorem Nn {md : Mode} {lw : Nat} {gs : List Nat} {t : Nat} {want : Bool} {d : Option Nat} {sz : Nat} {s : Ar} {x i : Opd} {os : List AOper} : A4 P md lw gs (⟨d, .iaddr sz s x i, some (t, want)⟩ :: os) K ⟨e, n, H⟩ = guardK want (AE P d (.iaddr sz s x i) (A4 P md lw gs os K) ⟨e, n, H⟩) (A4 P md lw gs os K ⟨AB e d .und, n, H⟩) (get e t) := by
 show (match get e t with | .bool b => _ | .und => _ | _ => False) = _
 cases get e t <;> rfl
theorem Mn {md : Mode} {lw : Nat} {gs : List Nat} {t : Nat} {want : Bool} {d : Option Nat} {len sz : Nat} {s : Ar} {x i : Opd} {os : List AOper} : A4 P md lw gs (⟨d, .aaddr len sz s x i, some (t, want)⟩ :: os) K ⟨e, n, H⟩ = guardK want (AE P d (.aaddr len sz s x i) (A4 P md lw gs os K) ⟨e, n, H⟩) (A4 P md lw gs os K ⟨AB e d .und, n, H⟩) (get e t) := by
 show (match get e t with | .bool b => _ | .und => _ | _ => False) = _
 cases get e t <;> rfl
theorem Ms {md : Mode} {lw : Nat} {gs : List Nat} {t : Nat} {want : Bool} {d : Option Nat} {x i : Opd} {os : List AOper} : A4 P md lw gs (⟨d, .sidx x i, some (t, want)⟩ :: os) K ⟨e, n, H⟩ = guardK want (AE P d (.sidx x i) (A4 P md lw gs os K) ⟨e, n, H⟩) (A4 P md lw gs os K ⟨AB e d .und, n, H⟩) (get e t) := by
 show (match get e t with | .bool b => _ | .und => _ | _ => False) = _
 cases get e t <;> rfl
theorem Np {md : Mode} {lw : Nat} {gs : List Nat} {t : Nat} {want : Bool} {d : Option Nat} {len sz : Nat} {s : Ar} {x i : Opd} {os : List AOper} : A4 P md lw gs (⟨d, .aidx len sz s x i, some (t, want)⟩ :: os) K ⟨e, n, H⟩ = guardK want (AE P d (.aidx len sz s x i) (A4 P md lw gs os K) ⟨e, n, H⟩) (A4 P md lw gs os K ⟨AB e d .und, n, H⟩) (get e t) := by
 show (match get e t with | .bool b => _ | .und => _ | _ => False) = _
 cases get e t <;> rfl
theorem MB {md : Mode} {lw : Nat} {gs : List Nat} {t : Nat} {want : Bool} {d : Option Nat} {x : Opd} {os : List AOper} : A4 P md lw gs (⟨d, .len x, some (t, want)⟩ :: os) K ⟨e, n, H⟩ = guardK want (AE P d (.len x) (A4 P md lw gs os K) ⟨e, n, H⟩) (A4 P md lw gs os K ⟨AB e d .und, n, H⟩) (get e t) := by
 show (match get e t with | .bool b => _ | .und => _ | _ => False) = _
 cases get e t <;> rfl
theorem Mi {md : Mode} {lw : Nat} {gs : List Nat} {t : Nat} {want : Bool} {d : Option Nat} {x : Opd} {os : List AOper} : A4 P md lw gs (⟨d, .lenS x, some (t, want)⟩ :: os) K ⟨e, n, H⟩ = guardK want (AE P d (.lenS x) (A4 P md lw gs os K) ⟨e, n, H⟩) (A4 P md lw gs os K ⟨AB e d .und, n, H⟩) (get e t) := by
 show (match get e t with | .bool b => _ | .und => _ | _ => False) = _
 cases get e t <;> rfl
theorem M8 {md : Mode} {lw : Nat} {gs : List Nat} {t : Nat} {want : Bool} {d : Option Nat} {x : Opd} {i : Nat} {os : List AOper} : A4 P md lw gs (⟨d, .extr x i, some (t, want)⟩ :: os) K ⟨e, n, H⟩ = guardK want (AE P d (.extr x i) (A4 P md lw gs os K) ⟨e, n, H⟩) (A4 P md lw gs os K ⟨AB e d .und, n, H⟩) (get e t) := by
 show (match get e t with | .bool b => _ | .und => _ | _ => False) = _
 cases get e t <;> rfl
theorem NA {md : Mode} {lw : Nat} {gs : List Nat} {t : Nat} {want : Bool} {d : Option Nat} {z : List AV} {ps : List (Nat × Ar × Opd)} {os : List AOper} : A4 P md lw gs (⟨d, .build z ps, some (t, want)⟩ :: os) K ⟨e, n, H⟩ = guardK want (AE P d (.build z ps) (A4 P md lw gs os K) ⟨e, n, H⟩) (A4 P md lw gs os K ⟨AB e d .und, n, H⟩) (get e t) := by
 show (match get e t with | .bool b => _ | .und => _ | _ => False) = _
 cases get e t <;> rfl
theorem F2 {md : Mode} {lw : Nat} {gs : List Nat} {t : Nat} {want : Bool} {d : Option Nat} {mx : Bool} {x y : Opd} {os : List AOper} : A4 P md lw gs (⟨d, .mm mx x y, some (t, want)⟩ :: os) K ⟨e, n, H⟩ = guardK want (AE P d (.mm mx x y) (A4 P md lw gs os K) ⟨e, n, H⟩) (A4 P md lw gs os K ⟨AB e d .und, n, H⟩) (get e t) := by
 show (match get e t with | .bool b => _ | .und => _ | _ => False) = _
 cases get e t <;> rfl
theorem NG {md : Mode} {lw : Nat} {gs : List Nat} {t : Nat} {want : Bool} {d : Option Nat} {sh : Ar} {x : Opd} {os : List AOper} : A4 P md lw gs (⟨d, .load sh x, some (t, want)⟩ :: os) K ⟨e, n, H⟩ = guardK want (KS (Am (AZ gs (hM md H)) sh (ev e x)) d (A4 P md lw gs os K) e n H) (A4 P md lw gs os K ⟨AB e d .und, n, H⟩) (get e t) := by
 show K1 (Kw gs sh x (some (t, want)) e (hM md H)) _ = _
 unfold Kw
 simp only
 cases get e t <;> try rfl
 rename_i b
 simp only [guardK, eq_iff_iff]
 by_cases hb : b = want
 ·rw [if_pos hb]
  exact ⟨fun h => ⟨fun _ => h, fun hne => absurd hb hne⟩, fun h => h.1 hb⟩
 ·rw [if_neg hb]
  exact ⟨fun h => ⟨fun he => absurd he hb, fun _ => h⟩, fun h => h.2 hb⟩
theorem FC {md : Mode} {lw : Nat} {gs : List Nat} {d : Option Nat} {x : Opd} {os : List AOper} : A4 P md lw gs (⟨d, .mv x, none⟩ :: os) K ⟨e, n, H⟩ = AE P d (.mv x) (A4 P md lw gs os K) ⟨e, n, H⟩ := rfl
theorem MA {md : Mode} {lw : Nat} {gs : List Nat} {d : Option Nat} {c a b : Opd} {os : List AOper} : A4 P md lw gs (⟨d, .pick c a b, none⟩ :: os) K ⟨e, n, H⟩ = AE P d (.pick c a b) (A4 P md lw gs os K) ⟨e, n, H⟩ := rfl
theorem NB {md : Mode} {lw : Nat} {gs : List Nat} {d : Option Nat} {op : BinOp} {x y : Opd} {os : List AOper} : A4 P md lw gs (⟨d, .bin op x y, none⟩ :: os) K ⟨e, n, H⟩ = AE P d (.bin op x y) (A4 P md lw gs os K) ⟨e, n, H⟩ := rfl
theorem No {md : Mode} {lw : Nat} {gs : List Nat} {d : Option Nat} {ks : List FK} {neg : Bool} {x y : Opd} {os : List AOper} : A4 P md lw gs (⟨d, .eqs ks neg x y, none⟩ :: os) K ⟨e, n, H⟩ = AE P d (.eqs ks neg x y) (A4 P md lw gs os K) ⟨e, n, H⟩ := rfl
theorem NL {md : Mode} {lw : Nat} {gs : List Nat} {d : Option Nat} {neg : Bool} {x y : Opd} {os : List AOper} : A4 P md lw gs (⟨d, .eqb neg x y, none⟩ :: os) K ⟨e, n, H⟩ = AE P d (.eqb neg x y) (A4 P md lw gs os K) ⟨e, n, H⟩ := rfl
theorem NF {md : Mode} {lw : Nat} {gs : List Nat} {d : Option Nat} {neg : Bool} {x : Opd} {os : List AOper} : A4 P md lw gs (⟨d, .eqn neg x, none⟩ :: os) K ⟨e, n, H⟩ = AE P d (.eqn neg x) (A4 P md lw gs os K) ⟨e, n, H⟩ := rfl
theorem NX {md : Mode} {lw : Nat} {gs : List Nat} {d : Option Nat} {neg : Bool} {x : Opd} {os : List AOper} : A4 P md lw gs (⟨d, .eqp neg x, none⟩ :: os) K ⟨e, n, H⟩ = AE P d (.eqp neg x) (A4 P md lw gs os K) ⟨e, n, H⟩ := rfl
theorem N2 {md : Mode} {lw : Nat} {gs : List Nat} {d : Option Nat} {neg : Bool} {x : Opd} {os : List AOper} : A4 P md lw gs (⟨d, .eqi neg x, none⟩ :: os) K ⟨e, n, H⟩ = AE P d (.eqi neg x) (A4 P md lw gs os K) ⟨e, n, H⟩ := rfl
theorem NK {md : Mode} {lw : Nat} {gs : List Nat} {d : Option Nat} {x : Opd} {os : List AOper} : A4 P md lw gs (⟨d, .neg x, none⟩ :: os) K ⟨e, n, H⟩ = AE P d (.neg x) (A4 P md lw gs os K) ⟨e, n, H⟩ := rfl
theorem Mp {md : Mode} {lw : Nat} {gs : List Nat} {d : Option Nat} {x : Opd} {os : List AOper} : A4 P md lw gs (⟨d, .not x, none⟩ :: os) K ⟨e, n, H⟩ = AE P d (.not x) (A4 P md lw gs os K) ⟨e, n, H⟩ := rfl
theorem MH {md : Mode} {lw : Nat} {gs : List Nat} {d : Option Nat} {k : IntKind} {x : Opd} {os : List AOper} : A4 P md lw gs (⟨d, .cvi k x, none⟩ :: os) K ⟨e, n, H⟩ = AE P d (.cvi k x) (A4 P md lw gs os K) ⟨e, n, H⟩ := rfl
theorem MC {md : Mode} {lw : Nat} {gs : List Nat} {d : Option Nat} {f : Nat} {fst cap : List Opd} {os : List AOper} : A4 P md lw gs (⟨d, .mkfn f fst cap, none⟩ :: os) K ⟨e, n, H⟩ = AE P d (.mkfn f fst cap) (A4 P md lw gs os K) ⟨e, n, H⟩ := rfl
theorem Nh {md : Mode} {lw : Nat} {gs : List Nat} {d : Option Nat} {sz : Nat} {x : Opd} {lo hi : Option Opd} {os : List AOper} : A4 P md lw gs (⟨d, .cut sz x lo hi, none⟩ :: os) K ⟨e, n, H⟩ = AE P d (.cut sz x lo hi) (A4 P md lw gs os K) ⟨e, n, H⟩ := rfl
theorem MF {md : Mode} {lw : Nat} {gs : List Nat} {d : Option Nat} {x : Opd} {lo hi : Option Opd} {os : List AOper} : A4 P md lw gs (⟨d, .cutS x lo hi, none⟩ :: os) K ⟨e, n, H⟩ = AE P d (.cutS x lo hi) (A4 P md lw gs os K) ⟨e, n, H⟩ := rfl
theorem N6 {md : Mode} {lw : Nat} {gs : List Nat} {d : Option Nat} {x : Opd} {off : Nat} {s : Ar} {os : List AOper} : A4 P md lw gs (⟨d, .faddr x off s, none⟩ :: os) K ⟨e, n, H⟩ = AE P d (.faddr x off s) (A4 P md lw gs os K) ⟨e, n, H⟩ := rfl
theorem NC {md : Mode} {lw : Nat} {gs : List Nat} {d : Option Nat} {x : Opd} {off : Nat} {s : Ar} {os : List AOper} : A4 P md lw gs (⟨d, .field x off s, none⟩ :: os) K ⟨e, n, H⟩ = AE P d (.field x off s) (A4 P md lw gs os K) ⟨e, n, H⟩ := rfl
theorem NM {md : Mode} {lw : Nat} {gs : List Nat} {d : Option Nat} {sz : Nat} {s : Ar} {x i : Opd} {os : List AOper} : A4 P md lw gs (⟨d, .iaddr sz s x i, none⟩ :: os) K ⟨e, n, H⟩ = AE P d (.iaddr sz s x i) (A4 P md lw gs os K) ⟨e, n, H⟩ := rfl
theorem MG {md : Mode} {lw : Nat} {gs : List Nat} {d : Option Nat} {len sz : Nat} {s : Ar} {x i : Opd} {os : List AOper} : A4 P md lw gs (⟨d, .aaddr len sz s x i, none⟩ :: os) K ⟨e, n, H⟩ = AE P d (.aaddr len sz s x i) (A4 P md lw gs os K) ⟨e, n, H⟩ := rfl
theorem NN {md : Mode} {lw : Nat} {gs : List Nat} {d : Option Nat} {x i : Opd} {os : List AOper} : A4 P md lw gs (⟨d, .sidx x i, none⟩ :: os) K ⟨e, n, H⟩ = AE P d (.sidx x i) (A4 P md lw gs os K) ⟨e, n, H⟩ := rfl
theorem NZ {md : Mode} {lw : Nat} {gs : List Nat} {d : Option Nat} {len sz : Nat} {s : Ar} {x i : Opd} {os : List AOper} : A4 P md lw gs (⟨d, .aidx len sz s x i, none⟩ :: os) K ⟨e, n, H⟩ = AE P d (.aidx len sz s x i) (A4 P md lw gs os K) ⟨e, n, H⟩ := rfl
theorem MO {md : Mode} {lw : Nat} {gs : List Nat} {d : Option Nat} {x : Opd} {os : List AOper} : A4 P md lw gs (⟨d, .len x, none⟩ :: os) K ⟨e, n, H⟩ = AE P d (.len x) (A4 P md lw gs os K) ⟨e, n, H⟩ := rfl
theorem Mm {md : Mode} {lw : Nat} {gs : List Nat} {d : Option Nat} {x : Opd} {os : List AOper} : A4 P md lw gs (⟨d, .lenS x, none⟩ :: os) K ⟨e, n, H⟩ = AE P d (.lenS x) (A4 P md lw gs os K) ⟨e, n, H⟩ := rfl
theorem ND {md : Mode} {lw : Nat} {gs : List Nat} {d : Option Nat} {j : Nat} {os : List AOper} : A4 P md lw gs (⟨d, .clen j, none⟩ :: os) K ⟨e, n, H⟩ = AE P d (.clen j) (A4 P md lw gs os K) ⟨e, n, H⟩ := rfl
theorem Nk {md : Mode} {lw : Nat} {gs : List Nat} {d : Option Nat} {x : Opd} {i : Nat} {os : List AOper} : A4 P md lw gs (⟨d, .extr x i, none⟩ :: os) K ⟨e, n, H⟩ = AE P d (.extr x i) (A4 P md lw gs os K) ⟨e, n, H⟩ := rfl
theorem NR {md : Mode} {lw : Nat} {gs : List Nat} {d : Option Nat} {x : Opd} {os : List AOper} : A4 P md lw gs (⟨d, .nilck x, none⟩ :: os) K ⟨e, n, H⟩ = AE P d (.nilck x) (A4 P md lw gs os K) ⟨e, n, H⟩ := rfl
theorem NI {md : Mode} {lw : Nat} {gs : List Nat} {d : Option Nat} {z : List AV} {ps : List (Nat × Ar × Opd)} {os : List AOper} : A4 P md lw gs (⟨d, .build z ps, none⟩ :: os) K ⟨e, n, H⟩ = AE P d (.build z ps) (A4 P md lw gs os K) ⟨e, n, H⟩ := rfl
theorem Eu {md : Mode} {lw : Nat} {gs : List Nat} {d : Option Nat} {mx : Bool} {x y : Opd} {os : List AOper} : A4 P md lw gs (⟨d, .mm mx x y, none⟩ :: os) K ⟨e, n, H⟩ = AE P d (.mm mx x y) (A4 P md lw gs os K) ⟨e, n, H⟩ := rfl
theorem NJ {md : Mode} {lw : Nat} {gs : List Nat} {d : Option Nat} {x : Opd} {os : List AOper} : A4 P md lw gs (⟨d, .b2s x, none⟩ :: os) K ⟨e, n, H⟩ = AE P d (.b2s x) (A4 P md lw gs os K) ⟨e, n, H⟩ := rfl
theorem Mv {md : Mode} {lw : Nat} {gs : List Nat} {d : Option Nat} {x : Opd} {os : List AOper} : A4 P md lw gs (⟨d, .r2s x, none⟩ :: os) K ⟨e, n, H⟩ = AE P d (.r2s x) (A4 P md lw gs os K) ⟨e, n, H⟩ := rfl
theorem MX {md : Mode} {lw : Nat} {gs : List Nat} {d : Option Nat} {x : Opd} {os : List AOper} : A4 P md lw gs (⟨d, .upc x, none⟩ :: os) K ⟨e, n, H⟩ = AE P d (.upc x) (A4 P md lw gs os K) ⟨e, n, H⟩ := rfl
theorem NE {md : Mode} {lw : Nat} {gs : List Nat} {d : Option Nat} {neg : Bool} {x y : Opd} {os : List AOper} : A4 P md lw gs (⟨d, .eqpp neg x y, none⟩ :: os) K ⟨e, n, H⟩ = AE P d (.eqpp neg x y) (A4 P md lw gs os K) ⟨e, n, H⟩ := rfl
theorem Me {md : Mode} {lw : Nat} {gs : List Nat} {d : Option Nat} {u : TypeId} {x : Opd} {os : List AOper} : A4 P md lw gs (⟨d, .updn u x, none⟩ :: os) K ⟨e, n, H⟩ = AE P d (.updn u x) (A4 P md lw gs os K) ⟨e, n, H⟩ := rfl
theorem Mb {md : Mode} {lw : Nat} {gs : List Nat} {d : Option Nat} {el : TypeId} {x : Opd} {os : List AOper} : A4 P md lw gs (⟨d, .usd el x, none⟩ :: os) K ⟨e, n, H⟩ = AE P d (.usd el x) (A4 P md lw gs os K) ⟨e, n, H⟩ := rfl
theorem NT {md : Mode} {lw : Nat} {gs : List Nat} {d : Option Nat} {el : TypeId} {x j : Opd} {os : List AOper} : A4 P md lw gs (⟨d, .ust el x j, none⟩ :: os) K ⟨e, n, H⟩ = AE P d (.ust el x j) (A4 P md lw gs os K) ⟨e, n, H⟩ := rfl
theorem MI {md : Mode} {lw : Nat} {gs : List Nat} {d : Option Nat} {el : TypeId} {sh : Ar} {x : Opd} {os : List AOper} : A4 P md lw gs (⟨d, .box el sh x, none⟩ :: os) K ⟨e, n, H⟩ = ((ev e x).fits sh = true ∧ ones (ev e x).cells ∧ Lg md lw (.cells el (ev e x).cells) d (A4 P md lw gs os K) e n H) := rfl
theorem NS {md : Mode} {lw : Nat} {gs : List Nat} {d : Option Nat} {el : TypeId} {s : Ar} {xs : List Opd} {os : List AOper} : A4 P md lw gs (⟨d, .bsl el s xs, none⟩ :: os) K ⟨e, n, H⟩ = (GN s (xs.map (ev e)) ∧ T3 md lw (Ao s) (xs.map (ev e)) (.row el xs.length) d (A4 P md lw gs os K) e n H) := by
 have h : GN s (xs.map (ev e)) = (∀ x ∈ xs, (ev e x).fits s = true ∧ ones (ev e x).cells) := by simp [GN, BA]
 rw [h]; rfl
theorem Md {md : Mode} {lw : Nat} {gs : List Nat} {d : Option Nat} {el sz by_ : Nat} {x y : Opd} {os : List AOper} : A4 P md lw gs (⟨d, .app el sz by_ x y, none⟩ :: os) K ⟨e, n, H⟩ = freeM md lw ⟨e, n, H⟩ (Ki gs (ev e x) ∧ appKS el sz by_ d (KM gs H (A4 P md lw gs os K)) ⟨e, n, H⟩ (ev e x) (ev e y)) := rfl
theorem KN {lo : Nat} {s : AS} {A : Prop} : freeM .plain lo s A = A := rfl
theorem JY {lo : Nat} {s : AS} {A : Prop} : freeM .late lo s A = A := rfl
theorem IB {q lo : Nat} {s : AS} {A : Prop} : freeM (.last q) lo s A = A := rfl
theorem KM.of {gs : List Nat} {H : A2} {s : AS} (h : K s) : KM gs H K s := fun _ => h
theorem KC.of {gs : List Nat} {H : A2} {s : AS} (h : KeepM gs H s.H) (h' : K s) : KC gs H K s := ⟨h, h'⟩
theorem KF {gs : List Nat} {z : Nat} {l : List AV} {t : Tok} : Ki gs (.sl z l t) = True := rfl
theorem Jn {gs : List Nat} {z g k : Nat} : Ki gs (.slg z g k) = (g ∈ gs) := rfl
theorem Mt {md : Mode} {lw : Nat} {gs : List Nat} {d : Option Nat} {el by_ : Nat} {x y : Opd} {os : List AOper} : A4 P md lw gs (⟨d, .appB el by_ x y, none⟩ :: os) K ⟨e, n, H⟩ = AE P d (.appB el by_ x y) (A4 P md lw gs os K) ⟨e, n, H⟩ := rfl
theorem ME {md : Mode} {lw : Nat} {gs : List Nat} {d : Option Nat} {el : TypeId} {x : Opd} {os : List AOper} : A4 P md lw gs (⟨d, .s2b el x, none⟩ :: os) K ⟨e, n, H⟩ = AE P d (.s2b el x) (A4 P md lw gs os K) ⟨e, n, H⟩ := rfl
theorem MJ {md : Mode} {lw : Nat} {gs : List Nat} {d : Option Nat} {x : Opd} {os : List AOper} : A4 P md lw gs (⟨d, .s2s x, none⟩ :: os) K ⟨e, n, H⟩ = AE P d (.s2s x) (A4 P md lw gs os K) ⟨e, n, H⟩ := rfl
theorem N8 {md : Mode} {lw : Nat} {gs : List Nat} {d : Option Nat} {kk : Option IntKind} {os : List AOper} : A4 P md lw gs (⟨d, .mkmap kk, none⟩ :: os) K ⟨e, n, H⟩ = AE P d (.mkmap kk) (A4 P md lw gs os K) ⟨e, n, H⟩ := rfl
theorem Nm {md : Mode} {lw : Nat} {gs : List Nat} {d : Option Nat} {kk : Option IntKind} {m k v : Opd} {os : List AOper} : A4 P md lw gs (⟨d, .mset kk m k v, none⟩ :: os) K ⟨e, n, H⟩ = AE P d (.mset kk m k v) (A4 P md lw gs os K) ⟨e, n, H⟩ := rfl
theorem MV {md : Mode} {lw : Nat} {gs : List Nat} {d : Option Nat} {kk : Option IntKind} {z : AV} {ok : Bool} {m k : Opd} {os : List AOper} : A4 P md lw gs (⟨d, .mget kk z ok m k, none⟩ :: os) K ⟨e, n, H⟩ = KS (Ch (AZ gs H) kk z ok (ev e m) (ev e k)) d (A4 P md lw gs os K) e n H := rfl
theorem NQ {md : Mode} {lw : Nat} {gs : List Nat} {d : Option Nat} {f : Nat} {xs : List Opd} {os : List AOper} : A4 P md lw gs (⟨d, .call f xs, none⟩ :: os) K ⟨e, n, H⟩ = exM P md lw gs d f (xs.map (ev e)) (A4 P md lw gs os K) ⟨e, n, H⟩ (CallK P f (xs.map (ev e)) d (KC gs H (A4 P md lw gs os K)) ⟨e, n, H⟩) := rfl
theorem JI {lo : Nat} {f : Nat} {args : List AV} {gs : List Nat} {d : Option Nat} {s : AS} {A : Prop} : exM P .plain lo gs d f args K s A = A := rfl
theorem Ie {lo : Nat} {f : Nat} {args : List AV} {gs : List Nat} {d : Option Nat} {s : AS} {A : Prop} : exM P .late lo gs d f args K s A = A := rfl
theorem KH {q : Nat} {lo : Nat} {f : Nat} {args : List AV} {gs : List Nat} {d : Option Nat} {s : AS} {A : Prop} : exM P (.last q) lo gs d f args K s A = A := rfl
theorem KP {lo : Nat} {f : Nat} {args : List AV} {gs : List Nat} {d : Option Nat} {s : AS} {A : Prop} : exM P .free lo gs d f args K s A = A := rfl
theorem NO {md : Mode} {lw : Nat} {gs : List Nat} {d : Option Nat} {f : Nat} {xs : List Opd} {os : List AOper} : A4 P md lw gs (⟨d, .callp f xs, none⟩ :: os) K ⟨e, n, H⟩ = AE P d (.callp f xs) (A4 P md lw gs os K) ⟨e, n, H⟩ := rfl
theorem Mo {md : Mode} {lw : Nat} {gs : List Nat} {d : Option Nat} {f : Opd} {xs : List Opd} {os : List AOper} : A4 P md lw gs (⟨d, .callv f xs, none⟩ :: os) K ⟨e, n, H⟩ = AE P d (.callv f xs) (A4 P md lw gs os K) ⟨e, n, H⟩ := rfl
theorem I6 {lo : Nat} {gs : List Nat} {x : Opd} {v : AV} : Gs .plain lo gs x v = True := rfl
theorem Jv {lo : Nat} {gs : List Nat} {x : Opd} {v : AV} : Gs .free lo gs x v = True := rfl
theorem Jd {lo : Nat} {gs : List Nat} {x : Opd} {v : AV} : Gs .refs lo gs x v = True := rfl
theorem J6 {lo : Nat} {gs : List Nat} {x : Opd} {v : AV} : Gs .early lo gs x v = True := rfl
theorem K5 {lo : Nat} {gs : List Nat} {x : Opd} {v : AV} : Gs .late lo gs x v = SL gs v := rfl
theorem Ji {lo : Nat} {gs : List Nat} {q i : Nat} {v : AV} : Gs (.last q) lo gs (.t i) v = ((i = q → S5 lo gs v) ∧ (i ≠ q → RW lo gs v)) := rfl
theorem Ii {lo : Nat} {gs : List Nat} {g o : Nat} : S5 lo gs (.ptr g o) = (g < lo ∧ g ∉ gs) := rfl
theorem JF {lo : Nat} {gs : List Nat} {g o : Nat} : RW lo gs (.ptr g o) = (lo ≤ g ∨ g ∈ gs) := rfl
theorem JA {gs : List Nat} {g o : Nat} : SL gs (.ptr g o) = (g ∈ gs) := rfl
theorem HM {a : Nat} {gs : List Nat} {H : A2} {k : Nat} : AZ (a :: gs) H k = if k = a then none else AZ gs H k := rfl
theorem K9 {H : A2} {k : Nat} : AZ [] H k = H k := rfl
theorem Fd {d : Option Nat} {x : Opd} : AE P d (.mv x) K ⟨e, n, H⟩ = KS (some (ev e x)) d K e n H := rfl
theorem Ng {d : Option Nat} {c a b : Opd} : AE P d (.pick c a b) K ⟨e, n, H⟩ = KS (match ev e c with | .bool t => some (if t then ev e a else ev e b) | _ => none) d K e n H := rfl
theorem Ew {d : Option Nat} {o : BinOp} {x y : Opd} : AE P d (.bin o x y) K ⟨e, n, H⟩ = KS (Cp o (ev e x) (ev e y)) d K e n H := rfl
theorem F1 {d : Option Nat} {ks : List FK} {ng : Bool} {x y : Opd} : AE P d (.eqs ks ng x y) K ⟨e, n, H⟩ = KS (I0 ks ng (ev e x) (ev e y)) d K e n H := rfl
theorem Ez {d : Option Nat} {ng : Bool} {x y : Opd} : AE P d (.eqb ng x y) K ⟨e, n, H⟩ = KS (Hd ng (ev e x) (ev e y)) d K e n H := rfl
theorem Es {d : Option Nat} {ng : Bool} {x : Opd} : AE P d (.eqn ng x) K ⟨e, n, H⟩ = KS (G4 ng (ev e x)) d K e n H := rfl
theorem Ep {d : Option Nat} {ng : Bool} {x : Opd} : AE P d (.eqp ng x) K ⟨e, n, H⟩ = KS ((CI (ev e x)).map (Qz ng)) d K e n H := rfl
theorem F8 {d : Option Nat} {ng : Bool} {x : Opd} : AE P d (.eqi ng x) K ⟨e, n, H⟩ = KS ((CP (ev e x)).map (Qz ng)) d K e n H := rfl
theorem Eq {d : Option Nat} {x : Opd} : AE P d (.neg x) K ⟨e, n, H⟩ = KS (HQ (ev e x)) d K e n H := rfl
theorem F7 {d : Option Nat} {x : Opd} : AE P d (.not x) K ⟨e, n, H⟩ = KS (Hu (ev e x)) d K e n H := rfl
theorem Ef {d : Option Nat} {k : IntKind} {x : Opd} : AE P d (.cvi k x) K ⟨e, n, H⟩ = KS (Hx k (ev e x)) d K e n H := rfl
theorem MS {d : Option Nat} {f : Nat} {a b : List Opd} : AE P d (.mkfn f a b) K ⟨e, n, H⟩ = KS (some (.fn f (a.map (ev e)) (b.map (ev e)))) d K e n H := rfl
theorem MR {d : Option Nat} {x : Opd} {lo hi : Option Opd} : AE P d (.cutS x lo hi) K ⟨e, n, H⟩ = KS (DM (ev e x) (lo.map (ev e)) (hi.map (ev e))) d K e n H := rfl
theorem Er {d : Option Nat} {sz : Nat} {x : Opd} {lo hi : Option Opd} : AE P d (.cut sz x lo hi) K ⟨e, n, H⟩ = KS (Fc sz (ev e x) (lo.map (ev e)) (hi.map (ev e))) d K e n H := rfl
theorem Jq {d : Option Nat} {x : Opd} {o : Nat} {s : Ar} : AE P d (.faddr x o s) K ⟨e, n, H⟩ = KS (Fo (ev e x) o s) d K e n H := rfl
theorem Ml {d : Option Nat} {x : Opd} {o : Nat} {s : Ar} : AE P d (.field x o s) K ⟨e, n, H⟩ = KS (DC (ev e x) o s) d K e n H := rfl
theorem NV {d : Option Nat} {sz : Nat} {s : Ar} {x i : Opd} : AE P d (.iaddr sz s x i) K ⟨e, n, H⟩ = KS (C6 sz s (ev e x) (ev e i)) d K e n H := rfl
theorem Nl {d : Option Nat} {l sz : Nat} {s : Ar} {x i : Opd} : AE P d (.aaddr l sz s x i) K ⟨e, n, H⟩ = KS (Fb l sz s (ev e x) (ev e i)) d K e n H := rfl
theorem MM {d : Option Nat} {x i : Opd} : AE P d (.sidx x i) K ⟨e, n, H⟩ = KS (Ea (ev e x) (ev e i)) d K e n H := rfl
theorem Mx {d : Option Nat} {l sz : Nat} {s : Ar} {x i : Opd} : AE P d (.aidx l sz s x i) K ⟨e, n, H⟩ = KS (EW l sz s (ev e x) (ev e i)) d K e n H := rfl
theorem El {d : Option Nat} {x : Opd} : AE P d (.len x) K ⟨e, n, H⟩ = KS (RE (ev e x)) d K e n H := rfl
theorem JG {d : Option Nat} {x : Opd} : AE P d (.lenS x) K ⟨e, n, H⟩ = KS (Eb (ev e x)) d K e n H := rfl
theorem N3 {d : Option Nat} {m : Nat} : AE P d (.clen m) K ⟨e, n, H⟩ = KS (some (.int .i64 m)) d K e n H := rfl
theorem Mc {d : Option Nat} {x : Opd} {i : Nat} : AE P d (.extr x i) K ⟨e, n, H⟩ = KS (Ee i (ev e x)) d K e n H := rfl
theorem JT {d : Option Nat} {x : Opd} : AE P d (.nilck x) K ⟨e, n, H⟩ = KS (DG (ev e x)) d K e n H := rfl
theorem Jp {d : Option Nat} {s : Ar} {x : Opd} : AE P d (.load s x) K ⟨e, n, H⟩ = KS (Am H s (ev e x)) d K e n H := rfl
theorem Nc {d : Option Nat} {z : List AV} {ps : List (Nat × Ar × Opd)} : AE P d (.build z ps) K ⟨e, n, H⟩ = KS (Cv z (ps.map fun (o, s, x) => (o, s, ev e x))) d K e n H := by
 have h : (ps.map fun (o, _, x) => (o, ev e x)) = (ps.map fun (o, s, x) => (o, s, ev e x)).map fun (o, _, x) => (o, x) := by rw [List.map_map]; rfl
 show K1 (if _ then some (.agg (EG z _)) else none) _ = _
 rw [h]; unfold KS Cv; split <;> rfl
theorem Gp {d : Option Nat} {mx : Bool} {x y : Opd} : AE P d (.mm mx x y) K ⟨e, n, H⟩ = KS (Su mx (ev e x) (ev e y)) d K e n H := rfl
theorem F5 {d : Option Nat} {x : Opd} : AE P d (.b2s x) K ⟨e, n, H⟩ = KS (Hc (ev e x)) d K e n H := rfl
theorem Ey {d : Option Nat} {x : Opd} : AE P d (.r2s x) K ⟨e, n, H⟩ = KS (HS (ev e x)) d K e n H := rfl
theorem Et {d : Option Nat} {x : Opd} : AE P d (.upc x) K ⟨e, n, H⟩ = KS (D7 H (ev e x)) d K e n H := rfl
theorem FA {d : Option Nat} {el : TypeId} {x : Opd} : AE P d (.usd el x) K ⟨e, n, H⟩ = KS (DB H el (ev e x)) d K e n H := rfl
theorem Ni {d : Option Nat} {ng : Bool} {x y : Opd} : AE P d (.eqpp ng x y) K ⟨e, n, H⟩ = KS (Ec ng (ev e x) (ev e y)) d K e n H := rfl
theorem N5 {d : Option Nat} {u : TypeId} {x : Opd} : AE P d (.updn u x) K ⟨e, n, H⟩ = KS (BY P H u (ev e x)) d K e n H := rfl
theorem F9 {d : Option Nat} {t : TypeId} {x m : Opd} : AE P d (.ust t x m) K ⟨e, n, H⟩ = KS (CY t (ev e x) (ev e m)) d K e n H := rfl
theorem N4 {d : Option Nat} {t : TypeId} {z : List AV} : AE P d (.alloc t z) K ⟨e, n, H⟩ = (ones z ∧ W2 (.cells t z) d K e n H) := rfl
theorem Ej {d : Option Nat} {t : TypeId} {sh : Ar} {x : Opd} : AE P d (.box t sh x) K ⟨e, n, H⟩ = ((BA sh (ev e x) ∧ W2 (.cells t (ev e x).cells) d K e n H)) := propext and_assoc.symm
theorem KI {d : Option Nat} {sh : Ar} {x v : Opd} : AE P d (.store sh x v) K ⟨e, n, H⟩ = C9 sh d K ⟨e, n, H⟩ (ev e v) (ev e x) := rfl
def YH (el sz : Nat) (l : List AV) (d : Option Nat) (K : AS → Prop) (e : AL) (n : Nat) (H : A2) : Prop := U6 sz l (.row el l.length) d K e n H ∨ ∀ g, n ≤ g → K ⟨AB e d (.slm sz g 0 l.length), g + 1, upd H g (some (.cells el (AD l)))⟩
theorem AQ {el sz : Nat} {l : List AV} {d : Option Nat} (h : U6 sz l (.row el l.length) d K e n H) : YH el sz l d K e n H := .inl h
theorem En {d : Option Nat} {t : TypeId} {sh : Ar} {xs : List Opd} : AE P d (.bsl t sh xs) K ⟨e, n, H⟩ = (GN sh (xs.map (ev e)) ∧ YH t (Ao sh) (xs.map (ev e)) d K e n H) := by
 have h : GN sh (xs.map (ev e)) = (∀ x ∈ xs, (ev e x).fits sh = true ∧ ones (ev e x).cells) := by simp [GN, BA]
 rw [h]
 unfold YH U6
 rw [List.length_map]; rfl
theorem Ek {d : Option Nat} {t sz b : Nat} {x y : Opd} : AE P d (.app t sz b x y) K ⟨e, n, H⟩ = appKS t sz b d K ⟨e, n, H⟩ (ev e x) (ev e y) := rfl
theorem JE {d : Option Nat} {t b : Nat} {x y : Opd} : AE P d (.appB t b x y) K ⟨e, n, H⟩ = Lm t b d K ⟨e, n, H⟩ (ev e x) (ev e y) := rfl
theorem Ev {d : Option Nat} {t : TypeId} {x : Opd} : AE P d (.s2b t x) K ⟨e, n, H⟩ = Hq d K e n H (ev e x) := rfl
theorem FB {d : Option Nat} {x : Opd} : AE P d (.s2s x) K ⟨e, n, H⟩ = Hs d K e n H (ev e x) := rfl
theorem My {d : Option Nat} {kk : Option IntKind} : AE P d (.mkmap kk) K ⟨e, n, H⟩ = ZO kk d K e n H := rfl
theorem MT {d : Option Nat} {kk : Option IntKind} {m k v : Opd} : AE P d (.mset kk m k v) K ⟨e, n, H⟩ = Cl kk d K ⟨e, n, H⟩ (ev e k) (ev e v) (ev e m) := rfl
def A01 (m : Nat) (o : Option AObj) (d : Option Nat) (K : AS → Prop) (e : AL) (n : Nat) (H : A2) : Prop := match o with
 | some (.map _ es) => ∀ g, n ≤ g → K ⟨AB e d (.ptr g 0), g + 1, upd H g (some (.iter m es.length (List.range es.length) none))⟩
 | _ => False
def Zj (g m len : Nat) (left : List Nat) (o : Option AObj) (d : Option Nat) (K : AS → Prop) (e : AL) (n : Nat) (H : A2) : Prop := match o with
 | some (.map _ es) => es.length = len ∧ (left = [] → K ⟨AB e d (.tup [.bool false]), n, H⟩) ∧ ∀ j ∈ left, ∀ k v, es[j]? = some (k, v) → K ⟨AB e d (.tup [.bool true, k, v]), n, upd H g (some (.iter m len (left.erase j) (some j)))⟩
 | _ => False
def Z7 (g : Nat) (o : Option AObj) (d : Option Nat) (K : AS → Prop) (e : AL) (n : Nat) (H : A2) : Prop := match o with
 | some (.iter m len left _) => Zj g m len left (H m) d K e n H
 | _ => False
theorem Jy {g m len : Nat} {left : List Nat} {cur d : Option Nat} : Z7 g (some (.iter m len left cur)) d K e n H = Zj g m len left (H m) d K e n H := rfl
theorem JC {m : Nat} {d : Option Nat} : Ol d K ⟨e, n, H⟩ (.mp m) = A01 m (H m) d K e n H := rfl
theorem K2 {g : Nat} {d : Option Nat} : Of d K ⟨e, n, H⟩ (.ptr g 0) = Z7 g (H g) d K e n H := propext ⟨fun h => h.2, fun h => ⟨rfl, h⟩⟩
def A02 (el : TypeId) (z : AV) (m : Nat) (d : Option Nat) (K : AS → Prop) (e : AL) (n : Nat) (H : A2) : Prop := ∀ g, n ≤ g → K ⟨AB e d (.slm 1 g 0 m), g + 1, upd H g (some (.cells el (List.replicate m z)))⟩
theorem Ij {el : TypeId} {b : Nat} {z : AV} {d : Option Nat} {k k' : IntKind} {p q : Int} : Kj el b z d K ⟨e, n, H⟩ (.int k p) (.int k' q) = (p = q ∧ 0 ≤ p ∧ (b : Int) * p ≤ 281474976710656 ∧ p ≤ maxLen ∧ A02 el z p.toNat d K e n H) := rfl
theorem Mg {d : Option Nat} {el : TypeId} {b : Nat} {z : AV} {x y : Opd} : AE P d (.mksl el b z x y) K ⟨e, n, H⟩ = Kj el b z d K ⟨e, n, H⟩ (ev e x) (ev e y) := rfl
theorem Ei {d : Option Nat} {x : Opd} : AE P d (.rng x) K ⟨e, n, H⟩ = Ol d K ⟨e, n, H⟩ (ev e x) := rfl
theorem Eg {d : Option Nat} {x : Opd} : AE P d (.nxt x) K ⟨e, n, H⟩ = Of d K ⟨e, n, H⟩ (ev e x) := rfl
theorem Eh {d : Option Nat} {x : Opd} : AE P d (.ent x) K ⟨e, n, H⟩ = KS (Fp H (ev e x)) d K e n H := rfl
theorem Mr {d : Option Nat} {kk : Option IntKind} {z : AV} {ok : Bool} {m k : Opd} : AE P d (.mget kk z ok m k) K ⟨e, n, H⟩ = KS (Ch H kk z ok (ev e m) (ev e k)) d K e n H := rfl
theorem IX {d : Option Nat} {f : Nat} {xs : List Opd} : AE P d (.call f xs) K ⟨e, n, H⟩ = CallK P f (xs.map (ev e)) d K ⟨e, n, H⟩ := rfl
theorem Mu {d : Option Nat} {f : Nat} {xs : List Opd} : AE P d (.callp f xs) K ⟨e, n, H⟩ = CallP P f (xs.map (ev e)) d K ⟨e, n, H⟩ := rfl
theorem Nq {d : Option Nat} {x : Opd} {xs : List Opd} : AE P d (.callv x xs) K ⟨e, n, H⟩ = Cb P d K e n H (xs.map (ev e)) (ev e x) := rfl
theorem VE {el sz by_ z z' : Nat} {d : Option Nat} {m m' : List AV} {t : Tok} (hz : z' = sz ∨ m = []) (hs : AC m m') (hm : m ≠ []) (hb : m.length * by_ ≤ 140737488355328) (hx : m.length ≤ maxLen) (h : ∀ g, n ≤ g → K ⟨AB e d (.sl sz m' (.own g)), g + 1, upd H g (some (.row el m'.length))⟩) : appKS el sz by_ d K ⟨e, n, H⟩ (.sl z [] .nil) (.sl z' m t) := by
 have hl := CZ hs
 exact ⟨hz, m', hs, by simpa [hl] using hb, by simpa [hl] using hx, fun h' => absurd h' (fun e => hm (List.length_eq_zero_iff.1 (by rw [hl, e]; rfl))), fun _ => .inl h⟩
theorem Nt {el sz by_ z z' : Nat} {d : Option Nat} {m m' : List AV} {t : Tok} (hz : z' = sz ∨ m = []) (hs : AC m m') (hm : m ≠ []) (hb : m.length * by_ ≤ 140737488355328) (hx : m.length ≤ maxLen) (h : ∀ g, n ≤ g → K ⟨AB e d (.slg sz g m'.length), g + 1, upd H g (some (.grow el (AD m')))⟩) : appKS el sz by_ d K ⟨e, n, H⟩ (.sl z [] .nil) (.sl z' m t) := by
 have hl := CZ hs
 exact ⟨hz, m', hs, by simpa [hl] using hb, by simpa [hl] using hx, fun h' => absurd h' (fun e => hm (List.length_eq_zero_iff.1 (by rw [hl, e]; rfl))), fun _ => .inr h⟩
theorem JL {el sz by_ g0 k z' : Nat} {d : Option Nat} {m m' cs : List AV} {t : Tok} (hz : z' = sz ∨ m = []) (hs : AC m m') (hr : H g0 = some (.grow el cs)) (hc : cs.length = k * sz) (hb : (k + m.length) * by_ ≤ 140737488355328) (hx : k + m.length ≤ maxLen) (h : ∀ g n', (g = g0 ∨ n ≤ g) → n ≤ n' → g < n' → K ⟨AB e d (.slg sz g (k + m'.length)), n', upd (upd H g0 none) g (some (.grow el (cs ++ AD m')))⟩) : appKS el sz by_ d K ⟨e, n, H⟩ (.slg sz g0 k) (.sl z' m t) := by
 have hl := CZ hs
 refine ⟨hz, m', hs, rfl, by rw [← hl]; exact hb, by rw [← hl]; exact hx, ?_⟩
 show Hl el sz by_ d K ⟨e, n, H⟩ g0 k m' (H g0)
 rw [hr]
 exact ⟨rfl, hc, h⟩
theorem VT {el sz by_ g0 z' : Nat} {d : Option Nat} {l m m' : List AV} {t : Tok} (hz : z' = sz ∨ m = []) (hs : AC m m') (hr : H g0 = some (.row el l.length)) (hb : (l.length + m.length) * by_ ≤ 140737488355328) (hx : l.length + m.length ≤ maxLen) (h : ∀ g n', (g = g0 ∨ n ≤ g) → n ≤ n' → g < n' → K ⟨AB e d (.sl sz (l ++ m') (.own g)), n', upd (upd H g0 none) g (some (.row el (l.length + m'.length)))⟩) : appKS el sz by_ d K ⟨e, n, H⟩ (.sl sz l (.own g0)) (.sl z' m t) := by
 have hl := CZ hs
 exact ⟨hz, m', hs, by rw [← hl]; exact hb, by rw [← hl]; exact hx, rfl, hr, h⟩
theorem K8 {X : AS → Prop} {s : AS} : DO X Q .normal s = X s := rfl
theorem I4 {X : AS → Prop} {s : AS} {i : Nat} : DO X Q (.exit i) s = Q (.exit i) s := rfl
theorem Io {X : AS → Prop} {s : AS} : DO X Q .ret s = Q .ret s := rfl
theorem Jh {id : Nat} {s : AS} : Dv id Q .normal s = Q .normal s := rfl
theorem Hy {id i : Nat} {s : AS} : Dv id Q (.exit i) s = if i = id then Q .normal s else Q (.exit i) s := rfl
theorem Ib {id : Nat} {s : AS} : Dv id Q .ret s = Q .ret s := rfl
end
/-! ### simp looks at what is known, not into what follows -/
section
variable {P : Program} {K : AS → Prop} {Q : AExit → AS → Prop} {d : Option Nat} {n : Nat}
end
abbrev zM (d s : Nat) : AOper := ⟨some d, .mv (.t s), none⟩
abbrev zL (d s : Nat) : AOper := ⟨some d, .load none (.t s), none⟩
abbrev zF (d s k : Nat) : AOper := ⟨some d, .faddr (.t s) k none, none⟩
abbrev zG (d k s : Nat) : AOper := ⟨some d, .load (some k) (.t s), none⟩
abbrev zX (d s k : Nat) : AOper := ⟨some d, .extr (.t s) k, none⟩
abbrev zI (d : Nat) (k : Int) : AOper := ⟨some d, .mv (.c (.int .i64 k)), none⟩
abbrev zB (d : Nat) (b : Bool) : AOper := ⟨some d, .mv (.c (.bool b)), none⟩
abbrev zS (k a b : Nat) : AOper := ⟨none, .store (some k) (.t a) (.t b), none⟩
abbrev zU (a b : Nat) : AOper := ⟨none, .store none (.t a) (.t b), none⟩
abbrev zP (d a b : Nat) : AOper := ⟨some d, .pick (.t a) (.t b) (.c (.bool false)), none⟩
abbrev zO (d a b : Nat) : AOper := ⟨some d, .pick (.t a) (.c (.bool true)) (.t b), none⟩
abbrev zV (d f a : Nat) : AOper := ⟨some d, .callp f [.t a], none⟩
abbrev zW (d f a b : Nat) : AOper := ⟨some d, .callp f [.t a, .t b], none⟩
abbrev zN (d s : Nat) : AOper := ⟨some d, .not (.t s), none⟩
abbrev zY (d s : Nat) : AOper := ⟨some d, .len (.t s), none⟩
abbrev zZ (d s : Nat) : AOper := ⟨some d, .nilck (.t s), none⟩
abbrev zH (d e k s : Nat) : AOper := ⟨some d, .box e (some k) (.t s), none⟩
abbrev zJ (d k a b : Nat) : AOper := ⟨some d, .iaddr k none (.t a) (.t b), none⟩
abbrev zD (d : Nat) (o : BinOp) (a b : Nat) : AOper := ⟨some d, .bin o (.t a) (.t b), none⟩
abbrev zE (d : Nat) (o : BinOp) (a : Nat) (k : Int) : AOper := ⟨some d, .bin o (.t a) (.c (.int .i64 k)), none⟩
end Go.Proofs.YtnfjgphfaemjcaaGreatDoor
