/- What is asked at a function's end, and how a function's contract comes of its code; no condition. -/
import Derived.Test.YtjdccdelcnmocaaGreatDoorMgC
set_option linter.all false
set_option linter.unusedSimpArgs false
set_option linter.unusedVariables false
namespace Go.Proofs.YtjdccdelcnmocaaGreatDoor
def FE (s : AS) : ARes → Option AV
 | .tmp t => some (get s.e t)
 | .cell t sh => Bu s.H sh (get s.e t)
def CF (s : AS) : List ARes → Option (List AV)
 | [] => some []
 | r :: rs => match FE s r, CF s rs with | some x, some xs => some (x :: xs) | _, _ => none
def Bt (s : AS) (rs : List ARes) : Option AV :=
 match CF s rs with
 | some [x] => some x
 | some xs => some (.tup xs)
 | none => none
def SameB (n : Nat) (H H' : A7) : Prop := ∀ k, k < n → H' k = H k
def OW (v : AV) (n : Nat) (H : A7) (res : List ARes) : AExit → AS → Prop
 | .normal, s | .ret, s => (∃ x, Bt s res = some x ∧ A4 x v) ∧ n ≤ s.n ∧ SameB n H s.H
 | _, _ => False
def fin (R : Bm) (n : Nat) (res : List ARes) : AExit → AS → Prop
 | .normal, s | .ret, s => ∃ r n' H', (∃ x, Bt s res = some x ∧ A4 x r) ∧ n ≤ n' ∧ n' ≤ s.n ∧ (∀ k, n' ≤ k → H' k = none) ∧ SameB n' H' s.H ∧ R r n' H'
 | _, _ => False
theorem SameB.rfl_ (n : Nat) (H : A7) : SameB n H H := fun _ _ => rfl
theorem AK {R : Bm} {n m : Nat} {res : List ARes} {e : AY} {H : A7} {r : AV} (h1 : Bt ⟨e, m, H⟩ res = some r) (h2 : n ≤ m) (h3 : ∀ k, m ≤ k → H k = none) (h4 : R r m H) : fin R n res .ret ⟨e, m, H⟩ :=
 ⟨r, m, H, ⟨r, h1, A1 _⟩, h2, Nat.le_refl _, h3, SameB.rfl_ _ _, h4⟩
theorem SameB.upd {n : Nat} {H H' : A7} (h : SameB n H H') {g : Nat} (hg : n ≤ g) (x : Option AObj) : SameB n H (upd H' g x) := fun k hk => by
 unfold Go.Proofs.YtjdccdelcnmocaaGreatDoor.upd; rw [if_neg (by omega)]; exact h k hk
theorem AO (H : A7) (g : Nat) (x : Option AObj) : upd H g x g = x := by simp [upd]
theorem upd_ne {H : A7} {g k : Nat} {x : Option AObj} (h : k ≠ g) : upd H g x k = H k := by simp [upd, h]
theorem Jk (H : A7) (g : Nat) (x y : Option AObj) : upd (upd H g x) g y = upd H g y := by funext k; simp only [upd]; split <;> rfl
def T0 (ng t : Bool) : AV := .bool (if ng then !t else t)
def Ju (ks : List FK) (ng : Bool) : AV → AV → Option AV
 | .agg a, .agg b => (DA ks a b).map (T0 ng)
 | _, _ => none
def KB (ng : Bool) : AV → AV → Option AV
 | .bool a, .bool b => some (.bool (if ng then !(a == b) else a == b))
 | _, _ => none
def JY : AV → Option AV | .int k n => some (.int k (k.wrap (0 - n))) | _ => none
def Jb : AV → Option AV | .bool b => some (.bool (!b)) | _ => none
def Js (k : IntKind) : AV → Option AV | .int _ n => some (.int k (k.wrap n)) | _ => none
def EN (x : AV) (o : Nat) (s : Bk) : Option AV := match x with | .agg cs => part cs o s | _ => none
def Gn : AV → AV → Option AV
 | .str s, .int _ j => if 0 ≤ j then (s[j.toNat]?).map fun b => .int .u8 b.toNat else none
 | _, _ => none
def Gs (len sz : Nat) (s : Bk) : AV → AV → Option AV
 | .agg cs, .int _ j => if 0 ≤ j ∧ j < len then part cs (j.toNat * sz) s else none
 | _, _ => none
def Us : AV → Option AV | .sl _ l _ => some (.int .i64 l.length) | .slm _ _ _ n => some (.int .i64 n) | .slg _ _ n => some (.int .i64 n) | _ => none
def Gi : AV → Option AV | .str s => some (.int .i64 s.length) | _ => none
def Gq (i : Nat) : AV → Option AV | .tup vs => vs[i]? | _ => none
def EW : AV → Option AV | .ptr g o => some (.ptr g o) | .ref x => some (.ref x) | .fn f a b => if a.isEmpty then some (.fn f a b) else none | _ => none
def Dk (z : List AV) (ps : List (Nat × Bk × AV)) : Option AV := if Hw z.length ps then some (.agg (HU z (ps.map fun (o, _, x) => (o, x)))) else none
def UR (mx : Bool) : AV → AV → Option AV
 | .int k a, .int k' b => if k = k' then some (.int k (if mx then max a b else min a b)) else none
 | _, _ => none
def K5 : AV → Option AV | .sl _ l _ => (bytesOf l).map .str | _ => none
def Jm : AV → Option AV | .int _ n => some (.str (Utf8.encode n).data.toList) | _ => none
def Gk (ng : Bool) : AV → AV → Option AV
 | .ptr g o, .ptr g' o' => if g = g' then some (.bool (if ng then !(decide (o = o')) else decide (o = o'))) else none
 | _, _ => none
def Ji (d : Option Nat) (K : AS → Prop) (e : AY) (n : Nat) (H : A7) : AV → Prop
 | .str b => b.length ≤ maxLen ∧ ∀ n', n ≤ n' → K ⟨AR e d (.sl 1 (b.map fun u => .int .u8 u.toNat) .ro), n', H⟩
 | _ => False
def K9 (d : Option Nat) (K : AS → Prop) (e : AY) (n : Nat) (H : A7) : AV → Prop
 | .sl sz l (.own g) => l ≠ [] ∧ K ⟨AR e d (.sl sz l .ro), n, upd H g none⟩
 | _ => False
def A1v (kk : Option IntKind) (d : Option Nat) (K : AS → Prop) (e : AY) (n : Nat) (H : A7) : Prop := ∀ g, n ≤ g → K ⟨AR e d (.mp g), g + 1, upd H g (some (.map kk []))⟩
def AL (P : Program) (d : Option Nat) (K : AS → Prop) (e : AY) (n : Nat) (H : A7) (xs : List AV) : AV → Prop
 | .fn f a b => An P f = true ∧ CallK P f (a ++ xs ++ b) d K ⟨e, n, H⟩
 | _ => False
def Ax (sh : Bk) (x : AV) : Prop := x.fits sh = true ∧ ones x.cells
def IV (sh : Bk) (l : List AV) : Prop := ∀ x ∈ l, Ax sh x
theorem MJ {sh : Bk} : IV sh [] = True := by simp [IV]
theorem Lj {sh : Bk} {x : AV} {l : List AV} : IV sh (x :: l) = (Ax sh x ∧ IV sh l) := by simp [IV]
theorem Lr {s : List UInt8} : Ax none (.str s) = True := by simp [Ax, AV.fits, ones, AV.cells, AV.one]
theorem Kz {k : IntKind} {i : Int} : Ax none (.int k i) = True := by simp [Ax, AV.fits, ones, AV.cells, AV.one]
theorem KG {b : Bool} : Ax none (.bool b) = True := by simp [Ax, AV.fits, ones, AV.cells, AV.one]
theorem Jg {z : Nat} {l : List AV} {t : Tok} : Ax none (.sl z l t) = True := by simp [Ax, AV.fits, ones, AV.cells, AV.one]
theorem OE {g o : Nat} : Ax none (.ptr g o) = True := by simp [Ax, AV.fits, ones, AV.cells, AV.one]
theorem LC : Ax none .np = True := by simp [Ax, AV.fits, ones, AV.cells, AV.one]
theorem Lx {x : AV} : Ax none (.ref x) = True := by simp [Ax, AV.fits, ones, AV.cells, AV.one]
theorem MZ {f : Nat} {a b : List AV} : Ax none (.fn f a b) = True := by simp [Ax, AV.fits, ones, AV.cells, AV.one]
theorem O6 : Ax none .nfn = True := by simp [Ax, AV.fits, ones, AV.cells, AV.one]
theorem No {t : Nat} {v : AV} : Ax none (.ifc t v) = True := by simp [Ax, AV.fits, ones, AV.cells, AV.one]
theorem L7 : Ax none .nif = True := by simp [Ax, AV.fits, ones, AV.cells, AV.one]
theorem LN {s : Nat} {cs : List AV} : Ax (some s) (.agg cs) = (cs.length = s ∧ ones cs) := by simp [Ax, AV.fits, AV.cells]
def Zp (sh : Bk) (d : Option Nat) (K : AS → Prop) (e : AY) (n : Nat) (H : A7) (v : AV) (g o : Nat) : Option AObj → Prop
 | some (.cells t cs) => Ax sh v ∧ o + v.cells.length ≤ cs.length ∧ K ⟨AR e d .any, n, upd H g (some (.cells t (splice cs o v.cells)))⟩
 | some (.grow t cs) => Ax sh v ∧ o + v.cells.length ≤ cs.length ∧ K ⟨AR e d .any, n, upd H g (some (.grow t (splice cs o v.cells)))⟩
 | _ => False
theorem Kv {sh : Bk} {d : Option Nat} {K : AS → Prop} {e : AY} {n : Nat} {H : A7} {v : AV} {g o : Nat} : DH sh d K ⟨e, n, H⟩ v (.ptr g o) = Zp sh d K e n H v g o (H g) := by
 show (match H g with | some (.cells e' cs) => _ | some (.grow e' cs) => _ | _ => False) = _
 cases H g with
 | none => rfl
 | some ob => cases ob with
  | cells t cs => exact propext and_assoc.symm
  | grow t cs => exact propext and_assoc.symm
  | _ => rfl
theorem Lq {sh : Bk} {d : Option Nat} {K : AS → Prop} {e : AY} {n : Nat} {H : A7} {v : AV} {g o : Nat} {t : TypeId} {cs : List AV} : Zp sh d K e n H v g o (some (.cells t cs)) = (Ax sh v ∧ o + v.cells.length ≤ cs.length ∧ K ⟨AR e d .any, n, upd H g (some (.cells t (splice cs o v.cells)))⟩) := rfl
theorem M1 {sh : Bk} {d : Option Nat} {K : AS → Prop} {e : AY} {n : Nat} {H : A7} {v : AV} {g o : Nat} {t : TypeId} {cs : List AV} : Zp sh d K e n H v g o (some (.grow t cs)) = (Ax sh v ∧ o + v.cells.length ≤ cs.length ∧ K ⟨AR e d .any, n, upd H g (some (.grow t (splice cs o v.cells)))⟩) := rfl
theorem KX {z g m : Nat} : Us (.slg z g m) = some (.int .i64 m) := rfl
theorem L4 {sz z g m : Nat} {s : Bk} {k : IntKind} {j : Int} : Dg sz s (.slg z g m) (.int k j) = if z = sz ∧ 0 ≤ j ∧ j < m then some (.ptr g (j.toNat * sz)) else none := rfl
theorem Lc {z g o m : Nat} : Us (.slm z g o m) = some (.int .i64 m) := rfl
theorem MC {sz z g o m : Nat} {s : Bk} {k : IntKind} {j : Int} : Dg sz s (.slm z g o m) (.int k j) = if z = sz ∧ 0 ≤ j ∧ j < m then some (.ptr g (o + j.toNat * sz)) else none := rfl
theorem M6 : AZ [] = [] := rfl
theorem Ks {x : AV} {l : List AV} : AZ (x :: l) = x.cells ++ AZ l := rfl
theorem OF {z : Nat} {l : List AV} {t : Tok} : Us (.sl z l t) = some (.int .i64 l.length) := rfl
theorem Nz {sz z : Nat} {s : Bk} {l : List AV} {t : Tok} {k : IntKind} {j : Int} : Dg sz s (.sl z l t) (.int k j) = if z = sz ∧ 0 ≤ j then (match l[j.toNat]? with | some y => if y.fits s then some (.ref y) else none | none => none) else none := rfl
theorem KH {sz z : Nat} {l : List AV} {t : Tok} {lo hi : Option AV} : Jn sz (.sl z l t) lo hi = if z = sz ∨ l = [] then (Gu lo hi l.length).map fun (a, b) => .sl sz ((l.take b).drop a) .ro else none := rfl
def Y8 (ob : AObj) (d : Option Nat) (K : AS → Prop) (e : AY) (n : Nat) (H : A7) : Prop := ∀ g, n ≤ g → K ⟨AR e d (.ptr g 0), g + 1, upd H g (some ob)⟩
def XE (sz : Nat) (l : List AV) (ob : AObj) (d : Option Nat) (K : AS → Prop) (e : AY) (n : Nat) (H : A7) : Prop := ∀ g, n ≤ g → K ⟨AR e d (.sl sz l (.own g)), g + 1, upd H g (some ob)⟩
def KS (o : Option AV) (d : Option Nat) (K : AS → Prop) (e : AY) (n : Nat) (H : A7) : Prop :=
 match o with
 | some v => K ⟨AR e d v, n, H⟩
 | none => False
theorem Na {v : AV} {d : Option Nat} {K : AS → Prop} {e : AY} {n : Nat} {H : A7} : KS (some v) d K e n H = K ⟨AR e d v, n, H⟩ := rfl
theorem Nh {d : Option Nat} {K : AS → Prop} {e : AY} {n : Nat} {H : A7} : KS none d K e n H = False := rfl
section
variable {P : Program} {e : AY} {n : Nat} {H : A7} {Q : AExit → AS → Prop} {K : AS → Prop}
theorem LV : aw P .skip Q ⟨e, n, H⟩ = Q .normal ⟨e, n, H⟩ := rfl
theorem Ev {ops : List AOper} : aw P (.reg ops) Q ⟨e, n, H⟩ = awOps P ops (Q .normal) ⟨e, n, H⟩ := rfl
theorem Er {a b : ACode} : aw P (.seq a b) Q ⟨e, n, H⟩ = aw P a (Dq (aw P b Q) Q) ⟨e, n, H⟩ := rfl
theorem Mx {c : Opd} {a b : ACode} : aw P (.cond c a b) Q ⟨e, n, H⟩ = Fg (aw P a Q ⟨e, n, H⟩) (aw P b Q ⟨e, n, H⟩) (ev e c) := rfl
theorem Lf {id : Nat} {c : ACode} : aw P (.block id c) Q ⟨e, n, H⟩ = aw P c (DZ id Q) ⟨e, n, H⟩ := rfl
theorem M4 {c : ACode} : aw P (.loop c) Q ⟨e, n, H⟩ = LoopK (fun Q s => aw P c Q s) Q ⟨e, n, H⟩ := rfl
theorem NG {id : Nat} : aw P (.exit id) Q ⟨e, n, H⟩ = Q (.exit id) ⟨e, n, H⟩ := rfl
theorem FQ : aw P .ret Q ⟨e, n, H⟩ = Q .ret ⟨e, n, H⟩ := rfl
theorem F4 : aw P .bad Q ⟨e, n, H⟩ = False := rfl
theorem HI {ks : List Nat} {c : ACode} : aw P (.kp ks c) Q ⟨e, n, H⟩ = aw P c Q ⟨EH e ks, n, H⟩ := rfl
theorem H5 {ks : List Nat} {c : ACode} : aw P (.ke ks c) Q ⟨e, n, H⟩ = aw P c (Ow ks Q) ⟨e, n, H⟩ := rfl
theorem Mi {ks : List Nat} : Ow ks Q .normal ⟨e, n, H⟩ = Q .normal ⟨EH e ks, n, H⟩ := rfl
theorem Ll {ks : List Nat} {i : Nat} {s : AS} : Ow ks Q (.exit i) s = Q (.exit i) s := rfl
theorem Ls {ks : List Nat} {s : AS} : Ow ks Q .ret s = Q .ret s := rfl
theorem Ka {l : List Seg} : aw P (.segs l) Q ⟨e, n, H⟩ = CM P l (Q .normal) ⟨e, n, H⟩ := rfl
theorem MD : CM P [] K ⟨e, n, H⟩ = K ⟨e, n, H⟩ := rfl
def Zf (o : Option AV) (d : Nat) (ops : List AOper) (K : AS → Prop) (e : AY) (n : Nat) (H : A7) : Prop :=
 match o with
 | some v => K ⟨put (Fr e ops) d v, n, H⟩
 | none => False
theorem NF {v : AV} {d : Nat} {ops : List AOper} {K : AS → Prop} {e : AY} {n : Nat} {H : A7} : Zf (some v) d ops K e n H = K ⟨put (Fr e ops) d v, n, H⟩ := rfl
theorem MF {d : Nat} {ops : List AOper} {K : AS → Prop} {e : AY} {n : Nat} {H : A7} : Zf none d ops K e n H = False := rfl
theorem N7 {t d x : Nat} {want : Bool} {ops : List AOper} {l : List Seg} : CM P (⟨some (t, want), ops, some (d, x)⟩ :: l) K ⟨e, n, H⟩ = Zf (T2 want x (get e t) (DX ops e H)) d ops (CM P l K) e n H := rfl
def evS (o : Option AV) (d : Option Nat) (os : List AOper) (e : AY) (H : A7) : Option AY :=
 match o with
 | some v => DX os (AR e d v) H
 | none => none
theorem Nk {v : AV} {d : Option Nat} {os : List AOper} {H : A7} : evS (some v) d os e H = DX os (AR e d v) H := rfl
theorem LY {d : Option Nat} {os : List AOper} {H : A7} : evS none d os e H = none := rfl
theorem Mq {H : A7} : DX [] e H = some e := rfl
theorem O8 {d : Option Nat} {op : AOp} {g : Option (Nat × Bool)} {os : List AOper} {H : A7} : DX (⟨d, op, g⟩ :: os) e H = evS (pe op e H) d os e H := rfl
theorem NM {ops : List AOper} {l : List Seg} {p : Option (Nat × Nat)} : CM P (⟨none, ops, p⟩ :: l) K ⟨e, n, H⟩ = awOps P ops (CM P l K) ⟨e, n, H⟩ := rfl
theorem P4 {v : AV} (hv : v ≠ .any) : ∀ {e : AY} {t : Nat}, get e t = v → I3 e t v = e
 | [], t, h => absurd h.symm hv
 | (k, u) :: r, t, h => by
  simp only [get] at h
  simp only [I3]
  split
  ·rename_i hk; rw [if_pos hk] at h; rw [h, hk]
  ·rename_i hk; rw [if_neg hk] at h; rw [P4 hv h]
def Di (want : Bool) (A B C : Prop) : AV → Prop
 | .bool b => (b = want → A) ∧ (b ≠ want → B)
 | .und => C
 | _ => False
theorem LX {t : Nat} {want : Bool} {ops : List AOper} {l : List Seg} : CM P (⟨some (t, want), ops, none⟩ :: l) K ⟨e, n, H⟩ = Di want (awOps P ops (CM P l K) ⟨I3 e t (.bool want), n, H⟩) (CM P l K ⟨GV (I3 e t (.bool (!want))) ops, n, H⟩) (CM P l K ⟨GV e ops, n, H⟩) (get e t) := by
 show guardK want _ (CM P l K ⟨GV e ops, n, H⟩) _ = _
 generalize hg : get e t = v
 cases v <;> try rfl
 rename_i b
 simp only [guardK, Di, eq_iff_iff]
 by_cases hb : b = want
 ·subst hb
  rw [P4 (by simp) hg]
  simp
 ·have hb' : b = !want := by cases b <;> cases want <;> simp_all
  subst hb'
  rw [P4 (by simp) hg]
  simp
theorem LP : awOps P [] K ⟨e, n, H⟩ = K ⟨e, n, H⟩ := rfl
theorem LT {d : Option Nat} {op : AOp} {os : List AOper} : awOps P (⟨d, op, none⟩ :: os) K ⟨e, n, H⟩ = AT P d op (awOps P os K) ⟨e, n, H⟩ := rfl
theorem KO {m : Mode} {S : List Nat} {ops : List AOper} : aw P (.regD m S ops) Q ⟨e, n, H⟩ = gsK P m (VN e S) ops (Q .normal) ⟨e, n, H⟩ := rfl
theorem MB {m : Mode} {gs : List Nat} {ops : List AOper} {s : AS} : gsK P m (some gs) ops K s = gsM P m gs ops K s := rfl
theorem A2 {m : Mode} {gs : List Nat} {ops : List AOper} (h : AG P m n gs ops K ⟨e, n, H⟩) : gsM P m gs ops K ⟨e, n, H⟩ := ⟨[], h⟩
theorem JK {m : Mode} {gs : List Nat} {ops : List AOper} (ms : List Nat) (h : AG P m n (ms ++ gs) ops K ⟨e, n, H⟩) : gsM P m gs ops K ⟨e, n, H⟩ := ⟨ms, h⟩
theorem Nn : VN e [] = some [] := rfl
theorem O7 {t : Nat} {ts : List Nat} : VN e (t :: ts) = gsC (get e t) (VN e ts) := rfl
theorem NU {g o : Nat} {gs : List Nat} : gsC (.ptr g o) (some gs) = some (g :: gs) := rfl
def UY (ob : AObj) (d : Option Nat) (K : AS → Prop) (e : AY) (n : Nat) (H : A7) : Prop := ∀ g, n ≤ g → H g = none → K ⟨AR e d (.ptr g 0), g + 1, upd H g (some ob)⟩
theorem A3 {ob : AObj} {d : Option Nat} {H : A7} (h : Y8 ob d K e n H) : UY ob d K e n H := fun g hg _ => h g hg
def Ua (sz : Nat) (l : List AV) (ob : AObj) (d : Option Nat) (K : AS → Prop) (e : AY) (n : Nat) (H : A7) : Prop := ∀ g, n ≤ g → H g = none → K ⟨AR e d (.sl sz l (.own g)), g + 1, upd H g (some ob)⟩
theorem AI {sz : Nat} {l : List AV} {ob : AObj} {d : Option Nat} {H : A7} (h : XE sz l ob d K e n H) : Ua sz l ob d K e n H := fun g hg _ => h g hg
theorem MW {md : Mode} {lw : Nat} {gs : List Nat} : AG P md lw gs [] K ⟨e, n, H⟩ = K ⟨e, n, H⟩ := rfl
theorem Nt {md : Mode} {lw : Nat} {gs : List Nat} {d : Option Nat} {sh : Bk} {x : Opd} {os : List AOper} : AG P md lw gs (⟨d, .load sh x, none⟩ :: os) K ⟨e, n, H⟩ = KS (Bu (Bo gs H) sh (ev e x)) d (AG P md lw gs os K) e n H := rfl
def UJ (md : Mode) (lo : Nat) (ob : AObj) (d : Option Nat) (K : AS → Prop) (e : AY) (n : Nat) (H : A7) : Prop := newK md lo ⟨e, n, H⟩ fun g n' => K ⟨AR e d (.ptr g 0), n', upd H g (some ob)⟩
def Uf (md : Mode) (lo : Nat) (sz : Nat) (l : List AV) (ob : AObj) (d : Option Nat) (K : AS → Prop) (e : AY) (n : Nat) (H : A7) : Prop := newK md lo ⟨e, n, H⟩ fun g n' => K ⟨AR e d (.sl sz l (.own g)), n', upd H g (some ob)⟩
theorem NX {lo : Nat} {ob : AObj} {d : Option Nat} {H : A7} : UJ .plain lo ob d K e n H = UY ob d K e n H := rfl
theorem Nl {lo : Nat} {ob : AObj} {d : Option Nat} {H : A7} : UJ .late lo ob d K e n H = UY ob d K e n H := rfl
theorem Mm {q lo : Nat} {ob : AObj} {d : Option Nat} {H : A7} : UJ (.last q) lo ob d K e n H = UY ob d K e n H := rfl
theorem O0 {lo : Nat} {sz : Nat} {l : List AV} {ob : AObj} {d : Option Nat} {H : A7} : Uf .plain lo sz l ob d K e n H = Ua sz l ob d K e n H := rfl
theorem Nd {lo : Nat} {sz : Nat} {l : List AV} {ob : AObj} {d : Option Nat} {H : A7} : Uf .late lo sz l ob d K e n H = Ua sz l ob d K e n H := rfl
theorem NC {q lo : Nat} {sz : Nat} {l : List AV} {ob : AObj} {d : Option Nat} {H : A7} : Uf (.last q) lo sz l ob d K e n H = Ua sz l ob d K e n H := rfl
theorem OC {md : Mode} {lw : Nat} {gs : List Nat} {d : Option Nat} {t : TypeId} {z : List AV} {os : List AOper} : AG P md lw gs (⟨d, .alloc t z, none⟩ :: os) K ⟨e, n, H⟩ = (ones z ∧ UJ md lw (.cells t z) d (AG P md lw gs os K) e n H) := rfl
theorem NV {md : Mode} {lw : Nat} {gs : List Nat} {d : Option Nat} {sh : Bk} {x v : Opd} {os : List AOper} : AG P md lw gs (⟨d, .store sh x v, none⟩ :: os) K ⟨e, n, H⟩ = (QR md lw gs x (ev e x) ∧ DH sh d (AG P md lw gs os K) ⟨e, n, H⟩ (ev e v) (ev e x)) := rfl
theorem Ee {md : Mode} {lw : Nat} {gs : List Nat} {t : Nat} {want : Bool} {d : Option Nat} {x : Opd} {os : List AOper} : AG P md lw gs (⟨d, .mv x, some (t, want)⟩ :: os) K ⟨e, n, H⟩ = guardK want (AT P d (.mv x) (AG P md lw gs os K) ⟨e, n, H⟩) (AG P md lw gs os K ⟨AR e d .und, n, H⟩) (get e t) := by
 show (match get e t with | .bool b => _ | .und => _ | _ => False) = _
 cases get e t <;> rfl
theorem NB {md : Mode} {lw : Nat} {gs : List Nat} {t : Nat} {want : Bool} {d : Option Nat} {op : BinOp} {x y : Opd} {os : List AOper} : AG P md lw gs (⟨d, .bin op x y, some (t, want)⟩ :: os) K ⟨e, n, H⟩ = guardK want (AT P d (.bin op x y) (AG P md lw gs os K) ⟨e, n, H⟩) (AG P md lw gs os K ⟨AR e d .und, n, H⟩) (get e t) := by
 show (match get e t with | .bool b => _ | .und => _ | _ => False) = _
 cases get e t <;> rfl
theorem Mv {md : Mode} {lw : Nat} {gs : List Nat} {t : Nat} {want : Bool} {d : Option Nat} {ks : List FK} {neg : Bool} {x y : Opd} {os : List AOper} : AG P md lw gs (⟨d, .eqs ks neg x y, some (t, want)⟩ :: os) K ⟨e, n, H⟩ = guardK want (AT P d (.eqs ks neg x y) (AG P md lw gs os K) ⟨e, n, H⟩) (AG P md lw gs os K ⟨AR e d .und, n, H⟩) (get e t) := by
 show (match get e t with | .bool b => _ | .und => _ | _ => False) = _
 cases get e t <;> rfl
theorem Mw {md : Mode} {lw : Nat} {gs : List Nat} {t : Nat} {want : Bool} {d : Option Nat} {neg : Bool} {x y : Opd} {os : List AOper} : AG P md lw gs (⟨d, .eqb neg x y, some (t, want)⟩ :: os) K ⟨e, n, H⟩ = guardK want (AT P d (.eqb neg x y) (AG P md lw gs os K) ⟨e, n, H⟩) (AG P md lw gs os K ⟨AR e d .und, n, H⟩) (get e t) := by
 show (match get e t with | .bool b => _ | .und => _ | _ => False) = _
 cases get e t <;> rfl
theorem M5 {md : Mode} {lw : Nat} {gs : List Nat} {t : Nat} {want : Bool} {d : Option Nat} {neg : Bool} {x : Opd} {os : List AOper} : AG P md lw gs (⟨d, .eqn neg x, some (t, want)⟩ :: os) K ⟨e, n, H⟩ = guardK want (AT P d (.eqn neg x) (AG P md lw gs os K) ⟨e, n, H⟩) (AG P md lw gs os K ⟨AR e d .und, n, H⟩) (get e t) := by
 show (match get e t with | .bool b => _ | .und => _ | _ => False) = _
 cases get e t <;> rfl
theorem Mt {md : Mode} {lw : Nat} {gs : List Nat} {t : Nat} {want : Bool} {d : Option Nat} {neg : Bool} {x : Opd} {os : List AOper} : AG P md lw gs (⟨d, .eqp neg x, some (t, want)⟩ :: os) K ⟨e, n, H⟩ = guardK want (AT P d (.eqp neg x) (AG P md lw gs os K) ⟨e, n, H⟩) (AG P md lw gs os K ⟨AR e d .und, n, H⟩) (get e t) := by
 show (match get e t with | .bool b => _ | .und => _ | _ => False) = _
 cases get e t <;> rfl
theorem N5 {md : Mode} {lw : Nat} {gs : List Nat} {t : Nat} {want : Bool} {d : Option Nat} {neg : Bool} {x : Opd} {os : List AOper} : AG P md lw gs (⟨d, .eqi neg x, some (t, want)⟩ :: os) K ⟨e, n, H⟩ = guardK want (AT P d (.eqi neg x) (AG P md lw gs os K) ⟨e, n, H⟩) (AG P md lw gs os K ⟨AR e d .und, n, H⟩) (get e t) := by
 show (match get e t with | .bool b => _ | .und => _ | _ => False) = _
 cases get e t <;> rfl
theorem Mf {md : Mode} {lw : Nat} {gs : List Nat} {t : Nat} {want : Bool} {d : Option Nat} {x : Opd} {os : List AOper} : AG P md lw gs (⟨d, .neg x, some (t, want)⟩ :: os) K ⟨e, n, H⟩ = guardK want (AT P d (.neg x) (AG P md lw gs os K) ⟨e, n, H⟩) (AG P md lw gs os K ⟨AR e d .und, n, H⟩) (get e t) := by
 show (match get e t with | .bool b => _ | .und => _ | _ => False) = _
 cases get e t <;> rfl
theorem LB {md : Mode} {lw : Nat} {gs : List Nat} {t : Nat} {want : Bool} {d : Option Nat} {x : Opd} {os : List AOper} : AG P md lw gs (⟨d, .not x, some (t, want)⟩ :: os) K ⟨e, n, H⟩ = guardK want (AT P d (.not x) (AG P md lw gs os K) ⟨e, n, H⟩) (AG P md lw gs os K ⟨AR e d .und, n, H⟩) (get e t) := by
 show (match get e t with | .bool b => _ | .und => _ | _ => False) = _
 cases get e t <;> rfl
theorem LZ {md : Mode} {lw : Nat} {gs : List Nat} {t : Nat} {want : Bool} {d : Option Nat} {k : IntKind} {x : Opd} {os : List AOper} : AG P md lw gs (⟨d, .cvi k x, some (t, want)⟩ :: os) K ⟨e, n, H⟩ = guardK want (AT P d (.cvi k x) (AG P md lw gs os K) ⟨e, n, H⟩) (AG P md lw gs os K ⟨AR e d .und, n, H⟩) (get e t) := by
 show (match get e t with | .bool b => _ | .und => _ | _ => False) = _
 cases get e t <;> rfl
theorem Me {md : Mode} {lw : Nat} {gs : List Nat} {t : Nat} {want : Bool} {d : Option Nat} {sz : Nat} {x : Opd} {lo hi : Option Opd} {os : List AOper} : AG P md lw gs (⟨d, .cut sz x lo hi, some (t, want)⟩ :: os) K ⟨e, n, H⟩ = guardK want (AT P d (.cut sz x lo hi) (AG P md lw gs os K) ⟨e, n, H⟩) (AG P md lw gs os K ⟨AR e d .und, n, H⟩) (get e t) := by
 show (match get e t with | .bool b => _ | .und => _ | _ => False) = _
 cases get e t <;> rfl
theorem L3 {md : Mode} {lw : Nat} {gs : List Nat} {t : Nat} {want : Bool} {d : Option Nat} {x : Opd} {lo hi : Option Opd} {os : List AOper} : AG P md lw gs (⟨d, .cutS x lo hi, some (t, want)⟩ :: os) K ⟨e, n, H⟩ = guardK want (AT P d (.cutS x lo hi) (AG P md lw gs os K) ⟨e, n, H⟩) (AG P md lw gs os K ⟨AR e d .und, n, H⟩) (get e t) := by
 show (match get e t with | .bool b => _ | .und => _ | _ => False) = _
 cases get e t <;> rfl
theorem Ln {md : Mode} {lw : Nat} {gs : List Nat} {t : Nat} {want : Bool} {d : Option Nat} {x : Opd} {off : Nat} {s : Bk} {os : List AOper} : AG P md lw gs (⟨d, .faddr x off s, some (t, want)⟩ :: os) K ⟨e, n, H⟩ = guardK want (AT P d (.faddr x off s) (AG P md lw gs os K) ⟨e, n, H⟩) (AG P md lw gs os K ⟨AR e d .und, n, H⟩) (get e t) := by
 show (match get e t with | .bool b => _ | .und => _ | _ => False) = _
 cases get e t <;> rfl
theorem NI {md : Mode} {lw : Nat} {gs : List Nat} {t : Nat} {want : Bool} {d : Option Nat} {x : Opd} {off : Nat} {s : Bk} {os : List AOper} : AG P md lw gs (⟨d, .field x off s, some (t, want)⟩ :: os) K ⟨e, n, H⟩ = guardK want (AT P d (.field x off s) (AG P md lw gs os K) ⟨e, n, H⟩) (AG P md lw gs os K ⟨AR e d .und, n, H⟩) (get e t) := by
 show (match get e t with | .bool b => _ | .und => _ | _ => False) = _
 cases get e t <;> rfl
theorem MO {md : Mode} {lw : Nat} {gs : List Nat} {t : Nat} {want : Bool} {d : Option Nat} {sz : Nat} {s : Bk} {x i : Opd} {os : List AOper} : AG P md lw gs (⟨d, .iaddr sz s x i, some (t, want)⟩ :: os) K ⟨e, n, H⟩ = guardK want (AT P d (.iaddr sz s x i) (AG P md lw gs os K) ⟨e, n, H⟩) (AG P md lw gs os K ⟨AR e d .und, n, H⟩) (get e t) := by
 show (match get e t with | .bool b => _ | .und => _ | _ => False) = _
 cases get e t <;> rfl
theorem N2 {md : Mode} {lw : Nat} {gs : List Nat} {t : Nat} {want : Bool} {d : Option Nat} {len sz : Nat} {s : Bk} {x i : Opd} {os : List AOper} : AG P md lw gs (⟨d, .aaddr len sz s x i, some (t, want)⟩ :: os) K ⟨e, n, H⟩ = guardK want (AT P d (.aaddr len sz s x i) (AG P md lw gs os K) ⟨e, n, H⟩) (AG P md lw gs os K ⟨AR e d .und, n, H⟩) (get e t) := by
 show (match get e t with | .bool b => _ | .und => _ | _ => False) = _
 cases get e t <;> rfl
theorem KP {md : Mode} {lw : Nat} {gs : List Nat} {t : Nat} {want : Bool} {d : Option Nat} {x i : Opd} {os : List AOper} : AG P md lw gs (⟨d, .sidx x i, some (t, want)⟩ :: os) K ⟨e, n, H⟩ = guardK want (AT P d (.sidx x i) (AG P md lw gs os K) ⟨e, n, H⟩) (AG P md lw gs os K ⟨AR e d .und, n, H⟩) (get e t) := by
 show (match get e t with | .bool b => _ | .und => _ | _ => False) = _
 cases get e t <;> rfl
theorem NL {md : Mode} {lw : Nat} {gs : List Nat} {t : Nat} {want : Bool} {d : Option Nat} {len sz : Nat} {s : Bk} {x i : Opd} {os : List AOper} : AG P md lw gs (⟨d, .aidx len sz s x i, some (t, want)⟩ :: os) K ⟨e, n, H⟩ = guardK want (AT P d (.aidx len sz s x i) (AG P md lw gs os K) ⟨e, n, H⟩) (AG P md lw gs os K ⟨AR e d .und, n, H⟩) (get e t) := by
 show (match get e t with | .bool b => _ | .und => _ | _ => False) = _
 cases get e t <;> rfl
theorem Lz {md : Mode} {lw : Nat} {gs : List Nat} {t : Nat} {want : Bool} {d : Option Nat} {x : Opd} {os : List AOper} : AG P md lw gs (⟨d, .len x, some (t, want)⟩ :: os) K ⟨e, n, H⟩ = guardK want (AT P d (.len x) (AG P md lw gs os K) ⟨e, n, H⟩) (AG P md lw gs os K ⟨AR e d .und, n, H⟩) (get e t) := by
 show (match get e t with | .bool b => _ | .und => _ | _ => False) = _
 cases get e t <;> rfl
theorem OD {md : Mode} {lw : Nat} {gs : List Nat} {t : Nat} {want : Bool} {d : Option Nat} {x : Opd} {os : List AOper} : AG P md lw gs (⟨d, .lenS x, some (t, want)⟩ :: os) K ⟨e, n, H⟩ = guardK want (AT P d (.lenS x) (AG P md lw gs os K) ⟨e, n, H⟩) (AG P md lw gs os K ⟨AR e d .und, n, H⟩) (get e t) := by
 show (match get e t with | .bool b => _ | .und => _ | _ => False) = _
 cases get e t <;> rfl
theorem Ni {md : Mode} {lw : Nat} {gs : List Nat} {t : Nat} {want : Bool} {d : Option Nat} {x : Opd} {i : Nat} {os : List AOper} : AG P md lw gs (⟨d, .extr x i, some (t, want)⟩ :: os) K ⟨e, n, H⟩ = guardK want (AT P d (.extr x i) (AG P md lw gs os K) ⟨e, n, H⟩) (AG P md lw gs os K ⟨AR e d .und, n, H⟩) (get e t) := by
 show (match get e t with | .bool b => _ | .und => _ | _ => False) = _
 cases get e t <;> rfl
theorem Lo {md : Mode} {lw : Nat} {gs : List Nat} {t : Nat} {want : Bool} {d : Option Nat} {z : List AV} {ps : List (Nat × Bk × Opd)} {os : List AOper} : AG P md lw gs (⟨d, .build z ps, some (t, want)⟩ :: os) K ⟨e, n, H⟩ = guardK want (AT P d (.build z ps) (AG P md lw gs os K) ⟨e, n, H⟩) (AG P md lw gs os K ⟨AR e d .und, n, H⟩) (get e t) := by
 show (match get e t with | .bool b => _ | .und => _ | _ => False) = _
 cases get e t <;> rfl
theorem F3 {md : Mode} {lw : Nat} {gs : List Nat} {t : Nat} {want : Bool} {d : Option Nat} {mx : Bool} {x y : Opd} {os : List AOper} : AG P md lw gs (⟨d, .mm mx x y, some (t, want)⟩ :: os) K ⟨e, n, H⟩ = guardK want (AT P d (.mm mx x y) (AG P md lw gs os K) ⟨e, n, H⟩) (AG P md lw gs os K ⟨AR e d .und, n, H⟩) (get e t) := by
 show (match get e t with | .bool b => _ | .und => _ | _ => False) = _
 cases get e t <;> rfl
theorem N3 {md : Mode} {lw : Nat} {gs : List Nat} {t : Nat} {want : Bool} {d : Option Nat} {sh : Bk} {x : Opd} {os : List AOper} : AG P md lw gs (⟨d, .load sh x, some (t, want)⟩ :: os) K ⟨e, n, H⟩ = guardK want (KS (Bu (Bo gs H) sh (ev e x)) d (AG P md lw gs os K) e n H) (AG P md lw gs os K ⟨AR e d .und, n, H⟩) (get e t) := by
 show K1 (W0 gs sh x (some (t, want)) e H) _ = _
 unfold W0
 simp only
 cases get e t <;> try rfl
 rename_i b
 simp only [guardK, eq_iff_iff]
 by_cases hb : b = want
 ·rw [if_pos hb]
  exact ⟨fun h => ⟨fun _ => h, fun hne => absurd hb hne⟩, fun h => h.1 hb⟩
 ·rw [if_neg hb]
  exact ⟨fun h => ⟨fun he => absurd he hb, fun _ => h⟩, fun h => h.2 hb⟩
theorem F5 {md : Mode} {lw : Nat} {gs : List Nat} {d : Option Nat} {x : Opd} {os : List AOper} : AG P md lw gs (⟨d, .mv x, none⟩ :: os) K ⟨e, n, H⟩ = AT P d (.mv x) (AG P md lw gs os K) ⟨e, n, H⟩ := rfl
theorem Mn {md : Mode} {lw : Nat} {gs : List Nat} {d : Option Nat} {c a b : Opd} {os : List AOper} : AG P md lw gs (⟨d, .pick c a b, none⟩ :: os) K ⟨e, n, H⟩ = AT P d (.pick c a b) (AG P md lw gs os K) ⟨e, n, H⟩ := rfl
theorem Li {md : Mode} {lw : Nat} {gs : List Nat} {d : Option Nat} {op : BinOp} {x y : Opd} {os : List AOper} : AG P md lw gs (⟨d, .bin op x y, none⟩ :: os) K ⟨e, n, H⟩ = AT P d (.bin op x y) (AG P md lw gs os K) ⟨e, n, H⟩ := rfl
theorem KI {md : Mode} {lw : Nat} {gs : List Nat} {d : Option Nat} {ks : List FK} {neg : Bool} {x y : Opd} {os : List AOper} : AG P md lw gs (⟨d, .eqs ks neg x y, none⟩ :: os) K ⟨e, n, H⟩ = AT P d (.eqs ks neg x y) (AG P md lw gs os K) ⟨e, n, H⟩ := rfl
theorem Kr {md : Mode} {lw : Nat} {gs : List Nat} {d : Option Nat} {neg : Bool} {x y : Opd} {os : List AOper} : AG P md lw gs (⟨d, .eqb neg x y, none⟩ :: os) K ⟨e, n, H⟩ = AT P d (.eqb neg x y) (AG P md lw gs os K) ⟨e, n, H⟩ := rfl
theorem NA {md : Mode} {lw : Nat} {gs : List Nat} {d : Option Nat} {neg : Bool} {x : Opd} {os : List AOper} : AG P md lw gs (⟨d, .eqn neg x, none⟩ :: os) K ⟨e, n, H⟩ = AT P d (.eqn neg x) (AG P md lw gs os K) ⟨e, n, H⟩ := rfl
theorem Ml {md : Mode} {lw : Nat} {gs : List Nat} {d : Option Nat} {neg : Bool} {x : Opd} {os : List AOper} : AG P md lw gs (⟨d, .eqp neg x, none⟩ :: os) K ⟨e, n, H⟩ = AT P d (.eqp neg x) (AG P md lw gs os K) ⟨e, n, H⟩ := rfl
theorem MP {md : Mode} {lw : Nat} {gs : List Nat} {d : Option Nat} {neg : Bool} {x : Opd} {os : List AOper} : AG P md lw gs (⟨d, .eqi neg x, none⟩ :: os) K ⟨e, n, H⟩ = AT P d (.eqi neg x) (AG P md lw gs os K) ⟨e, n, H⟩ := rfl
theorem NJ {md : Mode} {lw : Nat} {gs : List Nat} {d : Option Nat} {x : Opd} {os : List AOper} : AG P md lw gs (⟨d, .neg x, none⟩ :: os) K ⟨e, n, H⟩ = AT P d (.neg x) (AG P md lw gs os K) ⟨e, n, H⟩ := rfl
theorem KV {md : Mode} {lw : Nat} {gs : List Nat} {d : Option Nat} {x : Opd} {os : List AOper} : AG P md lw gs (⟨d, .not x, none⟩ :: os) K ⟨e, n, H⟩ = AT P d (.not x) (AG P md lw gs os K) ⟨e, n, H⟩ := rfl
theorem KJ {md : Mode} {lw : Nat} {gs : List Nat} {d : Option Nat} {k : IntKind} {x : Opd} {os : List AOper} : AG P md lw gs (⟨d, .cvi k x, none⟩ :: os) K ⟨e, n, H⟩ = AT P d (.cvi k x) (AG P md lw gs os K) ⟨e, n, H⟩ := rfl
theorem Ko {md : Mode} {lw : Nat} {gs : List Nat} {d : Option Nat} {f : Nat} {fst cap : List Opd} {os : List AOper} : AG P md lw gs (⟨d, .mkfn f fst cap, none⟩ :: os) K ⟨e, n, H⟩ = AT P d (.mkfn f fst cap) (AG P md lw gs os K) ⟨e, n, H⟩ := rfl
theorem Lk {md : Mode} {lw : Nat} {gs : List Nat} {d : Option Nat} {sz : Nat} {x : Opd} {lo hi : Option Opd} {os : List AOper} : AG P md lw gs (⟨d, .cut sz x lo hi, none⟩ :: os) K ⟨e, n, H⟩ = AT P d (.cut sz x lo hi) (AG P md lw gs os K) ⟨e, n, H⟩ := rfl
theorem Ld {md : Mode} {lw : Nat} {gs : List Nat} {d : Option Nat} {x : Opd} {lo hi : Option Opd} {os : List AOper} : AG P md lw gs (⟨d, .cutS x lo hi, none⟩ :: os) K ⟨e, n, H⟩ = AT P d (.cutS x lo hi) (AG P md lw gs os K) ⟨e, n, H⟩ := rfl
theorem NS {md : Mode} {lw : Nat} {gs : List Nat} {d : Option Nat} {x : Opd} {off : Nat} {s : Bk} {os : List AOper} : AG P md lw gs (⟨d, .faddr x off s, none⟩ :: os) K ⟨e, n, H⟩ = AT P d (.faddr x off s) (AG P md lw gs os K) ⟨e, n, H⟩ := rfl
theorem MY {md : Mode} {lw : Nat} {gs : List Nat} {d : Option Nat} {x : Opd} {off : Nat} {s : Bk} {os : List AOper} : AG P md lw gs (⟨d, .field x off s, none⟩ :: os) K ⟨e, n, H⟩ = AT P d (.field x off s) (AG P md lw gs os K) ⟨e, n, H⟩ := rfl
theorem Ky {md : Mode} {lw : Nat} {gs : List Nat} {d : Option Nat} {sz : Nat} {s : Bk} {x i : Opd} {os : List AOper} : AG P md lw gs (⟨d, .iaddr sz s x i, none⟩ :: os) K ⟨e, n, H⟩ = AT P d (.iaddr sz s x i) (AG P md lw gs os K) ⟨e, n, H⟩ := rfl
theorem MH {md : Mode} {lw : Nat} {gs : List Nat} {d : Option Nat} {len sz : Nat} {s : Bk} {x i : Opd} {os : List AOper} : AG P md lw gs (⟨d, .aaddr len sz s x i, none⟩ :: os) K ⟨e, n, H⟩ = AT P d (.aaddr len sz s x i) (AG P md lw gs os K) ⟨e, n, H⟩ := rfl
theorem Kd {md : Mode} {lw : Nat} {gs : List Nat} {d : Option Nat} {x i : Opd} {os : List AOper} : AG P md lw gs (⟨d, .sidx x i, none⟩ :: os) K ⟨e, n, H⟩ = AT P d (.sidx x i) (AG P md lw gs os K) ⟨e, n, H⟩ := rfl
theorem L2 {md : Mode} {lw : Nat} {gs : List Nat} {d : Option Nat} {len sz : Nat} {s : Bk} {x i : Opd} {os : List AOper} : AG P md lw gs (⟨d, .aidx len sz s x i, none⟩ :: os) K ⟨e, n, H⟩ = AT P d (.aidx len sz s x i) (AG P md lw gs os K) ⟨e, n, H⟩ := rfl
theorem KY {md : Mode} {lw : Nat} {gs : List Nat} {d : Option Nat} {x : Opd} {os : List AOper} : AG P md lw gs (⟨d, .len x, none⟩ :: os) K ⟨e, n, H⟩ = AT P d (.len x) (AG P md lw gs os K) ⟨e, n, H⟩ := rfl
theorem O9 {md : Mode} {lw : Nat} {gs : List Nat} {d : Option Nat} {x : Opd} {os : List AOper} : AG P md lw gs (⟨d, .lenS x, none⟩ :: os) K ⟨e, n, H⟩ = AT P d (.lenS x) (AG P md lw gs os K) ⟨e, n, H⟩ := rfl
theorem NY {md : Mode} {lw : Nat} {gs : List Nat} {d : Option Nat} {j : Nat} {os : List AOper} : AG P md lw gs (⟨d, .clen j, none⟩ :: os) K ⟨e, n, H⟩ = AT P d (.clen j) (AG P md lw gs os K) ⟨e, n, H⟩ := rfl
theorem Kk {md : Mode} {lw : Nat} {gs : List Nat} {d : Option Nat} {x : Opd} {i : Nat} {os : List AOper} : AG P md lw gs (⟨d, .extr x i, none⟩ :: os) K ⟨e, n, H⟩ = AT P d (.extr x i) (AG P md lw gs os K) ⟨e, n, H⟩ := rfl
theorem Ki {md : Mode} {lw : Nat} {gs : List Nat} {d : Option Nat} {x : Opd} {os : List AOper} : AG P md lw gs (⟨d, .nilck x, none⟩ :: os) K ⟨e, n, H⟩ = AT P d (.nilck x) (AG P md lw gs os K) ⟨e, n, H⟩ := rfl
theorem LU {md : Mode} {lw : Nat} {gs : List Nat} {d : Option Nat} {z : List AV} {ps : List (Nat × Bk × Opd)} {os : List AOper} : AG P md lw gs (⟨d, .build z ps, none⟩ :: os) K ⟨e, n, H⟩ = AT P d (.build z ps) (AG P md lw gs os K) ⟨e, n, H⟩ := rfl
theorem F1 {md : Mode} {lw : Nat} {gs : List Nat} {d : Option Nat} {mx : Bool} {x y : Opd} {os : List AOper} : AG P md lw gs (⟨d, .mm mx x y, none⟩ :: os) K ⟨e, n, H⟩ = AT P d (.mm mx x y) (AG P md lw gs os K) ⟨e, n, H⟩ := rfl
theorem KZ {md : Mode} {lw : Nat} {gs : List Nat} {d : Option Nat} {x : Opd} {os : List AOper} : AG P md lw gs (⟨d, .b2s x, none⟩ :: os) K ⟨e, n, H⟩ = AT P d (.b2s x) (AG P md lw gs os K) ⟨e, n, H⟩ := rfl
theorem Kc {md : Mode} {lw : Nat} {gs : List Nat} {d : Option Nat} {x : Opd} {os : List AOper} : AG P md lw gs (⟨d, .r2s x, none⟩ :: os) K ⟨e, n, H⟩ = AT P d (.r2s x) (AG P md lw gs os K) ⟨e, n, H⟩ := rfl
theorem MX {md : Mode} {lw : Nat} {gs : List Nat} {d : Option Nat} {x : Opd} {os : List AOper} : AG P md lw gs (⟨d, .upc x, none⟩ :: os) K ⟨e, n, H⟩ = AT P d (.upc x) (AG P md lw gs os K) ⟨e, n, H⟩ := rfl
theorem LW {md : Mode} {lw : Nat} {gs : List Nat} {d : Option Nat} {neg : Bool} {x y : Opd} {os : List AOper} : AG P md lw gs (⟨d, .eqpp neg x y, none⟩ :: os) K ⟨e, n, H⟩ = AT P d (.eqpp neg x y) (AG P md lw gs os K) ⟨e, n, H⟩ := rfl
theorem MN {md : Mode} {lw : Nat} {gs : List Nat} {d : Option Nat} {u : TypeId} {x : Opd} {os : List AOper} : AG P md lw gs (⟨d, .updn u x, none⟩ :: os) K ⟨e, n, H⟩ = AT P d (.updn u x) (AG P md lw gs os K) ⟨e, n, H⟩ := rfl
theorem NT {md : Mode} {lw : Nat} {gs : List Nat} {d : Option Nat} {el : TypeId} {x : Opd} {os : List AOper} : AG P md lw gs (⟨d, .usd el x, none⟩ :: os) K ⟨e, n, H⟩ = AT P d (.usd el x) (AG P md lw gs os K) ⟨e, n, H⟩ := rfl
theorem My {md : Mode} {lw : Nat} {gs : List Nat} {d : Option Nat} {el : TypeId} {x j : Opd} {os : List AOper} : AG P md lw gs (⟨d, .ust el x j, none⟩ :: os) K ⟨e, n, H⟩ = AT P d (.ust el x j) (AG P md lw gs os K) ⟨e, n, H⟩ := rfl
theorem KN {md : Mode} {lw : Nat} {gs : List Nat} {d : Option Nat} {el : TypeId} {s : Bk} {x : Opd} {os : List AOper} : AG P md lw gs (⟨d, .box el s x, none⟩ :: os) K ⟨e, n, H⟩ = AT P d (.box el s x) (AG P md lw gs os K) ⟨e, n, H⟩ := rfl
theorem Kl {md : Mode} {lw : Nat} {gs : List Nat} {d : Option Nat} {el : TypeId} {s : Bk} {xs : List Opd} {os : List AOper} : AG P md lw gs (⟨d, .bsl el s xs, none⟩ :: os) K ⟨e, n, H⟩ = (IV s (xs.map (ev e)) ∧ Uf md lw (Br s) (xs.map (ev e)) (.row el xs.length) d (AG P md lw gs os K) e n H) := by
 have h : IV s (xs.map (ev e)) = (∀ x ∈ xs, (ev e x).fits s = true ∧ ones (ev e x).cells) := by simp [IV, Ax]
 rw [h]; rfl
theorem Mb {md : Mode} {lw : Nat} {gs : List Nat} {d : Option Nat} {el sz by_ : Nat} {x y : Opd} {os : List AOper} : AG P md lw gs (⟨d, .app el sz by_ x y, none⟩ :: os) K ⟨e, n, H⟩ = (S0 gs (ev e x) ∧ appKS el sz by_ d (KM gs H (AG P md lw gs os K)) ⟨e, n, H⟩ (ev e x) (ev e y)) := rfl
theorem KM.of {gs : List Nat} {H : A7} {s : AS} (h : K s) : KM gs H K s := fun _ => h
theorem KC.of {gs : List Nat} {H : A7} {s : AS} (h : KeepM gs H s.H) (h' : K s) : KC gs H K s := ⟨h, h'⟩
theorem ND {gs : List Nat} {z : Nat} {l : List AV} {t : Tok} : S0 gs (.sl z l t) = True := rfl
theorem MR {gs : List Nat} {z g k : Nat} : S0 gs (.slg z g k) = (g ∈ gs) := rfl
theorem KT {md : Mode} {lw : Nat} {gs : List Nat} {d : Option Nat} {el by_ : Nat} {x y : Opd} {os : List AOper} : AG P md lw gs (⟨d, .appB el by_ x y, none⟩ :: os) K ⟨e, n, H⟩ = AT P d (.appB el by_ x y) (AG P md lw gs os K) ⟨e, n, H⟩ := rfl
theorem L0 {md : Mode} {lw : Nat} {gs : List Nat} {d : Option Nat} {el : TypeId} {x : Opd} {os : List AOper} : AG P md lw gs (⟨d, .s2b el x, none⟩ :: os) K ⟨e, n, H⟩ = AT P d (.s2b el x) (AG P md lw gs os K) ⟨e, n, H⟩ := rfl
theorem MT {md : Mode} {lw : Nat} {gs : List Nat} {d : Option Nat} {x : Opd} {os : List AOper} : AG P md lw gs (⟨d, .s2s x, none⟩ :: os) K ⟨e, n, H⟩ = AT P d (.s2s x) (AG P md lw gs os K) ⟨e, n, H⟩ := rfl
theorem Kt {md : Mode} {lw : Nat} {gs : List Nat} {d : Option Nat} {kk : Option IntKind} {os : List AOper} : AG P md lw gs (⟨d, .mkmap kk, none⟩ :: os) K ⟨e, n, H⟩ = AT P d (.mkmap kk) (AG P md lw gs os K) ⟨e, n, H⟩ := rfl
theorem MA {md : Mode} {lw : Nat} {gs : List Nat} {d : Option Nat} {kk : Option IntKind} {m k v : Opd} {os : List AOper} : AG P md lw gs (⟨d, .mset kk m k v, none⟩ :: os) K ⟨e, n, H⟩ = AT P d (.mset kk m k v) (AG P md lw gs os K) ⟨e, n, H⟩ := rfl
theorem Md {md : Mode} {lw : Nat} {gs : List Nat} {d : Option Nat} {kk : Option IntKind} {z : AV} {ok : Bool} {m k : Opd} {os : List AOper} : AG P md lw gs (⟨d, .mget kk z ok m k, none⟩ :: os) K ⟨e, n, H⟩ = KS (EY (Bo gs H) kk z ok (ev e m) (ev e k)) d (AG P md lw gs os K) e n H := rfl
theorem Mz {md : Mode} {lw : Nat} {gs : List Nat} {d : Option Nat} {f : Nat} {xs : List Opd} {os : List AOper} : AG P md lw gs (⟨d, .call f xs, none⟩ :: os) K ⟨e, n, H⟩ = CallK P f (xs.map (ev e)) d (KC gs H (AG P md lw gs os K)) ⟨e, n, H⟩ := rfl
theorem OA {md : Mode} {lw : Nat} {gs : List Nat} {d : Option Nat} {f : Nat} {xs : List Opd} {os : List AOper} : AG P md lw gs (⟨d, .callp f xs, none⟩ :: os) K ⟨e, n, H⟩ = AT P d (.callp f xs) (AG P md lw gs os K) ⟨e, n, H⟩ := rfl
theorem KK {md : Mode} {lw : Nat} {gs : List Nat} {d : Option Nat} {f : Opd} {xs : List Opd} {os : List AOper} : AG P md lw gs (⟨d, .callv f xs, none⟩ :: os) K ⟨e, n, H⟩ = AT P d (.callv f xs) (AG P md lw gs os K) ⟨e, n, H⟩ := rfl
theorem Kq {lo : Nat} {gs : List Nat} {x : Opd} {v : AV} : QR .plain lo gs x v = True := rfl
theorem KU {lo : Nat} {gs : List Nat} {x : Opd} {v : AV} : QR .free lo gs x v = True := rfl
theorem Kb {lo : Nat} {gs : List Nat} {x : Opd} {v : AV} : QR .late lo gs x v = Uh gs v := rfl
theorem Kn {lo : Nat} {gs : List Nat} {q i : Nat} {v : AV} : QR (.last q) lo gs (.t i) v = ((i = q → Tq lo gs v) ∧ (i ≠ q → TG lo gs v)) := rfl
theorem LI {lo : Nat} {gs : List Nat} {g o : Nat} : Tq lo gs (.ptr g o) = (g < lo ∧ g ∉ gs) := rfl
theorem Kp {lo : Nat} {gs : List Nat} {g o : Nat} : TG lo gs (.ptr g o) = (lo ≤ g ∨ g ∈ gs) := rfl
theorem Mj {gs : List Nat} {g o : Nat} : Uh gs (.ptr g o) = (g ∈ gs) := rfl
theorem M0 {a : Nat} {gs : List Nat} {H : A7} {k : Nat} : Bo (a :: gs) H k = if k = a then none else Bo gs H k := rfl
theorem Np {H : A7} {k : Nat} : Bo [] H k = H k := rfl
theorem HT {d : Option Nat} {x : Opd} : AT P d (.mv x) K ⟨e, n, H⟩ = KS (some (ev e x)) d K e n H := rfl
theorem Lm {d : Option Nat} {c a b : Opd} : AT P d (.pick c a b) K ⟨e, n, H⟩ = KS (match ev e c with | .bool t => some (if t then ev e a else ev e b) | _ => none) d K e n H := rfl
theorem Eo {d : Option Nat} {o : BinOp} {x y : Opd} : AT P d (.bin o x y) K ⟨e, n, H⟩ = KS (Fi o (ev e x) (ev e y)) d K e n H := rfl
theorem FI {d : Option Nat} {ks : List FK} {ng : Bool} {x y : Opd} : AT P d (.eqs ks ng x y) K ⟨e, n, H⟩ = KS (Ju ks ng (ev e x) (ev e y)) d K e n H := rfl
theorem FP {d : Option Nat} {ng : Bool} {x y : Opd} : AT P d (.eqb ng x y) K ⟨e, n, H⟩ = KS (KB ng (ev e x) (ev e y)) d K e n H := rfl
theorem Ej {d : Option Nat} {ng : Bool} {x : Opd} : AT P d (.eqn ng x) K ⟨e, n, H⟩ = KS (IE ng (ev e x)) d K e n H := rfl
theorem F7 {d : Option Nat} {ng : Bool} {x : Opd} : AT P d (.eqp ng x) K ⟨e, n, H⟩ = KS ((DC (ev e x)).map (T0 ng)) d K e n H := rfl
theorem FD {d : Option Nat} {ng : Bool} {x : Opd} : AT P d (.eqi ng x) K ⟨e, n, H⟩ = KS ((DJ (ev e x)).map (T0 ng)) d K e n H := rfl
theorem Eu {d : Option Nat} {x : Opd} : AT P d (.neg x) K ⟨e, n, H⟩ = KS (JY (ev e x)) d K e n H := rfl
theorem Eh {d : Option Nat} {x : Opd} : AT P d (.not x) K ⟨e, n, H⟩ = KS (Jb (ev e x)) d K e n H := rfl
theorem FA {d : Option Nat} {k : IntKind} {x : Opd} : AT P d (.cvi k x) K ⟨e, n, H⟩ = KS (Js k (ev e x)) d K e n H := rfl
theorem NP {d : Option Nat} {f : Nat} {a b : List Opd} : AT P d (.mkfn f a b) K ⟨e, n, H⟩ = KS (some (.fn f (a.map (ev e)) (b.map (ev e)))) d K e n H := rfl
theorem Kj {d : Option Nat} {x : Opd} {lo hi : Option Opd} : AT P d (.cutS x lo hi) K ⟨e, n, H⟩ = KS (Fp (ev e x) (lo.map (ev e)) (hi.map (ev e))) d K e n H := rfl
theorem Ew {d : Option Nat} {sz : Nat} {x : Opd} {lo hi : Option Opd} : AT P d (.cut sz x lo hi) K ⟨e, n, H⟩ = KS (Jn sz (ev e x) (lo.map (ev e)) (hi.map (ev e))) d K e n H := rfl
theorem LL {d : Option Nat} {x : Opd} {o : Nat} {s : Bk} : AT P d (.faddr x o s) K ⟨e, n, H⟩ = KS (IB (ev e x) o s) d K e n H := rfl
theorem M3 {d : Option Nat} {x : Opd} {o : Nat} {s : Bk} : AT P d (.field x o s) K ⟨e, n, H⟩ = KS (EN (ev e x) o s) d K e n H := rfl
theorem Nb {d : Option Nat} {sz : Nat} {s : Bk} {x i : Opd} : AT P d (.iaddr sz s x i) K ⟨e, n, H⟩ = KS (Dg sz s (ev e x) (ev e i)) d K e n H := rfl
theorem Kh {d : Option Nat} {l sz : Nat} {s : Bk} {x i : Opd} : AT P d (.aaddr l sz s x i) K ⟨e, n, H⟩ = KS (IA l sz s (ev e x) (ev e i)) d K e n H := rfl
theorem MU {d : Option Nat} {x i : Opd} : AT P d (.sidx x i) K ⟨e, n, H⟩ = KS (Gn (ev e x) (ev e i)) d K e n H := rfl
theorem ML {d : Option Nat} {l sz : Nat} {s : Bk} {x i : Opd} : AT P d (.aidx l sz s x i) K ⟨e, n, H⟩ = KS (Gs l sz s (ev e x) (ev e i)) d K e n H := rfl
theorem FO {d : Option Nat} {x : Opd} : AT P d (.len x) K ⟨e, n, H⟩ = KS (Us (ev e x)) d K e n H := rfl
theorem MI {d : Option Nat} {x : Opd} : AT P d (.lenS x) K ⟨e, n, H⟩ = KS (Gi (ev e x)) d K e n H := rfl
theorem Nj {d : Option Nat} {m : Nat} : AT P d (.clen m) K ⟨e, n, H⟩ = KS (some (.int .i64 m)) d K e n H := rfl
theorem Kg {d : Option Nat} {x : Opd} {i : Nat} : AT P d (.extr x i) K ⟨e, n, H⟩ = KS (Gq i (ev e x)) d K e n H := rfl
theorem Nw {d : Option Nat} {x : Opd} : AT P d (.nilck x) K ⟨e, n, H⟩ = KS (EW (ev e x)) d K e n H := rfl
theorem Mk {d : Option Nat} {s : Bk} {x : Opd} : AT P d (.load s x) K ⟨e, n, H⟩ = KS (Bu H s (ev e x)) d K e n H := rfl
theorem MK {d : Option Nat} {z : List AV} {ps : List (Nat × Bk × Opd)} : AT P d (.build z ps) K ⟨e, n, H⟩ = KS (Dk z (ps.map fun (o, s, x) => (o, s, ev e x))) d K e n H := by
 have h : (ps.map fun (o, _, x) => (o, ev e x)) = (ps.map fun (o, s, x) => (o, s, ev e x)).map fun (o, _, x) => (o, x) := by rw [List.map_map]; rfl
 show K1 (if _ then some (.agg (HU z _)) else none) _ = _
 rw [h]; unfold KS Dk; split <;> rfl
theorem HM {d : Option Nat} {mx : Bool} {x y : Opd} : AT P d (.mm mx x y) K ⟨e, n, H⟩ = KS (UR mx (ev e x) (ev e y)) d K e n H := rfl
theorem El {d : Option Nat} {x : Opd} : AT P d (.b2s x) K ⟨e, n, H⟩ = KS (K5 (ev e x)) d K e n H := rfl
theorem FT {d : Option Nat} {x : Opd} : AT P d (.r2s x) K ⟨e, n, H⟩ = KS (Jm (ev e x)) d K e n H := rfl
theorem F6 {d : Option Nat} {x : Opd} : AT P d (.upc x) K ⟨e, n, H⟩ = KS (Fh H (ev e x)) d K e n H := rfl
theorem Ep {d : Option Nat} {el : TypeId} {x : Opd} : AT P d (.usd el x) K ⟨e, n, H⟩ = KS (Fd H el (ev e x)) d K e n H := rfl
theorem Mp {d : Option Nat} {ng : Bool} {x y : Opd} : AT P d (.eqpp ng x y) K ⟨e, n, H⟩ = KS (Gk ng (ev e x) (ev e y)) d K e n H := rfl
theorem L6 {d : Option Nat} {u : TypeId} {x : Opd} : AT P d (.updn u x) K ⟨e, n, H⟩ = KS (DB P H u (ev e x)) d K e n H := rfl
theorem FG {d : Option Nat} {t : TypeId} {x m : Opd} : AT P d (.ust t x m) K ⟨e, n, H⟩ = KS (Ec t (ev e x) (ev e m)) d K e n H := rfl
theorem Ke {d : Option Nat} {t : TypeId} {z : List AV} : AT P d (.alloc t z) K ⟨e, n, H⟩ = (ones z ∧ Y8 (.cells t z) d K e n H) := rfl
theorem Ex {d : Option Nat} {t : TypeId} {sh : Bk} {x : Opd} : AT P d (.box t sh x) K ⟨e, n, H⟩ = ((Ax sh (ev e x) ∧ Y8 (.cells t (ev e x).cells) d K e n H)) := propext and_assoc.symm
theorem L8 {d : Option Nat} {sh : Bk} {x v : Opd} : AT P d (.store sh x v) K ⟨e, n, H⟩ = DH sh d K ⟨e, n, H⟩ (ev e v) (ev e x) := rfl
def newB (el sz : Nat) (l : List AV) (d : Option Nat) (K : AS → Prop) (e : AY) (n : Nat) (H : A7) : Prop := XE sz l (.row el l.length) d K e n H ∨ ∀ g, n ≤ g → K ⟨AR e d (.slm sz g 0 l.length), g + 1, upd H g (some (.cells el (AZ l)))⟩
theorem AH {el sz : Nat} {l : List AV} {d : Option Nat} (h : XE sz l (.row el l.length) d K e n H) : newB el sz l d K e n H := .inl h
theorem FN {d : Option Nat} {t : TypeId} {sh : Bk} {xs : List Opd} : AT P d (.bsl t sh xs) K ⟨e, n, H⟩ = (IV sh (xs.map (ev e)) ∧ newB t (Br sh) (xs.map (ev e)) d K e n H) := by
 have h : IV sh (xs.map (ev e)) = (∀ x ∈ xs, (ev e x).fits sh = true ∧ ones (ev e x).cells) := by simp [IV, Ax]
 rw [h]
 unfold newB XE
 rw [List.length_map]; rfl
theorem Em {d : Option Nat} {t sz b : Nat} {x y : Opd} : AT P d (.app t sz b x y) K ⟨e, n, H⟩ = appKS t sz b d K ⟨e, n, H⟩ (ev e x) (ev e y) := rfl
theorem Nf {d : Option Nat} {t b : Nat} {x y : Opd} : AT P d (.appB t b x y) K ⟨e, n, H⟩ = Rr t b d K ⟨e, n, H⟩ (ev e x) (ev e y) := rfl
theorem FR {d : Option Nat} {t : TypeId} {x : Opd} : AT P d (.s2b t x) K ⟨e, n, H⟩ = Ji d K e n H (ev e x) := rfl
theorem FV {d : Option Nat} {x : Opd} : AT P d (.s2s x) K ⟨e, n, H⟩ = K9 d K e n H (ev e x) := rfl
theorem Mo {d : Option Nat} {kk : Option IntKind} : AT P d (.mkmap kk) K ⟨e, n, H⟩ = A1v kk d K e n H := rfl
theorem Lt {d : Option Nat} {kk : Option IntKind} {m k v : Opd} : AT P d (.mset kk m k v) K ⟨e, n, H⟩ = ES kk d K ⟨e, n, H⟩ (ev e k) (ev e v) (ev e m) := rfl
def A18 (m : Nat) (o : Option AObj) (d : Option Nat) (K : AS → Prop) (e : AY) (n : Nat) (H : A7) : Prop := match o with
 | some (.map _ es) => ∀ g, n ≤ g → K ⟨AR e d (.ptr g 0), g + 1, upd H g (some (.iter m es.length (List.range es.length) none))⟩
 | _ => False
def Zn (g m len : Nat) (left : List Nat) (o : Option AObj) (d : Option Nat) (K : AS → Prop) (e : AY) (n : Nat) (H : A7) : Prop := match o with
 | some (.map _ es) => es.length = len ∧ (left = [] → K ⟨AR e d (.tup [.bool false]), n, H⟩) ∧ ∀ j ∈ left, ∀ k v, es[j]? = some (k, v) → K ⟨AR e d (.tup [.bool true, k, v]), n, upd H g (some (.iter m len (left.erase j) (some j)))⟩
 | _ => False
def A14 (g : Nat) (o : Option AObj) (d : Option Nat) (K : AS → Prop) (e : AY) (n : Nat) (H : A7) : Prop := match o with
 | some (.iter m len left _) => Zn g m len left (H m) d K e n H
 | _ => False
theorem Nx {g m len : Nat} {left : List Nat} {cur d : Option Nat} : A14 g (some (.iter m len left cur)) d K e n H = Zn g m len left (H m) d K e n H := rfl
theorem Kw {m : Nat} {d : Option Nat} : TQ d K ⟨e, n, H⟩ (.mp m) = A18 m (H m) d K e n H := rfl
theorem LG {g : Nat} {d : Option Nat} : T7 d K ⟨e, n, H⟩ (.ptr g 0) = A14 g (H g) d K e n H := propext ⟨fun h => h.2, fun h => ⟨rfl, h⟩⟩
theorem CZ {m : Nat} {kk : Option IntKind} {es : List (AV × AV)} {d : Option Nat} (h : ∀ g, n ≤ g → K ⟨AR e d (.ptr g 0), g + 1, upd H g (some (.iter m es.length (List.range es.length) none))⟩) : A18 m (some (.map kk es)) d K e n H := h
theorem Yv {g m len : Nat} {left : List Nat} {kk : Option IntKind} {es : List (AV × AV)} {d : Option Nat} (hl : es.length = len) (h0 : left = [] → K ⟨AR e d (.tup [.bool false]), n, H⟩)
  (h1 : ∀ j ∈ left, ∀ k v, es[j]? = some (k, v) → K ⟨AR e d (.tup [.bool true, k, v]), n, upd H g (some (.iter m len (left.erase j) (some j)))⟩) : Zn g m len left (some (.map kk es)) d K e n H := ⟨hl, h0, h1⟩
def A2l (el : TypeId) (z : AV) (m : Nat) (d : Option Nat) (K : AS → Prop) (e : AY) (n : Nat) (H : A7) : Prop := ∀ g, n ≤ g → K ⟨AR e d (.slm 1 g 0 m), g + 1, upd H g (some (.cells el (List.replicate m z)))⟩
theorem Mr {el : TypeId} {b : Nat} {z : AV} {d : Option Nat} {k k' : IntKind} {p q : Int} : PT el b z d K ⟨e, n, H⟩ (.int k p) (.int k' q) = (p = q ∧ 0 ≤ p ∧ (b : Int) * p ≤ 281474976710656 ∧ p ≤ maxLen ∧ A2l el z p.toNat d K e n H) := rfl
theorem L1 {d : Option Nat} {el : TypeId} {b : Nat} {z : AV} {x y : Opd} : AT P d (.mksl el b z x y) K ⟨e, n, H⟩ = PT el b z d K ⟨e, n, H⟩ (ev e x) (ev e y) := rfl
theorem F9 {d : Option Nat} {x : Opd} : AT P d (.rng x) K ⟨e, n, H⟩ = TQ d K ⟨e, n, H⟩ (ev e x) := rfl
theorem FC {d : Option Nat} {x : Opd} : AT P d (.nxt x) K ⟨e, n, H⟩ = T7 d K ⟨e, n, H⟩ (ev e x) := rfl
theorem Eg {d : Option Nat} {x : Opd} : AT P d (.ent x) K ⟨e, n, H⟩ = KS (IN H (ev e x)) d K e n H := rfl
theorem Lp {d : Option Nat} {kk : Option IntKind} {z : AV} {ok : Bool} {m k : Opd} : AT P d (.mget kk z ok m k) K ⟨e, n, H⟩ = KS (EY H kk z ok (ev e m) (ev e k)) d K e n H := rfl
theorem LQ {d : Option Nat} {f : Nat} {xs : List Opd} : AT P d (.call f xs) K ⟨e, n, H⟩ = CallK P f (xs.map (ev e)) d K ⟨e, n, H⟩ := rfl
theorem MQ {d : Option Nat} {f : Nat} {xs : List Opd} : AT P d (.callp f xs) K ⟨e, n, H⟩ = CallP P f (xs.map (ev e)) d K ⟨e, n, H⟩ := rfl
theorem LJ {d : Option Nat} {x : Opd} {xs : List Opd} : AT P d (.callv x xs) K ⟨e, n, H⟩ = AL P d K e n H (xs.map (ev e)) (ev e x) := rfl
theorem XN {el sz by_ z z' : Nat} {d : Option Nat} {m m' : List AV} {t : Tok} (hz : z' = sz ∨ m = []) (hs : A5 m m') (hm : m ≠ []) (hb : m.length * by_ ≤ 140737488355328) (hx : m.length ≤ maxLen) (h : ∀ g, n ≤ g → K ⟨AR e d (.sl sz m' (.own g)), g + 1, upd H g (some (.row el m'.length))⟩) : appKS el sz by_ d K ⟨e, n, H⟩ (.sl z [] .nil) (.sl z' m t) := by
 have hl := DF hs
 exact ⟨hz, m', hs, by simpa [hl] using hb, by simpa [hl] using hx, fun h' => absurd h' (fun e => hm (List.length_eq_zero_iff.1 (by rw [hl, e]; rfl))), fun _ => .inl h⟩
theorem N9 {el sz by_ z z' : Nat} {d : Option Nat} {m m' : List AV} {t : Tok} (hz : z' = sz ∨ m = []) (hs : A5 m m') (hm : m ≠ []) (hb : m.length * by_ ≤ 140737488355328) (hx : m.length ≤ maxLen) (h : ∀ g, n ≤ g → K ⟨AR e d (.slg sz g m'.length), g + 1, upd H g (some (.grow el (AZ m')))⟩) : appKS el sz by_ d K ⟨e, n, H⟩ (.sl z [] .nil) (.sl z' m t) := by
 have hl := DF hs
 exact ⟨hz, m', hs, by simpa [hl] using hb, by simpa [hl] using hx, fun h' => absurd h' (fun e => hm (List.length_eq_zero_iff.1 (by rw [hl, e]; rfl))), fun _ => .inr h⟩
theorem M7 {el sz by_ g0 k z' : Nat} {d : Option Nat} {m m' cs : List AV} {t : Tok} (hz : z' = sz ∨ m = []) (hs : A5 m m') (hr : H g0 = some (.grow el cs)) (hc : cs.length = k * sz) (hb : (k + m.length) * by_ ≤ 140737488355328) (hx : k + m.length ≤ maxLen) (h : ∀ g n', (g = g0 ∨ n ≤ g) → n ≤ n' → g < n' → K ⟨AR e d (.slg sz g (k + m'.length)), n', upd (upd H g0 none) g (some (.grow el (cs ++ AZ m')))⟩) : appKS el sz by_ d K ⟨e, n, H⟩ (.slg sz g0 k) (.sl z' m t) := by
 have hl := DF hs
 refine ⟨hz, m', hs, rfl, by rw [← hl]; exact hb, by rw [← hl]; exact hx, ?_⟩
 show QS el sz by_ d K ⟨e, n, H⟩ g0 k m' (H g0)
 rw [hr]
 exact ⟨rfl, hc, h⟩
theorem Wk {el sz by_ g0 z' : Nat} {d : Option Nat} {l m m' : List AV} {t : Tok} (hz : z' = sz ∨ m = []) (hs : A5 m m') (hr : H g0 = some (.row el l.length)) (hb : (l.length + m.length) * by_ ≤ 140737488355328) (hx : l.length + m.length ≤ maxLen) (h : ∀ g n', (g = g0 ∨ n ≤ g) → n ≤ n' → g < n' → K ⟨AR e d (.sl sz (l ++ m') (.own g)), n', upd (upd H g0 none) g (some (.row el (l.length + m'.length)))⟩) : appKS el sz by_ d K ⟨e, n, H⟩ (.sl sz l (.own g0)) (.sl z' m t) := by
 have hl := DF hs
 exact ⟨hz, m', hs, by rw [← hl]; exact hb, by rw [← hl]; exact hx, rfl, hr, h⟩
theorem Nq {X : AS → Prop} {s : AS} : Dq X Q .normal s = X s := rfl
theorem Ng {X : AS → Prop} {s : AS} {i : Nat} : Dq X Q (.exit i) s = Q (.exit i) s := rfl
theorem Mh {X : AS → Prop} {s : AS} : Dq X Q .ret s = Q .ret s := rfl
theorem Nv {id : Nat} {s : AS} : DZ id Q .normal s = Q .normal s := rfl
theorem KQ {id i : Nat} {s : AS} : DZ id Q (.exit i) s = if i = id then Q .normal s else Q (.exit i) s := rfl
theorem LE {id : Nat} {s : AS} : DZ id Q .ret s = Q .ret s := rfl
end
/-! ### simp looks at what is known, not into what follows -/
section
variable {P : Program} {K : AS → Prop} {Q : AExit → AS → Prop} {d : Option Nat} {n : Nat}
end
abbrev zM (d s : Nat) : AOper := ⟨some d, .mv (.t s), none⟩
abbrev zL (d s : Nat) : AOper := ⟨some d, .load none (.t s), none⟩
abbrev zF (d s k : Nat) : AOper := ⟨some d, .faddr (.t s) k none, none⟩
abbrev zG (d k s : Nat) : AOper := ⟨some d, .load (some k) (.t s), none⟩
abbrev zX (d s k : Nat) : AOper := ⟨some d, .extr (.t s) k, none⟩
abbrev zI (d : Nat) (k : Int) : AOper := ⟨some d, .mv (.c (.int .i64 k)), none⟩
abbrev zB (d : Nat) (b : Bool) : AOper := ⟨some d, .mv (.c (.bool b)), none⟩
abbrev zS (k a b : Nat) : AOper := ⟨none, .store (some k) (.t a) (.t b), none⟩
abbrev zU (a b : Nat) : AOper := ⟨none, .store none (.t a) (.t b), none⟩
abbrev zP (d a b : Nat) : AOper := ⟨some d, .pick (.t a) (.t b) (.c (.bool false)), none⟩
abbrev zO (d a b : Nat) : AOper := ⟨some d, .pick (.t a) (.c (.bool true)) (.t b), none⟩
abbrev zV (d f a : Nat) : AOper := ⟨some d, .callp f [.t a], none⟩
abbrev zW (d f a b : Nat) : AOper := ⟨some d, .callp f [.t a, .t b], none⟩
abbrev zN (d s : Nat) : AOper := ⟨some d, .not (.t s), none⟩
abbrev zY (d s : Nat) : AOper := ⟨some d, .len (.t s), none⟩
abbrev zZ (d s : Nat) : AOper := ⟨some d, .nilck (.t s), none⟩
abbrev zH (d e k s : Nat) : AOper := ⟨some d, .box e (some k) (.t s), none⟩
abbrev zJ (d k a b : Nat) : AOper := ⟨some d, .iaddr k none (.t a) (.t b), none⟩
abbrev zD (d : Nat) (o : BinOp) (a b : Nat) : AOper := ⟨some d, .bin o (.t a) (.t b), none⟩
abbrev zE (d : Nat) (o : BinOp) (a : Nat) (k : Int) : AOper := ⟨some d, .bin o (.t a) (.c (.int .i64 k)), none⟩
end Go.Proofs.YtjdccdelcnmocaaGreatDoor
