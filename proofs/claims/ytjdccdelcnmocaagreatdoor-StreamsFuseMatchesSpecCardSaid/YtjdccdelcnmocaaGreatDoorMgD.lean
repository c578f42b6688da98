/- What is asked at a function's end, and how a function's contract comes of its code; no condition. -/
import Derived.Test.YtjdccdelcnmocaaGreatDoorMgC
set_option linter.all false
set_option linter.unusedSimpArgs false
set_option linter.unusedVariables false
namespace Go.Proofs.YtjdccdelcnmocaaGreatDoor
def Ew (s : AS) : ARes → Option AV
 | .tmp t => some (get s.e t)
 | .cell t sh => BO s.H sh (get s.e t)
def CQ (s : AS) : List ARes → Option (List AV)
 | [] => some []
 | r :: rs => match Ew s r, CQ s rs with | some x, some xs => some (x :: xs) | _, _ => none
def CB (s : AS) (rs : List ARes) : Option AV :=
 match CQ s rs with
 | some [x] => some x
 | some xs => some (.tup xs)
 | none => none
def SameB (n : Nat) (H H' : A6) : Prop := ∀ k, k < n → H' k = H k
def K0 (v : AV) (n : Nat) (H : A6) (res : List ARes) : AExit → AS → Prop
 | .normal, s | .ret, s => (∃ x, CB s res = some x ∧ AI x v) ∧ n ≤ s.n ∧ SameB n H s.H
 | _, _ => False
def fin (R : DP) (n : Nat) (res : List ARes) : AExit → AS → Prop
 | .normal, s | .ret, s => ∃ r n' H', (∃ x, CB s res = some x ∧ AI x r) ∧ n ≤ n' ∧ n' ≤ s.n ∧ (∀ k, n' ≤ k → H' k = none) ∧ SameB n' H' s.H ∧ R r n' H'
 | _, _ => False
theorem SameB.rfl_ (n : Nat) (H : A6) : SameB n H H := fun _ _ => rfl
theorem Ir {R : DP} {n m : Nat} {res : List ARes} {e : Ai} {H : A6} {r : AV} (h1 : CB ⟨e, m, H⟩ res = some r) (h2 : n ≤ m) (h3 : ∀ k, m ≤ k → H k = none) (h4 : R r m H) : fin R n res .ret ⟨e, m, H⟩ :=
 ⟨r, m, H, ⟨r, h1, A1 _⟩, h2, Nat.le_refl _, h3, SameB.rfl_ _ _, h4⟩
theorem SameB.upd {n : Nat} {H H' : A6} (h : SameB n H H') {g : Nat} (hg : n ≤ g) (x : Option AObj) : SameB n H (upd H' g x) := fun k hk => by
 unfold Go.Proofs.YtjdccdelcnmocaaGreatDoor.upd; rw [if_neg (by omega)]; exact h k hk
theorem Ax (H : A6) (g : Nat) (x : Option AObj) : upd H g x g = x := by simp [upd]
theorem upd_ne {H : A6} {g k : Nat} {x : Option AObj} (h : k ≠ g) : upd H g x k = H k := by simp [upd, h]
theorem HA (H : A6) (g : Nat) (x y : Option AObj) : upd (upd H g x) g y = upd H g y := by funext k; simp only [upd]; split <;> rfl
def TF (ng t : Bool) : AV := .bool (if ng then !t else t)
def Ju (ks : List FK) (ng : Bool) : AV → AV → Option AV
 | .agg a, .agg b => (CK ks a b).map (TF ng)
 | _, _ => none
def K2 (ng : Bool) : AV → AV → Option AV
 | .bool a, .bool b => some (.bool (if ng then !(a == b) else a == b))
 | _, _ => none
def KF : AV → Option AV | .int k n => some (.int k (k.wrap (0 - n))) | _ => none
def Jz : AV → Option AV | .bool b => some (.bool (!b)) | _ => none
def KD (k : IntKind) : AV → Option AV | .int _ n => some (.int k (k.wrap n)) | _ => none
def EN (x : AV) (o : Nat) (s : BR) : Option AV := match x with | .agg cs => part cs o s | _ => none
def Ge : AV → AV → Option AV
 | .str s, .int _ j => if 0 ≤ j then (s[j.toNat]?).map fun b => .int .u8 b.toNat else none
 | _, _ => none
def Gb (len sz : Nat) (s : BR) : AV → AV → Option AV
 | .agg cs, .int _ j => if 0 ≤ j ∧ j < len then part cs (j.toNat * sz) s else none
 | _, _ => none
def S7 : AV → Option AV | .sl _ l _ => some (.int .i64 l.length) | .slm _ _ _ n => some (.int .i64 n) | .slg _ _ n => some (.int .i64 n) | _ => none
def Ga : AV → Option AV | .str s => some (.int .i64 s.length) | _ => none
def GX (i : Nat) : AV → Option AV | .tup vs => vs[i]? | _ => none
def EM : AV → Option AV | .ptr g o => some (.ptr g o) | .ref x => some (.ref x) | .fn f a b => if a.isEmpty then some (.fn f a b) else none | _ => none
def E3 (z : List AV) (ps : List (Nat × BR × AV)) : Option AV := if Es z.length ps then some (.agg (FU z (ps.map fun (o, _, x) => (o, x)))) else none
def Us (mx : Bool) : AV → AV → Option AV
 | .int k a, .int k' b => if k = k' then some (.int k (if mx then max a b else min a b)) else none
 | _, _ => none
def Jt : AV → Option AV | .sl _ l _ => (bytesOf l).map .str | _ => none
def Jx : AV → Option AV | .int _ n => some (.str (Utf8.encode n).data.toList) | _ => none
def Gd (ng : Bool) : AV → AV → Option AV
 | .ptr g o, .ptr g' o' => if g = g' then some (.bool (if ng then !(decide (o = o')) else decide (o = o'))) else none
 | _, _ => none
def Jp (d : Option Nat) (K : AS → Prop) (e : Ai) (n : Nat) (H : A6) : AV → Prop
 | .str b => b.length ≤ maxLen ∧ ∀ n', n ≤ n' → K ⟨Ad e d (.sl 1 (b.map fun u => .int .u8 u.toNat) .ro), n', H⟩
 | _ => False
def Jv (d : Option Nat) (K : AS → Prop) (e : Ai) (n : Nat) (H : A6) : AV → Prop
 | .sl sz l (.own g) => l ≠ [] ∧ K ⟨Ad e d (.sl sz l .ro), n, upd H g none⟩
 | _ => False
def Xa (kk : Option IntKind) (d : Option Nat) (K : AS → Prop) (e : Ai) (n : Nat) (H : A6) : Prop := ∀ g, n ≤ g → K ⟨Ad e d (.mp g), g + 1, upd H g (some (.map kk []))⟩
def BL (P : Program) (d : Option Nat) (K : AS → Prop) (e : Ai) (n : Nat) (H : A6) (xs : List AV) : AV → Prop
 | .fn f a b => CV P f = true ∧ CallK P f (a ++ xs ++ b) d K ⟨e, n, H⟩
 | _ => False
def BQ (sh : BR) (x : AV) : Prop := x.fits sh = true ∧ ones x.cells
def Fy (sh : BR) (l : List AV) : Prop := ∀ x ∈ l, BQ sh x
theorem OH {sh : BR} : Fy sh [] = True := by simp [Fy]
theorem Mj {sh : BR} {x : AV} {l : List AV} : Fy sh (x :: l) = (BQ sh x ∧ Fy sh l) := by simp [Fy]
theorem MV {s : List UInt8} : BQ none (.str s) = True := by simp [BQ, AV.fits, ones, AV.cells, AV.one]
theorem Mh {k : IntKind} {i : Int} : BQ none (.int k i) = True := by simp [BQ, AV.fits, ones, AV.cells, AV.one]
theorem NV {b : Bool} : BQ none (.bool b) = True := by simp [BQ, AV.fits, ones, AV.cells, AV.one]
theorem KE {z : Nat} {l : List AV} {t : Tok} : BQ none (.sl z l t) = True := by simp [BQ, AV.fits, ones, AV.cells, AV.one]
theorem NS {g o : Nat} : BQ none (.ptr g o) = True := by simp [BQ, AV.fits, ones, AV.cells, AV.one]
theorem OQ : BQ none .np = True := by simp [BQ, AV.fits, ones, AV.cells, AV.one]
theorem Og {x : AV} : BQ none (.ref x) = True := by simp [BQ, AV.fits, ones, AV.cells, AV.one]
theorem LO {f : Nat} {a b : List AV} : BQ none (.fn f a b) = True := by simp [BQ, AV.fits, ones, AV.cells, AV.one]
theorem Lj : BQ none .nfn = True := by simp [BQ, AV.fits, ones, AV.cells, AV.one]
theorem M4 {t : Nat} {v : AV} : BQ none (.ifc t v) = True := by simp [BQ, AV.fits, ones, AV.cells, AV.one]
theorem N4 : BQ none .nif = True := by simp [BQ, AV.fits, ones, AV.cells, AV.one]
theorem Lq {s : Nat} {cs : List AV} : BQ (some s) (.agg cs) = (cs.length = s ∧ ones cs) := by simp [BQ, AV.fits, AV.cells]
def WS (sh : BR) (d : Option Nat) (K : AS → Prop) (e : Ai) (n : Nat) (H : A6) (v : AV) (g o : Nat) : Option AObj → Prop
 | some (.cells t cs) => BQ sh v ∧ o + v.cells.length ≤ cs.length ∧ K ⟨Ad e d .any, n, upd H g (some (.cells t (splice cs o v.cells)))⟩
 | some (.grow t cs) => BQ sh v ∧ o + v.cells.length ≤ cs.length ∧ K ⟨Ad e d .any, n, upd H g (some (.grow t (splice cs o v.cells)))⟩
 | _ => False
theorem Nq {sh : BR} {d : Option Nat} {K : AS → Prop} {e : Ai} {n : Nat} {H : A6} {v : AV} {g o : Nat} : CF sh d K ⟨e, n, H⟩ v (.ptr g o) = WS sh d K e n H v g o (H g) := by
 show (match H g with | some (.cells e' cs) => _ | some (.grow e' cs) => _ | _ => False) = _
 cases H g with
 | none => rfl
 | some ob => cases ob with
  | cells t cs => exact propext and_assoc.symm
  | grow t cs => exact propext and_assoc.symm
  | _ => rfl
theorem Lu {sh : BR} {d : Option Nat} {K : AS → Prop} {e : Ai} {n : Nat} {H : A6} {v : AV} {g o : Nat} {t : TypeId} {cs : List AV} : WS sh d K e n H v g o (some (.cells t cs)) = (BQ sh v ∧ o + v.cells.length ≤ cs.length ∧ K ⟨Ad e d .any, n, upd H g (some (.cells t (splice cs o v.cells)))⟩) := rfl
theorem MI {sh : BR} {d : Option Nat} {K : AS → Prop} {e : Ai} {n : Nat} {H : A6} {v : AV} {g o : Nat} {t : TypeId} {cs : List AV} : WS sh d K e n H v g o (some (.grow t cs)) = (BQ sh v ∧ o + v.cells.length ≤ cs.length ∧ K ⟨Ad e d .any, n, upd H g (some (.grow t (splice cs o v.cells)))⟩) := rfl
theorem Lv {z g m : Nat} : S7 (.slg z g m) = some (.int .i64 m) := rfl
theorem Mi {sz z g m : Nat} {s : BR} {k : IntKind} {j : Int} : C8 sz s (.slg z g m) (.int k j) = if z = sz ∧ 0 ≤ j ∧ j < m then some (.ptr g (j.toNat * sz)) else none := rfl
theorem Oc {z g o m : Nat} : S7 (.slm z g o m) = some (.int .i64 m) := rfl
theorem OG {sz z g o m : Nat} {s : BR} {k : IntKind} {j : Int} : C8 sz s (.slm z g o m) (.int k j) = if z = sz ∧ 0 ≤ j ∧ j < m then some (.ptr g (o + j.toNat * sz)) else none := rfl
theorem Ok : Ae [] = [] := rfl
theorem MW {x : AV} {l : List AV} : Ae (x :: l) = x.cells ++ Ae l := rfl
theorem Od {z : Nat} {l : List AV} {t : Tok} : S7 (.sl z l t) = some (.int .i64 l.length) := rfl
theorem OD {sz z : Nat} {s : BR} {l : List AV} {t : Tok} {k : IntKind} {j : Int} : C8 sz s (.sl z l t) (.int k j) = if z = sz ∧ 0 ≤ j then (match l[j.toNat]? with | some y => if y.fits s then some (.ref y) else none | none => none) else none := rfl
theorem MY {sz z : Nat} {l : List AV} {t : Tok} {lo hi : Option AV} : Fw sz (.sl z l t) lo hi = if z = sz ∨ l = [] then (EQ lo hi l.length).map fun (a, b) => .sl sz ((l.take b).drop a) .ro else none := rfl
def UJ (ob : AObj) (d : Option Nat) (K : AS → Prop) (e : Ai) (n : Nat) (H : A6) : Prop := ∀ g, n ≤ g → K ⟨Ad e d (.ptr g 0), g + 1, upd H g (some ob)⟩
def S6 (sz : Nat) (l : List AV) (ob : AObj) (d : Option Nat) (K : AS → Prop) (e : Ai) (n : Nat) (H : A6) : Prop := ∀ g, n ≤ g → K ⟨Ad e d (.sl sz l (.own g)), g + 1, upd H g (some ob)⟩
def KS (o : Option AV) (d : Option Nat) (K : AS → Prop) (e : Ai) (n : Nat) (H : A6) : Prop :=
 match o with
 | some v => K ⟨Ad e d v, n, H⟩
 | none => False
theorem MZ {v : AV} {d : Option Nat} {K : AS → Prop} {e : Ai} {n : Nat} {H : A6} : KS (some v) d K e n H = K ⟨Ad e d v, n, H⟩ := rfl
theorem Lp {d : Option Nat} {K : AS → Prop} {e : Ai} {n : Nat} {H : A6} : KS none d K e n H = False := rfl
section
variable {P : Program} {e : Ai} {n : Nat} {H : A6} {Q : AExit → AS → Prop} {K : AS → Prop}
theorem Nj : aw P .skip Q ⟨e, n, H⟩ = Q .normal ⟨e, n, H⟩ := rfl
theorem Fe {ops : List AOper} : aw P (.reg ops) Q ⟨e, n, H⟩ = awOps P ops (Q .normal) ⟨e, n, H⟩ := rfl
theorem FS {a b : ACode} : aw P (.seq a b) Q ⟨e, n, H⟩ = aw P a (ED (aw P b Q) Q) ⟨e, n, H⟩ := rfl
theorem L6 {c : Opd} {a b : ACode} : aw P (.cond c a b) Q ⟨e, n, H⟩ = EF (aw P a Q ⟨e, n, H⟩) (aw P b Q ⟨e, n, H⟩) (ev e c) := rfl
theorem N3 {id : Nat} {c : ACode} : aw P (.block id c) Q ⟨e, n, H⟩ = aw P c (EX id Q) ⟨e, n, H⟩ := rfl
theorem NE {c : ACode} : aw P (.loop c) Q ⟨e, n, H⟩ = LoopK (fun Q s => aw P c Q s) Q ⟨e, n, H⟩ := rfl
theorem LZ {id : Nat} : aw P (.exit id) Q ⟨e, n, H⟩ = Q (.exit id) ⟨e, n, H⟩ := rfl
theorem Fg : aw P .ret Q ⟨e, n, H⟩ = Q .ret ⟨e, n, H⟩ := rfl
theorem F3 : aw P .bad Q ⟨e, n, H⟩ = False := rfl
theorem Fq {ks : List Nat} {c : ACode} : aw P (.kp ks c) Q ⟨e, n, H⟩ = aw P c Q ⟨Cw e ks, n, H⟩ := rfl
theorem HO {ks : List Nat} {c : ACode} : aw P (.ke ks c) Q ⟨e, n, H⟩ = aw P c (Pe ks Q) ⟨e, n, H⟩ := rfl
theorem MF {ks : List Nat} : Pe ks Q .normal ⟨e, n, H⟩ = Q .normal ⟨Cw e ks, n, H⟩ := rfl
theorem Nf {ks : List Nat} {i : Nat} {s : AS} : Pe ks Q (.exit i) s = Q (.exit i) s := rfl
theorem MS {ks : List Nat} {s : AS} : Pe ks Q .ret s = Q .ret s := rfl
theorem MH {l : List Seg} : aw P (.segs l) Q ⟨e, n, H⟩ = C7 P l (Q .normal) ⟨e, n, H⟩ := rfl
theorem NT : C7 P [] K ⟨e, n, H⟩ = K ⟨e, n, H⟩ := rfl
def WM (o : Option AV) (d : Nat) (ops : List AOper) (K : AS → Prop) (e : Ai) (n : Nat) (H : A6) : Prop :=
 match o with
 | some v => K ⟨put (Er e ops) d v, n, H⟩
 | none => False
theorem L5 {v : AV} {d : Nat} {ops : List AOper} {K : AS → Prop} {e : Ai} {n : Nat} {H : A6} : WM (some v) d ops K e n H = K ⟨put (Er e ops) d v, n, H⟩ := rfl
theorem Me {d : Nat} {ops : List AOper} {K : AS → Prop} {e : Ai} {n : Nat} {H : A6} : WM none d ops K e n H = False := rfl
theorem Of {t d x : Nat} {want : Bool} {ops : List AOper} {l : List Seg} : C7 P (⟨some (t, want), ops, some (d, x)⟩ :: l) K ⟨e, n, H⟩ = WM (TE want x (get e t) (Ca ops e H)) d ops (C7 P l K) e n H := rfl
def YA (o : Option AV) (d : Option Nat) (os : List AOper) (e : Ai) (H : A6) : Option Ai :=
 match o with
 | some v => Ca os (Ad e d v) H
 | none => none
theorem LI {v : AV} {d : Option Nat} {os : List AOper} {H : A6} : YA (some v) d os e H = Ca os (Ad e d v) H := rfl
theorem M0 {d : Option Nat} {os : List AOper} {H : A6} : YA none d os e H = none := rfl
theorem M5 {H : A6} : Ca [] e H = some e := rfl
theorem Nc {d : Option Nat} {op : AOp} {g : Option (Nat × Bool)} {os : List AOper} {H : A6} : Ca (⟨d, op, g⟩ :: os) e H = YA (pe op e H) d os e H := rfl
theorem O6 {ops : List AOper} {l : List Seg} {p : Option (Nat × Nat)} : C7 P (⟨none, ops, p⟩ :: l) K ⟨e, n, H⟩ = awOps P ops (C7 P l K) ⟨e, n, H⟩ := rfl
theorem Iy {v : AV} (hv : v ≠ .any) : ∀ {e : Ai} {t : Nat}, get e t = v → EV e t v = e
 | [], t, h => absurd h.symm hv
 | (k, u) :: r, t, h => by
  simp only [get] at h
  simp only [EV]
  split
  ·rename_i hk; rw [if_pos hk] at h; rw [h, hk]
  ·rename_i hk; rw [if_neg hk] at h; rw [Iy hv h]
def E5 (want : Bool) (A B C : Prop) : AV → Prop
 | .bool b => (b = want → A) ∧ (b ≠ want → B)
 | .und => C
 | _ => False
theorem Md {t : Nat} {want : Bool} {ops : List AOper} {l : List Seg} : C7 P (⟨some (t, want), ops, none⟩ :: l) K ⟨e, n, H⟩ = E5 want (awOps P ops (C7 P l K) ⟨EV e t (.bool want), n, H⟩) (C7 P l K ⟨FR (EV e t (.bool (!want))) ops, n, H⟩) (C7 P l K ⟨FR e ops, n, H⟩) (get e t) := by
 show guardK want _ (C7 P l K ⟨FR e ops, n, H⟩) _ = _
 generalize hg : get e t = v
 cases v <;> try rfl
 rename_i b
 simp only [guardK, E5, eq_iff_iff]
 by_cases hb : b = want
 ·subst hb
  rw [Iy (by simp) hg]
  simp
 ·have hb' : b = !want := by cases b <;> cases want <;> simp_all
  subst hb'
  rw [Iy (by simp) hg]
  simp
theorem Nt : awOps P [] K ⟨e, n, H⟩ = K ⟨e, n, H⟩ := rfl
theorem OB {d : Option Nat} {op : AOp} {os : List AOper} : awOps P (⟨d, op, none⟩ :: os) K ⟨e, n, H⟩ = Af P d op (awOps P os K) ⟨e, n, H⟩ := rfl
theorem NM {m : Mode} {S : List Nat} {ops : List AOper} : aw P (.regD m S ops) Q ⟨e, n, H⟩ = gsK P m (OE e S) ops (Q .normal) ⟨e, n, H⟩ := rfl
theorem MM {m : Mode} {gs : List Nat} {ops : List AOper} {s : AS} : gsK P m (some gs) ops K s = Wy P m gs ops K s := rfl
theorem A4 {m : Mode} {gs : List Nat} {ops : List AOper} (h : A9 P m n gs ops K ⟨e, n, H⟩) : Wy P m gs ops K ⟨e, n, H⟩ := ⟨[], h⟩
theorem W3 {m : Mode} {gs : List Nat} {ops : List AOper} (ms : List Nat) (h : A9 P m n (ms ++ gs) ops K ⟨e, n, H⟩) : Wy P m gs ops K ⟨e, n, H⟩ := ⟨ms, h⟩
theorem LN : OE e [] = some [] := rfl
theorem Mb {t : Nat} {ts : List Nat} : OE e (t :: ts) = Xn (get e t) (OE e ts) := rfl
theorem Lh {g o : Nat} {gs : List Nat} : Xn (.ptr g o) (some gs) = some (g :: gs) := rfl
def RD (ob : AObj) (d : Option Nat) (K : AS → Prop) (e : Ai) (n : Nat) (H : A6) : Prop := ∀ g, n ≤ g → H g = none → K ⟨Ad e d (.ptr g 0), g + 1, upd H g (some ob)⟩
theorem A2 {ob : AObj} {d : Option Nat} {H : A6} (h : UJ ob d K e n H) : RD ob d K e n H := fun g hg _ => h g hg
def RX (sz : Nat) (l : List AV) (ob : AObj) (d : Option Nat) (K : AS → Prop) (e : Ai) (n : Nat) (H : A6) : Prop := ∀ g, n ≤ g → H g = none → K ⟨Ad e d (.sl sz l (.own g)), g + 1, upd H g (some ob)⟩
theorem AA {sz : Nat} {l : List AV} {ob : AObj} {d : Option Nat} {H : A6} (h : S6 sz l ob d K e n H) : RX sz l ob d K e n H := fun g hg _ => h g hg
theorem Lc {md : Mode} {lw : Nat} {gs : List Nat} : A9 P md lw gs [] K ⟨e, n, H⟩ = K ⟨e, n, H⟩ := rfl
theorem NY {md : Mode} {lw : Nat} {gs : List Nat} {d : Option Nat} {sh : BR} {x : Opd} {os : List AOper} : A9 P md lw gs (⟨d, .load sh x, none⟩ :: os) K ⟨e, n, H⟩ = KS (BO (BM gs H) sh (ev e x)) d (A9 P md lw gs os K) e n H := rfl
def Rk (md : Mode) (lo : Nat) (ob : AObj) (d : Option Nat) (K : AS → Prop) (e : Ai) (n : Nat) (H : A6) : Prop := newK md lo ⟨e, n, H⟩ fun g n' => K ⟨Ad e d (.ptr g 0), n', upd H g (some ob)⟩
def RH (md : Mode) (lo : Nat) (sz : Nat) (l : List AV) (ob : AObj) (d : Option Nat) (K : AS → Prop) (e : Ai) (n : Nat) (H : A6) : Prop := newK md lo ⟨e, n, H⟩ fun g n' => K ⟨Ad e d (.sl sz l (.own g)), n', upd H g (some ob)⟩
theorem NF {lo : Nat} {ob : AObj} {d : Option Nat} {H : A6} : Rk .plain lo ob d K e n H = RD ob d K e n H := rfl
theorem M9 {lo : Nat} {ob : AObj} {d : Option Nat} {H : A6} : Rk .late lo ob d K e n H = RD ob d K e n H := rfl
theorem L9 {q lo : Nat} {ob : AObj} {d : Option Nat} {H : A6} : Rk (.last q) lo ob d K e n H = RD ob d K e n H := rfl
theorem Nn {lo : Nat} {sz : Nat} {l : List AV} {ob : AObj} {d : Option Nat} {H : A6} : RH .plain lo sz l ob d K e n H = RX sz l ob d K e n H := rfl
theorem LH {lo : Nat} {sz : Nat} {l : List AV} {ob : AObj} {d : Option Nat} {H : A6} : RH .late lo sz l ob d K e n H = RX sz l ob d K e n H := rfl
theorem NW {q lo : Nat} {sz : Nat} {l : List AV} {ob : AObj} {d : Option Nat} {H : A6} : RH (.last q) lo sz l ob d K e n H = RX sz l ob d K e n H := rfl
theorem Mk {md : Mode} {lw : Nat} {gs : List Nat} {d : Option Nat} {t : TypeId} {z : List AV} {os : List AOper} : A9 P md lw gs (⟨d, .alloc t z, none⟩ :: os) K ⟨e, n, H⟩ = (ones z ∧ Rk md lw (.cells t z) d (A9 P md lw gs os K) e n H) := rfl
theorem Lx {md : Mode} {lw : Nat} {gs : List Nat} {d : Option Nat} {sh : BR} {x v : Opd} {os : List AOper} : A9 P md lw gs (⟨d, .store sh x v, none⟩ :: os) K ⟨e, n, H⟩ = (IV md lw gs x (ev e x) ∧ CF sh d (A9 P md lw gs os K) ⟨e, n, H⟩ (ev e v) (ev e x)) := rfl
theorem FX {md : Mode} {lw : Nat} {gs : List Nat} {t : Nat} {want : Bool} {d : Option Nat} {x : Opd} {os : List AOper} : A9 P md lw gs (⟨d, .mv x, some (t, want)⟩ :: os) K ⟨e, n, H⟩ = guardK want (Af P d (.mv x) (A9 P md lw gs os K) ⟨e, n, H⟩) (A9 P md lw gs os K ⟨Ad e d .und, n, H⟩) (get e t) := by
 show (match get e t with | .bool b => _ | .und => _ | _ => False) = _
 cases get e t <;> rfl
theorem MB {md : Mode} {lw : Nat} {gs : List Nat} {t : Nat} {want : Bool} {d : Option Nat} {op : BinOp} {x y : Opd} {os : List AOper} : A9 P md lw gs (⟨d, .bin op x y, some (t, want)⟩ :: os) K ⟨e, n, H⟩ = guardK want (Af P d (.bin op x y) (A9 P md lw gs os K) ⟨e, n, H⟩) (A9 P md lw gs os K ⟨Ad e d .und, n, H⟩) (get e t) := by
 show (match get e t with | .bool b => _ | .und => _ | _ => False) = _
 cases get e t <;> rfl
theorem MD {md : Mode} {lw : Nat} {gs : List Nat} {t : Nat} {want : Bool} {d : Option Nat} {ks : List FK} {neg : Bool} {x y : Opd} {os : List AOper} : A9 P md lw gs (⟨d, .eqs ks neg x y, some (t, want)⟩ :: os) K ⟨e, n, H⟩ = guardK want (Af P d (.eqs ks neg x y) (A9 P md lw gs os K) ⟨e, n, H⟩) (A9 P md lw gs os K ⟨Ad e d .und, n, H⟩) (get e t) := by
 show (match get e t with | .bool b => _ | .und => _ | _ => False) = _
 cases get e t <;> rfl
theorem Nd {md : Mode} {lw : Nat} {gs : List Nat} {t : Nat} {want : Bool} {d : Option Nat} {neg : Bool} {x y : Opd} {os : List AOper} : A9 P md lw gs (⟨d, .eqb neg x y, some (t, want)⟩ :: os) K ⟨e, n, H⟩ = guardK want (Af P d (.eqb neg x y) (A9 P md lw gs os K) ⟨e, n, H⟩) (A9 P md lw gs os K ⟨Ad e d .und, n, H⟩) (get e t) := by
 show (match get e t with | .bool b => _ | .und => _ | _ => False) = _
 cases get e t <;> rfl
theorem Lg {md : Mode} {lw : Nat} {gs : List Nat} {t : Nat} {want : Bool} {d : Option Nat} {neg : Bool} {x : Opd} {os : List AOper} : A9 P md lw gs (⟨d, .eqn neg x, some (t, want)⟩ :: os) K ⟨e, n, H⟩ = guardK want (Af P d (.eqn neg x) (A9 P md lw gs os K) ⟨e, n, H⟩) (A9 P md lw gs os K ⟨Ad e d .und, n, H⟩) (get e t) := by
 show (match get e t with | .bool b => _ | .und => _ | _ => False) = _
 cases get e t <;> rfl
theorem MO {md : Mode} {lw : Nat} {gs : List Nat} {t : Nat} {want : Bool} {d : Option Nat} {neg : Bool} {x : Opd} {os : List AOper} : A9 P md lw gs (⟨d, .eqp neg x, some (t, want)⟩ :: os) K ⟨e, n, H⟩ = guardK want (Af P d (.eqp neg x) (A9 P md lw gs os K) ⟨e, n, H⟩) (A9 P md lw gs os K ⟨Ad e d .und, n, H⟩) (get e t) := by
 show (match get e t with | .bool b => _ | .und => _ | _ => False) = _
 cases get e t <;> rfl
theorem N1 {md : Mode} {lw : Nat} {gs : List Nat} {t : Nat} {want : Bool} {d : Option Nat} {neg : Bool} {x : Opd} {os : List AOper} : A9 P md lw gs (⟨d, .eqi neg x, some (t, want)⟩ :: os) K ⟨e, n, H⟩ = guardK want (Af P d (.eqi neg x) (A9 P md lw gs os K) ⟨e, n, H⟩) (A9 P md lw gs os K ⟨Ad e d .und, n, H⟩) (get e t) := by
 show (match get e t with | .bool b => _ | .und => _ | _ => False) = _
 cases get e t <;> rfl
theorem ME {md : Mode} {lw : Nat} {gs : List Nat} {t : Nat} {want : Bool} {d : Option Nat} {x : Opd} {os : List AOper} : A9 P md lw gs (⟨d, .neg x, some (t, want)⟩ :: os) K ⟨e, n, H⟩ = guardK want (Af P d (.neg x) (A9 P md lw gs os K) ⟨e, n, H⟩) (A9 P md lw gs os K ⟨Ad e d .und, n, H⟩) (get e t) := by
 show (match get e t with | .bool b => _ | .und => _ | _ => False) = _
 cases get e t <;> rfl
theorem MK {md : Mode} {lw : Nat} {gs : List Nat} {t : Nat} {want : Bool} {d : Option Nat} {x : Opd} {os : List AOper} : A9 P md lw gs (⟨d, .not x, some (t, want)⟩ :: os) K ⟨e, n, H⟩ = guardK want (Af P d (.not x) (A9 P md lw gs os K) ⟨e, n, H⟩) (A9 P md lw gs os K ⟨Ad e d .und, n, H⟩) (get e t) := by
 show (match get e t with | .bool b => _ | .und => _ | _ => False) = _
 cases get e t <;> rfl
theorem NN {md : Mode} {lw : Nat} {gs : List Nat} {t : Nat} {want : Bool} {d : Option Nat} {k : IntKind} {x : Opd} {os : List AOper} : A9 P md lw gs (⟨d, .cvi k x, some (t, want)⟩ :: os) K ⟨e, n, H⟩ = guardK want (Af P d (.cvi k x) (A9 P md lw gs os K) ⟨e, n, H⟩) (A9 P md lw gs os K ⟨Ad e d .und, n, H⟩) (get e t) := by
 show (match get e t with | .bool b => _ | .und => _ | _ => False) = _
 cases get e t <;> rfl
theorem Mf {md : Mode} {lw : Nat} {gs : List Nat} {t : Nat} {want : Bool} {d : Option Nat} {sz : Nat} {x : Opd} {lo hi : Option Opd} {os : List AOper} : A9 P md lw gs (⟨d, .cut sz x lo hi, some (t, want)⟩ :: os) K ⟨e, n, H⟩ = guardK want (Af P d (.cut sz x lo hi) (A9 P md lw gs os K) ⟨e, n, H⟩) (A9 P md lw gs os K ⟨Ad e d .und, n, H⟩) (get e t) := by
 show (match get e t with | .bool b => _ | .und => _ | _ => False) = _
 cases get e t <;> rfl
theorem LY {md : Mode} {lw : Nat} {gs : List Nat} {t : Nat} {want : Bool} {d : Option Nat} {x : Opd} {lo hi : Option Opd} {os : List AOper} : A9 P md lw gs (⟨d, .cutS x lo hi, some (t, want)⟩ :: os) K ⟨e, n, H⟩ = guardK want (Af P d (.cutS x lo hi) (A9 P md lw gs os K) ⟨e, n, H⟩) (A9 P md lw gs os K ⟨Ad e d .und, n, H⟩) (get e t) := by
 show (match get e t with | .bool b => _ | .und => _ | _ => False) = _
 cases get e t <;> rfl
theorem LR {md : Mode} {lw : Nat} {gs : List Nat} {t : Nat} {want : Bool} {d : Option Nat} {x : Opd} {off : Nat} {s : BR} {os : List AOper} : A9 P md lw gs (⟨d, .faddr x off s, some (t, want)⟩ :: os) K ⟨e, n, H⟩ = guardK want (Af P d (.faddr x off s) (A9 P md lw gs os K) ⟨e, n, H⟩) (A9 P md lw gs os K ⟨Ad e d .und, n, H⟩) (get e t) := by
 show (match get e t with | .bool b => _ | .und => _ | _ => False) = _
 cases get e t <;> rfl
theorem Ma {md : Mode} {lw : Nat} {gs : List Nat} {t : Nat} {want : Bool} {d : Option Nat} {x : Opd} {off : Nat} {s : BR} {os : List AOper} : A9 P md lw gs (⟨d, .field x off s, some (t, want)⟩ :: os) K ⟨e, n, H⟩ = guardK want (Af P d (.field x off s) (A9 P md lw gs os K) ⟨e, n, H⟩) (A9 P md lw gs os K ⟨Ad e d .und, n, H⟩) (get e t) := by
 show (match get e t with | .bool b => _ | .und => _ | _ => False) = _
 cases get e t <;> rfl
theorem Ol {md : Mode} {lw : Nat} {gs : List Nat} {t : Nat} {want : Bool} {d : Option Nat} {sz : Nat} {s : BR} {x i : Opd} {os : List AOper} : A9 P md lw gs (⟨d, .iaddr sz s x i, some (t, want)⟩ :: os) K ⟨e, n, H⟩ = guardK want (Af P d (.iaddr sz s x i) (A9 P md lw gs os K) ⟨e, n, H⟩) (A9 P md lw gs os K ⟨Ad e d .und, n, H⟩) (get e t) := by
 show (match get e t with | .bool b => _ | .und => _ | _ => False) = _
 cases get e t <;> rfl
theorem Mm {md : Mode} {lw : Nat} {gs : List Nat} {t : Nat} {want : Bool} {d : Option Nat} {len sz : Nat} {s : BR} {x i : Opd} {os : List AOper} : A9 P md lw gs (⟨d, .aaddr len sz s x i, some (t, want)⟩ :: os) K ⟨e, n, H⟩ = guardK want (Af P d (.aaddr len sz s x i) (A9 P md lw gs os K) ⟨e, n, H⟩) (A9 P md lw gs os K ⟨Ad e d .und, n, H⟩) (get e t) := by
 show (match get e t with | .bool b => _ | .und => _ | _ => False) = _
 cases get e t <;> rfl
theorem MC {md : Mode} {lw : Nat} {gs : List Nat} {t : Nat} {want : Bool} {d : Option Nat} {x i : Opd} {os : List AOper} : A9 P md lw gs (⟨d, .sidx x i, some (t, want)⟩ :: os) K ⟨e, n, H⟩ = guardK want (Af P d (.sidx x i) (A9 P md lw gs os K) ⟨e, n, H⟩) (A9 P md lw gs os K ⟨Ad e d .und, n, H⟩) (get e t) := by
 show (match get e t with | .bool b => _ | .und => _ | _ => False) = _
 cases get e t <;> rfl
theorem N7 {md : Mode} {lw : Nat} {gs : List Nat} {t : Nat} {want : Bool} {d : Option Nat} {len sz : Nat} {s : BR} {x i : Opd} {os : List AOper} : A9 P md lw gs (⟨d, .aidx len sz s x i, some (t, want)⟩ :: os) K ⟨e, n, H⟩ = guardK want (Af P d (.aidx len sz s x i) (A9 P md lw gs os K) ⟨e, n, H⟩) (A9 P md lw gs os K ⟨Ad e d .und, n, H⟩) (get e t) := by
 show (match get e t with | .bool b => _ | .und => _ | _ => False) = _
 cases get e t <;> rfl
theorem Lm {md : Mode} {lw : Nat} {gs : List Nat} {t : Nat} {want : Bool} {d : Option Nat} {x : Opd} {os : List AOper} : A9 P md lw gs (⟨d, .len x, some (t, want)⟩ :: os) K ⟨e, n, H⟩ = guardK want (Af P d (.len x) (A9 P md lw gs os K) ⟨e, n, H⟩) (A9 P md lw gs os K ⟨Ad e d .und, n, H⟩) (get e t) := by
 show (match get e t with | .bool b => _ | .und => _ | _ => False) = _
 cases get e t <;> rfl
theorem M6 {md : Mode} {lw : Nat} {gs : List Nat} {t : Nat} {want : Bool} {d : Option Nat} {x : Opd} {os : List AOper} : A9 P md lw gs (⟨d, .lenS x, some (t, want)⟩ :: os) K ⟨e, n, H⟩ = guardK want (Af P d (.lenS x) (A9 P md lw gs os K) ⟨e, n, H⟩) (A9 P md lw gs os K ⟨Ad e d .und, n, H⟩) (get e t) := by
 show (match get e t with | .bool b => _ | .und => _ | _ => False) = _
 cases get e t <;> rfl
theorem Mr {md : Mode} {lw : Nat} {gs : List Nat} {t : Nat} {want : Bool} {d : Option Nat} {x : Opd} {i : Nat} {os : List AOper} : A9 P md lw gs (⟨d, .extr x i, some (t, want)⟩ :: os) K ⟨e, n, H⟩ = guardK want (Af P d (.extr x i) (A9 P md lw gs os K) ⟨e, n, H⟩) (A9 P md lw gs os K ⟨Ad e d .und, n, H⟩) (get e t) := by
 show (match get e t with | .bool b => _ | .und => _ | _ => False) = _
 cases get e t <;> rfl
theorem Ly {md : Mode} {lw : Nat} {gs : List Nat} {t : Nat} {want : Bool} {d : Option Nat} {z : List AV} {ps : List (Nat × BR × Opd)} {os : List AOper} : A9 P md lw gs (⟨d, .build z ps, some (t, want)⟩ :: os) K ⟨e, n, H⟩ = guardK want (Af P d (.build z ps) (A9 P md lw gs os K) ⟨e, n, H⟩) (A9 P md lw gs os K ⟨Ad e d .und, n, H⟩) (get e t) := by
 show (match get e t with | .bool b => _ | .und => _ | _ => False) = _
 cases get e t <;> rfl
theorem FH {md : Mode} {lw : Nat} {gs : List Nat} {t : Nat} {want : Bool} {d : Option Nat} {mx : Bool} {x y : Opd} {os : List AOper} : A9 P md lw gs (⟨d, .mm mx x y, some (t, want)⟩ :: os) K ⟨e, n, H⟩ = guardK want (Af P d (.mm mx x y) (A9 P md lw gs os K) ⟨e, n, H⟩) (A9 P md lw gs os K ⟨Ad e d .und, n, H⟩) (get e t) := by
 show (match get e t with | .bool b => _ | .und => _ | _ => False) = _
 cases get e t <;> rfl
theorem ND {md : Mode} {lw : Nat} {gs : List Nat} {t : Nat} {want : Bool} {d : Option Nat} {sh : BR} {x : Opd} {os : List AOper} : A9 P md lw gs (⟨d, .load sh x, some (t, want)⟩ :: os) K ⟨e, n, H⟩ = guardK want (KS (BO (BM gs H) sh (ev e x)) d (A9 P md lw gs os K) e n H) (A9 P md lw gs os K ⟨Ad e d .und, n, H⟩) (get e t) := by
 show K1 (R8 gs sh x (some (t, want)) e H) _ = _
 unfold R8
 simp only
 cases get e t <;> try rfl
 rename_i b
 simp only [guardK, eq_iff_iff]
 by_cases hb : b = want
 ·rw [if_pos hb]
  exact ⟨fun h => ⟨fun _ => h, fun hne => absurd hb hne⟩, fun h => h.1 hb⟩
 ·rw [if_neg hb]
  exact ⟨fun h => ⟨fun he => absurd he hb, fun _ => h⟩, fun h => h.2 hb⟩
theorem Fh {md : Mode} {lw : Nat} {gs : List Nat} {d : Option Nat} {x : Opd} {os : List AOper} : A9 P md lw gs (⟨d, .mv x, none⟩ :: os) K ⟨e, n, H⟩ = Af P d (.mv x) (A9 P md lw gs os K) ⟨e, n, H⟩ := rfl
theorem NJ {md : Mode} {lw : Nat} {gs : List Nat} {d : Option Nat} {c a b : Opd} {os : List AOper} : A9 P md lw gs (⟨d, .pick c a b, none⟩ :: os) K ⟨e, n, H⟩ = Af P d (.pick c a b) (A9 P md lw gs os K) ⟨e, n, H⟩ := rfl
theorem Mz {md : Mode} {lw : Nat} {gs : List Nat} {d : Option Nat} {op : BinOp} {x y : Opd} {os : List AOper} : A9 P md lw gs (⟨d, .bin op x y, none⟩ :: os) K ⟨e, n, H⟩ = Af P d (.bin op x y) (A9 P md lw gs os K) ⟨e, n, H⟩ := rfl
theorem NC {md : Mode} {lw : Nat} {gs : List Nat} {d : Option Nat} {ks : List FK} {neg : Bool} {x y : Opd} {os : List AOper} : A9 P md lw gs (⟨d, .eqs ks neg x y, none⟩ :: os) K ⟨e, n, H⟩ = Af P d (.eqs ks neg x y) (A9 P md lw gs os K) ⟨e, n, H⟩ := rfl
theorem NU {md : Mode} {lw : Nat} {gs : List Nat} {d : Option Nat} {neg : Bool} {x y : Opd} {os : List AOper} : A9 P md lw gs (⟨d, .eqb neg x y, none⟩ :: os) K ⟨e, n, H⟩ = Af P d (.eqb neg x y) (A9 P md lw gs os K) ⟨e, n, H⟩ := rfl
theorem Ms {md : Mode} {lw : Nat} {gs : List Nat} {d : Option Nat} {neg : Bool} {x : Opd} {os : List AOper} : A9 P md lw gs (⟨d, .eqn neg x, none⟩ :: os) K ⟨e, n, H⟩ = Af P d (.eqn neg x) (A9 P md lw gs os K) ⟨e, n, H⟩ := rfl
theorem Oa {md : Mode} {lw : Nat} {gs : List Nat} {d : Option Nat} {neg : Bool} {x : Opd} {os : List AOper} : A9 P md lw gs (⟨d, .eqp neg x, none⟩ :: os) K ⟨e, n, H⟩ = Af P d (.eqp neg x) (A9 P md lw gs os K) ⟨e, n, H⟩ := rfl
theorem NO {md : Mode} {lw : Nat} {gs : List Nat} {d : Option Nat} {neg : Bool} {x : Opd} {os : List AOper} : A9 P md lw gs (⟨d, .eqi neg x, none⟩ :: os) K ⟨e, n, H⟩ = Af P d (.eqi neg x) (A9 P md lw gs os K) ⟨e, n, H⟩ := rfl
theorem OS {md : Mode} {lw : Nat} {gs : List Nat} {d : Option Nat} {x : Opd} {os : List AOper} : A9 P md lw gs (⟨d, .neg x, none⟩ :: os) K ⟨e, n, H⟩ = Af P d (.neg x) (A9 P md lw gs os K) ⟨e, n, H⟩ := rfl
theorem Mx {md : Mode} {lw : Nat} {gs : List Nat} {d : Option Nat} {x : Opd} {os : List AOper} : A9 P md lw gs (⟨d, .not x, none⟩ :: os) K ⟨e, n, H⟩ = Af P d (.not x) (A9 P md lw gs os K) ⟨e, n, H⟩ := rfl
theorem Ld {md : Mode} {lw : Nat} {gs : List Nat} {d : Option Nat} {k : IntKind} {x : Opd} {os : List AOper} : A9 P md lw gs (⟨d, .cvi k x, none⟩ :: os) K ⟨e, n, H⟩ = Af P d (.cvi k x) (A9 P md lw gs os K) ⟨e, n, H⟩ := rfl
theorem Lw {md : Mode} {lw : Nat} {gs : List Nat} {d : Option Nat} {f : Nat} {fst cap : List Opd} {os : List AOper} : A9 P md lw gs (⟨d, .mkfn f fst cap, none⟩ :: os) K ⟨e, n, H⟩ = Af P d (.mkfn f fst cap) (A9 P md lw gs os K) ⟨e, n, H⟩ := rfl
theorem LL {md : Mode} {lw : Nat} {gs : List Nat} {d : Option Nat} {sz : Nat} {x : Opd} {lo hi : Option Opd} {os : List AOper} : A9 P md lw gs (⟨d, .cut sz x lo hi, none⟩ :: os) K ⟨e, n, H⟩ = Af P d (.cut sz x lo hi) (A9 P md lw gs os K) ⟨e, n, H⟩ := rfl
theorem LQ {md : Mode} {lw : Nat} {gs : List Nat} {d : Option Nat} {x : Opd} {lo hi : Option Opd} {os : List AOper} : A9 P md lw gs (⟨d, .cutS x lo hi, none⟩ :: os) K ⟨e, n, H⟩ = Af P d (.cutS x lo hi) (A9 P md lw gs os K) ⟨e, n, H⟩ := rfl
theorem L7 {md : Mode} {lw : Nat} {gs : List Nat} {d : Option Nat} {x : Opd} {off : Nat} {s : BR} {os : List AOper} : A9 P md lw gs (⟨d, .faddr x off s, none⟩ :: os) K ⟨e, n, H⟩ = Af P d (.faddr x off s) (A9 P md lw gs os K) ⟨e, n, H⟩ := rfl
theorem OM {md : Mode} {lw : Nat} {gs : List Nat} {d : Option Nat} {x : Opd} {off : Nat} {s : BR} {os : List AOper} : A9 P md lw gs (⟨d, .field x off s, none⟩ :: os) K ⟨e, n, H⟩ = Af P d (.field x off s) (A9 P md lw gs os K) ⟨e, n, H⟩ := rfl
theorem Ot {md : Mode} {lw : Nat} {gs : List Nat} {d : Option Nat} {sz : Nat} {s : BR} {x i : Opd} {os : List AOper} : A9 P md lw gs (⟨d, .iaddr sz s x i, none⟩ :: os) K ⟨e, n, H⟩ = Af P d (.iaddr sz s x i) (A9 P md lw gs os K) ⟨e, n, H⟩ := rfl
theorem ON {md : Mode} {lw : Nat} {gs : List Nat} {d : Option Nat} {len sz : Nat} {s : BR} {x i : Opd} {os : List AOper} : A9 P md lw gs (⟨d, .aaddr len sz s x i, none⟩ :: os) K ⟨e, n, H⟩ = Af P d (.aaddr len sz s x i) (A9 P md lw gs os K) ⟨e, n, H⟩ := rfl
theorem Mg {md : Mode} {lw : Nat} {gs : List Nat} {d : Option Nat} {x i : Opd} {os : List AOper} : A9 P md lw gs (⟨d, .sidx x i, none⟩ :: os) K ⟨e, n, H⟩ = Af P d (.sidx x i) (A9 P md lw gs os K) ⟨e, n, H⟩ := rfl
theorem Mn {md : Mode} {lw : Nat} {gs : List Nat} {d : Option Nat} {len sz : Nat} {s : BR} {x i : Opd} {os : List AOper} : A9 P md lw gs (⟨d, .aidx len sz s x i, none⟩ :: os) K ⟨e, n, H⟩ = Af P d (.aidx len sz s x i) (A9 P md lw gs os K) ⟨e, n, H⟩ := rfl
theorem N2 {md : Mode} {lw : Nat} {gs : List Nat} {d : Option Nat} {x : Opd} {os : List AOper} : A9 P md lw gs (⟨d, .len x, none⟩ :: os) K ⟨e, n, H⟩ = Af P d (.len x) (A9 P md lw gs os K) ⟨e, n, H⟩ := rfl
theorem OA {md : Mode} {lw : Nat} {gs : List Nat} {d : Option Nat} {x : Opd} {os : List AOper} : A9 P md lw gs (⟨d, .lenS x, none⟩ :: os) K ⟨e, n, H⟩ = Af P d (.lenS x) (A9 P md lw gs os K) ⟨e, n, H⟩ := rfl
theorem O5 {md : Mode} {lw : Nat} {gs : List Nat} {d : Option Nat} {j : Nat} {os : List AOper} : A9 P md lw gs (⟨d, .clen j, none⟩ :: os) K ⟨e, n, H⟩ = Af P d (.clen j) (A9 P md lw gs os K) ⟨e, n, H⟩ := rfl
theorem Ln {md : Mode} {lw : Nat} {gs : List Nat} {d : Option Nat} {x : Opd} {i : Nat} {os : List AOper} : A9 P md lw gs (⟨d, .extr x i, none⟩ :: os) K ⟨e, n, H⟩ = Af P d (.extr x i) (A9 P md lw gs os K) ⟨e, n, H⟩ := rfl
theorem O8 {md : Mode} {lw : Nat} {gs : List Nat} {d : Option Nat} {x : Opd} {os : List AOper} : A9 P md lw gs (⟨d, .nilck x, none⟩ :: os) K ⟨e, n, H⟩ = Af P d (.nilck x) (A9 P md lw gs os K) ⟨e, n, H⟩ := rfl
theorem MU {md : Mode} {lw : Nat} {gs : List Nat} {d : Option Nat} {z : List AV} {ps : List (Nat × BR × Opd)} {os : List AOper} : A9 P md lw gs (⟨d, .build z ps, none⟩ :: os) K ⟨e, n, H⟩ = Af P d (.build z ps) (A9 P md lw gs os K) ⟨e, n, H⟩ := rfl
theorem F9 {md : Mode} {lw : Nat} {gs : List Nat} {d : Option Nat} {mx : Bool} {x y : Opd} {os : List AOper} : A9 P md lw gs (⟨d, .mm mx x y, none⟩ :: os) K ⟨e, n, H⟩ = Af P d (.mm mx x y) (A9 P md lw gs os K) ⟨e, n, H⟩ := rfl
theorem Oi {md : Mode} {lw : Nat} {gs : List Nat} {d : Option Nat} {x : Opd} {os : List AOper} : A9 P md lw gs (⟨d, .b2s x, none⟩ :: os) K ⟨e, n, H⟩ = Af P d (.b2s x) (A9 P md lw gs os K) ⟨e, n, H⟩ := rfl
theorem OY {md : Mode} {lw : Nat} {gs : List Nat} {d : Option Nat} {x : Opd} {os : List AOper} : A9 P md lw gs (⟨d, .r2s x, none⟩ :: os) K ⟨e, n, H⟩ = Af P d (.r2s x) (A9 P md lw gs os K) ⟨e, n, H⟩ := rfl
theorem Nu {md : Mode} {lw : Nat} {gs : List Nat} {d : Option Nat} {x : Opd} {os : List AOper} : A9 P md lw gs (⟨d, .upc x, none⟩ :: os) K ⟨e, n, H⟩ = Af P d (.upc x) (A9 P md lw gs os K) ⟨e, n, H⟩ := rfl
theorem LF {md : Mode} {lw : Nat} {gs : List Nat} {d : Option Nat} {neg : Bool} {x y : Opd} {os : List AOper} : A9 P md lw gs (⟨d, .eqpp neg x y, none⟩ :: os) K ⟨e, n, H⟩ = Af P d (.eqpp neg x y) (A9 P md lw gs os K) ⟨e, n, H⟩ := rfl
theorem Mw {md : Mode} {lw : Nat} {gs : List Nat} {d : Option Nat} {u : TypeId} {x : Opd} {os : List AOper} : A9 P md lw gs (⟨d, .updn u x, none⟩ :: os) K ⟨e, n, H⟩ = Af P d (.updn u x) (A9 P md lw gs os K) ⟨e, n, H⟩ := rfl
theorem Ng {md : Mode} {lw : Nat} {gs : List Nat} {d : Option Nat} {el : TypeId} {x : Opd} {os : List AOper} : A9 P md lw gs (⟨d, .usd el x, none⟩ :: os) K ⟨e, n, H⟩ = Af P d (.usd el x) (A9 P md lw gs os K) ⟨e, n, H⟩ := rfl
theorem Nm {md : Mode} {lw : Nat} {gs : List Nat} {d : Option Nat} {el : TypeId} {x j : Opd} {os : List AOper} : A9 P md lw gs (⟨d, .ust el x j, none⟩ :: os) K ⟨e, n, H⟩ = Af P d (.ust el x j) (A9 P md lw gs os K) ⟨e, n, H⟩ := rfl
theorem Mt {md : Mode} {lw : Nat} {gs : List Nat} {d : Option Nat} {el : TypeId} {s : BR} {x : Opd} {os : List AOper} : A9 P md lw gs (⟨d, .box el s x, none⟩ :: os) K ⟨e, n, H⟩ = Af P d (.box el s x) (A9 P md lw gs os K) ⟨e, n, H⟩ := rfl
theorem Nr {md : Mode} {lw : Nat} {gs : List Nat} {d : Option Nat} {el : TypeId} {s : BR} {xs : List Opd} {os : List AOper} : A9 P md lw gs (⟨d, .bsl el s xs, none⟩ :: os) K ⟨e, n, H⟩ = (Fy s (xs.map (ev e)) ∧ RH md lw (Bn s) (xs.map (ev e)) (.row el xs.length) d (A9 P md lw gs os K) e n H) := by
 have h : Fy s (xs.map (ev e)) = (∀ x ∈ xs, (ev e x).fits s = true ∧ ones (ev e x).cells) := by simp [Fy, BQ]
 rw [h]; rfl
theorem Np {md : Mode} {lw : Nat} {gs : List Nat} {d : Option Nat} {el sz by_ : Nat} {x y : Opd} {os : List AOper} : A9 P md lw gs (⟨d, .app el sz by_ x y, none⟩ :: os) K ⟨e, n, H⟩ = (Pb gs (ev e x) ∧ appKS el sz by_ d (KM gs H (A9 P md lw gs os K)) ⟨e, n, H⟩ (ev e x) (ev e y)) := rfl
theorem KM.of {gs : List Nat} {H : A6} {s : AS} (h : K s) : KM gs H K s := fun _ => h
theorem KC.of {gs : List Nat} {H : A6} {s : AS} (h : KeepM gs H s.H) (h' : K s) : KC gs H K s := ⟨h, h'⟩
theorem M1 {gs : List Nat} {z : Nat} {l : List AV} {t : Tok} : Pb gs (.sl z l t) = True := rfl
theorem Nw {gs : List Nat} {z g k : Nat} : Pb gs (.slg z g k) = (g ∈ gs) := rfl
theorem Nb {md : Mode} {lw : Nat} {gs : List Nat} {d : Option Nat} {el by_ : Nat} {x y : Opd} {os : List AOper} : A9 P md lw gs (⟨d, .appB el by_ x y, none⟩ :: os) K ⟨e, n, H⟩ = Af P d (.appB el by_ x y) (A9 P md lw gs os K) ⟨e, n, H⟩ := rfl
theorem Oh {md : Mode} {lw : Nat} {gs : List Nat} {d : Option Nat} {el : TypeId} {x : Opd} {os : List AOper} : A9 P md lw gs (⟨d, .s2b el x, none⟩ :: os) K ⟨e, n, H⟩ = Af P d (.s2b el x) (A9 P md lw gs os K) ⟨e, n, H⟩ := rfl
theorem On {md : Mode} {lw : Nat} {gs : List Nat} {d : Option Nat} {x : Opd} {os : List AOper} : A9 P md lw gs (⟨d, .s2s x, none⟩ :: os) K ⟨e, n, H⟩ = Af P d (.s2s x) (A9 P md lw gs os K) ⟨e, n, H⟩ := rfl
theorem OO {md : Mode} {lw : Nat} {gs : List Nat} {d : Option Nat} {kk : Option IntKind} {os : List AOper} : A9 P md lw gs (⟨d, .mkmap kk, none⟩ :: os) K ⟨e, n, H⟩ = Af P d (.mkmap kk) (A9 P md lw gs os K) ⟨e, n, H⟩ := rfl
theorem OK {md : Mode} {lw : Nat} {gs : List Nat} {d : Option Nat} {kk : Option IntKind} {m k v : Opd} {os : List AOper} : A9 P md lw gs (⟨d, .mset kk m k v, none⟩ :: os) K ⟨e, n, H⟩ = Af P d (.mset kk m k v) (A9 P md lw gs os K) ⟨e, n, H⟩ := rfl
theorem Mo {md : Mode} {lw : Nat} {gs : List Nat} {d : Option Nat} {kk : Option IntKind} {z : AV} {ok : Bool} {m k : Opd} {os : List AOper} : A9 P md lw gs (⟨d, .mget kk z ok m k, none⟩ :: os) K ⟨e, n, H⟩ = KS (DQ (BM gs H) kk z ok (ev e m) (ev e k)) d (A9 P md lw gs os K) e n H := rfl
theorem Ny {md : Mode} {lw : Nat} {gs : List Nat} {d : Option Nat} {f : Nat} {xs : List Opd} {os : List AOper} : A9 P md lw gs (⟨d, .call f xs, none⟩ :: os) K ⟨e, n, H⟩ = CallK P f (xs.map (ev e)) d (KC gs H (A9 P md lw gs os K)) ⟨e, n, H⟩ := rfl
theorem LK {md : Mode} {lw : Nat} {gs : List Nat} {d : Option Nat} {f : Nat} {xs : List Opd} {os : List AOper} : A9 P md lw gs (⟨d, .callp f xs, none⟩ :: os) K ⟨e, n, H⟩ = Af P d (.callp f xs) (A9 P md lw gs os K) ⟨e, n, H⟩ := rfl
theorem Nz {md : Mode} {lw : Nat} {gs : List Nat} {d : Option Nat} {f : Opd} {xs : List Opd} {os : List AOper} : A9 P md lw gs (⟨d, .callv f xs, none⟩ :: os) K ⟨e, n, H⟩ = Af P d (.callv f xs) (A9 P md lw gs os K) ⟨e, n, H⟩ := rfl
theorem Lk {lo : Nat} {gs : List Nat} {x : Opd} {v : AV} : IV .plain lo gs x v = True := rfl
theorem MJ {lo : Nat} {gs : List Nat} {x : Opd} {v : AV} : IV .free lo gs x v = True := rfl
theorem LD {lo : Nat} {gs : List Nat} {x : Opd} {v : AV} : IV .late lo gs x v = Qy gs v := rfl
theorem NK {lo : Nat} {gs : List Nat} {q i : Nat} {v : AV} : IV (.last q) lo gs (.t i) v = ((i = q → QJ lo gs v) ∧ (i ≠ q → QT lo gs v)) := rfl
theorem MA {lo : Nat} {gs : List Nat} {g o : Nat} : QJ lo gs (.ptr g o) = (g < lo ∧ g ∉ gs) := rfl
theorem LX {lo : Nat} {gs : List Nat} {g o : Nat} : QT lo gs (.ptr g o) = (lo ≤ g ∨ g ∈ gs) := rfl
theorem LJ {gs : List Nat} {g o : Nat} : Qy gs (.ptr g o) = (g ∈ gs) := rfl
theorem Hv {a : Nat} {gs : List Nat} {H : A6} {k : Nat} : BM (a :: gs) H k = if k = a then none else BM gs H k := rfl
theorem M3 {H : A6} {k : Nat} : BM [] H k = H k := rfl
theorem HV {d : Option Nat} {x : Opd} : Af P d (.mv x) K ⟨e, n, H⟩ = KS (some (ev e x)) d K e n H := rfl
theorem LU {d : Option Nat} {c a b : Opd} : Af P d (.pick c a b) K ⟨e, n, H⟩ = KS (match ev e c with | .bool t => some (if t then ev e a else ev e b) | _ => none) d K e n H := rfl
theorem FT {d : Option Nat} {o : BinOp} {x y : Opd} : Af P d (.bin o x y) K ⟨e, n, H⟩ = KS (Dm o (ev e x) (ev e y)) d K e n H := rfl
theorem Fd {d : Option Nat} {ks : List FK} {ng : Bool} {x y : Opd} : Af P d (.eqs ks ng x y) K ⟨e, n, H⟩ = KS (Ju ks ng (ev e x) (ev e y)) d K e n H := rfl
theorem FO {d : Option Nat} {ng : Bool} {x y : Opd} : Af P d (.eqb ng x y) K ⟨e, n, H⟩ = KS (K2 ng (ev e x) (ev e y)) d K e n H := rfl
theorem Fi {d : Option Nat} {ng : Bool} {x : Opd} : Af P d (.eqn ng x) K ⟨e, n, H⟩ = KS (HG ng (ev e x)) d K e n H := rfl
theorem FD {d : Option Nat} {ng : Bool} {x : Opd} : Af P d (.eqp ng x) K ⟨e, n, H⟩ = KS ((Ct (ev e x)).map (TF ng)) d K e n H := rfl
theorem FC {d : Option Nat} {ng : Bool} {x : Opd} : Af P d (.eqi ng x) K ⟨e, n, H⟩ = KS ((DJ (ev e x)).map (TF ng)) d K e n H := rfl
theorem F5 {d : Option Nat} {x : Opd} : Af P d (.neg x) K ⟨e, n, H⟩ = KS (KF (ev e x)) d K e n H := rfl
theorem FW {d : Option Nat} {x : Opd} : Af P d (.not x) K ⟨e, n, H⟩ = KS (Jz (ev e x)) d K e n H := rfl
theorem Fc {d : Option Nat} {k : IntKind} {x : Opd} : Af P d (.cvi k x) K ⟨e, n, H⟩ = KS (KD k (ev e x)) d K e n H := rfl
theorem Lb {d : Option Nat} {f : Nat} {a b : List Opd} : Af P d (.mkfn f a b) K ⟨e, n, H⟩ = KS (some (.fn f (a.map (ev e)) (b.map (ev e)))) d K e n H := rfl
theorem O9 {d : Option Nat} {x : Opd} {lo hi : Option Opd} : Af P d (.cutS x lo hi) K ⟨e, n, H⟩ = KS (EI (ev e x) (lo.map (ev e)) (hi.map (ev e))) d K e n H := rfl
theorem FZ {d : Option Nat} {sz : Nat} {x : Opd} {lo hi : Option Opd} : Af P d (.cut sz x lo hi) K ⟨e, n, H⟩ = KS (Fw sz (ev e x) (lo.map (ev e)) (hi.map (ev e))) d K e n H := rfl
theorem NH {d : Option Nat} {x : Opd} {o : Nat} {s : BR} : Af P d (.faddr x o s) K ⟨e, n, H⟩ = KS (Gn (ev e x) o s) d K e n H := rfl
theorem LB {d : Option Nat} {x : Opd} {o : Nat} {s : BR} : Af P d (.field x o s) K ⟨e, n, H⟩ = KS (EN (ev e x) o s) d K e n H := rfl
theorem Mu {d : Option Nat} {sz : Nat} {s : BR} {x i : Opd} : Af P d (.iaddr sz s x i) K ⟨e, n, H⟩ = KS (C8 sz s (ev e x) (ev e i)) d K e n H := rfl
theorem Mp {d : Option Nat} {l sz : Nat} {s : BR} {x i : Opd} : Af P d (.aaddr l sz s x i) K ⟨e, n, H⟩ = KS (GV l sz s (ev e x) (ev e i)) d K e n H := rfl
theorem ML {d : Option Nat} {x i : Opd} : Af P d (.sidx x i) K ⟨e, n, H⟩ = KS (Ge (ev e x) (ev e i)) d K e n H := rfl
theorem OW {d : Option Nat} {l sz : Nat} {s : BR} {x i : Opd} : Af P d (.aidx l sz s x i) K ⟨e, n, H⟩ = KS (Gb l sz s (ev e x) (ev e i)) d K e n H := rfl
theorem FG {d : Option Nat} {x : Opd} : Af P d (.len x) K ⟨e, n, H⟩ = KS (S7 (ev e x)) d K e n H := rfl
theorem OR {d : Option Nat} {x : Opd} : Af P d (.lenS x) K ⟨e, n, H⟩ = KS (Ga (ev e x)) d K e n H := rfl
theorem No {d : Option Nat} {m : Nat} : Af P d (.clen m) K ⟨e, n, H⟩ = KS (some (.int .i64 m)) d K e n H := rfl
theorem OF {d : Option Nat} {x : Opd} {i : Nat} : Af P d (.extr x i) K ⟨e, n, H⟩ = KS (GX i (ev e x)) d K e n H := rfl
theorem O4 {d : Option Nat} {x : Opd} : Af P d (.nilck x) K ⟨e, n, H⟩ = KS (EM (ev e x)) d K e n H := rfl
theorem Lt {d : Option Nat} {s : BR} {x : Opd} : Af P d (.load s x) K ⟨e, n, H⟩ = KS (BO H s (ev e x)) d K e n H := rfl
theorem M2 {d : Option Nat} {z : List AV} {ps : List (Nat × BR × Opd)} : Af P d (.build z ps) K ⟨e, n, H⟩ = KS (E3 z (ps.map fun (o, s, x) => (o, s, ev e x))) d K e n H := by
 have h : (ps.map fun (o, _, x) => (o, ev e x)) = (ps.map fun (o, s, x) => (o, s, ev e x)).map fun (o, _, x) => (o, x) := by rw [List.map_map]; rfl
 show K1 (if _ then some (.agg (FU z _)) else none) _ = _
 rw [h]; unfold KS E3; split <;> rfl
theorem Hj {d : Option Nat} {mx : Bool} {x y : Opd} : Af P d (.mm mx x y) K ⟨e, n, H⟩ = KS (Us mx (ev e x) (ev e y)) d K e n H := rfl
theorem FY {d : Option Nat} {x : Opd} : Af P d (.b2s x) K ⟨e, n, H⟩ = KS (Jt (ev e x)) d K e n H := rfl
theorem FP {d : Option Nat} {x : Opd} : Af P d (.r2s x) K ⟨e, n, H⟩ = KS (Jx (ev e x)) d K e n H := rfl
theorem F6 {d : Option Nat} {x : Opd} : Af P d (.upc x) K ⟨e, n, H⟩ = KS (E7 H (ev e x)) d K e n H := rfl
theorem Fb {d : Option Nat} {el : TypeId} {x : Opd} : Af P d (.usd el x) K ⟨e, n, H⟩ = KS (E1 H el (ev e x)) d K e n H := rfl
theorem Oo {d : Option Nat} {ng : Bool} {x y : Opd} : Af P d (.eqpp ng x y) K ⟨e, n, H⟩ = KS (Gd ng (ev e x) (ev e y)) d K e n H := rfl
theorem N5 {d : Option Nat} {u : TypeId} {x : Opd} : Af P d (.updn u x) K ⟨e, n, H⟩ = KS (CI P H u (ev e x)) d K e n H := rfl
theorem FI {d : Option Nat} {t : TypeId} {x m : Opd} : Af P d (.ust t x m) K ⟨e, n, H⟩ = KS (DI t (ev e x) (ev e m)) d K e n H := rfl
theorem OJ {d : Option Nat} {t : TypeId} {z : List AV} : Af P d (.alloc t z) K ⟨e, n, H⟩ = (ones z ∧ UJ (.cells t z) d K e n H) := rfl
theorem FF {d : Option Nat} {t : TypeId} {sh : BR} {x : Opd} : Af P d (.box t sh x) K ⟨e, n, H⟩ = ((BQ sh (ev e x) ∧ UJ (.cells t (ev e x).cells) d K e n H)) := propext and_assoc.symm
theorem NX {d : Option Nat} {sh : BR} {x v : Opd} : Af P d (.store sh x v) K ⟨e, n, H⟩ = CF sh d K ⟨e, n, H⟩ (ev e v) (ev e x) := rfl
def newB (el sz : Nat) (l : List AV) (d : Option Nat) (K : AS → Prop) (e : Ai) (n : Nat) (H : A6) : Prop := S6 sz l (.row el l.length) d K e n H ∨ ∀ g, n ≤ g → K ⟨Ad e d (.slm sz g 0 l.length), g + 1, upd H g (some (.cells el (Ae l)))⟩
theorem AB {el sz : Nat} {l : List AV} {d : Option Nat} (h : S6 sz l (.row el l.length) d K e n H) : newB el sz l d K e n H := .inl h
theorem F4 {d : Option Nat} {t : TypeId} {sh : BR} {xs : List Opd} : Af P d (.bsl t sh xs) K ⟨e, n, H⟩ = (Fy sh (xs.map (ev e)) ∧ newB t (Bn sh) (xs.map (ev e)) d K e n H) := by
 have h : Fy sh (xs.map (ev e)) = (∀ x ∈ xs, (ev e x).fits sh = true ∧ ones (ev e x).cells) := by simp [Fy, BQ]
 rw [h]
 unfold newB S6
 rw [List.length_map]; rfl
theorem FB {d : Option Nat} {t sz b : Nat} {x y : Opd} : Af P d (.app t sz b x y) K ⟨e, n, H⟩ = appKS t sz b d K ⟨e, n, H⟩ (ev e x) (ev e y) := rfl
theorem M7 {d : Option Nat} {t b : Nat} {x y : Opd} : Af P d (.appB t b x y) K ⟨e, n, H⟩ = Km t b d K ⟨e, n, H⟩ (ev e x) (ev e y) := rfl
theorem Fa {d : Option Nat} {t : TypeId} {x : Opd} : Af P d (.s2b t x) K ⟨e, n, H⟩ = Jp d K e n H (ev e x) := rfl
theorem F8 {d : Option Nat} {x : Opd} : Af P d (.s2s x) K ⟨e, n, H⟩ = Jv d K e n H (ev e x) := rfl
theorem Ll {d : Option Nat} {kk : Option IntKind} : Af P d (.mkmap kk) K ⟨e, n, H⟩ = Xa kk d K e n H := rfl
theorem N0 {d : Option Nat} {kk : Option IntKind} {m k v : Opd} : Af P d (.mset kk m k v) K ⟨e, n, H⟩ = Dl kk d K ⟨e, n, H⟩ (ev e k) (ev e v) (ev e m) := rfl
def YH (m : Nat) (o : Option AObj) (d : Option Nat) (K : AS → Prop) (e : Ai) (n : Nat) (H : A6) : Prop := match o with
 | some (.map _ es) => ∀ g, n ≤ g → K ⟨Ad e d (.ptr g 0), g + 1, upd H g (some (.iter m es.length (List.range es.length) none))⟩
 | _ => False
def Xg (g m len : Nat) (left : List Nat) (o : Option AObj) (d : Option Nat) (K : AS → Prop) (e : Ai) (n : Nat) (H : A6) : Prop := match o with
 | some (.map _ es) => es.length = len ∧ (left = [] → K ⟨Ad e d (.tup [.bool false]), n, H⟩) ∧ ∀ j ∈ left, ∀ k v, es[j]? = some (k, v) → K ⟨Ad e d (.tup [.bool true, k, v]), n, upd H g (some (.iter m len (left.erase j) (some j)))⟩
 | _ => False
def Xi (g : Nat) (o : Option AObj) (d : Option Nat) (K : AS → Prop) (e : Ai) (n : Nat) (H : A6) : Prop := match o with
 | some (.iter m len left _) => Xg g m len left (H m) d K e n H
 | _ => False
theorem MX {g m len : Nat} {left : List Nat} {cur d : Option Nat} : Xi g (some (.iter m len left cur)) d K e n H = Xg g m len left (H m) d K e n H := rfl
theorem OI {m : Nat} {d : Option Nat} : Lz d K ⟨e, n, H⟩ (.mp m) = YH m (H m) d K e n H := rfl
theorem Mc {g : Nat} {d : Option Nat} : LG d K ⟨e, n, H⟩ (.ptr g 0) = Xi g (H g) d K e n H := propext ⟨fun h => h.2, fun h => ⟨rfl, h⟩⟩
def YC (el : TypeId) (z : AV) (m : Nat) (d : Option Nat) (K : AS → Prop) (e : Ai) (n : Nat) (H : A6) : Prop := ∀ g, n ≤ g → K ⟨Ad e d (.slm 1 g 0 m), g + 1, upd H g (some (.cells el (List.replicate m z)))⟩
theorem Ls {el : TypeId} {b : Nat} {z : AV} {d : Option Nat} {k k' : IntKind} {p q : Int} : Il el b z d K ⟨e, n, H⟩ (.int k p) (.int k' q) = (p = q ∧ 0 ≤ p ∧ (b : Int) * p ≤ 281474976710656 ∧ p ≤ maxLen ∧ YC el z p.toNat d K e n H) := rfl
theorem Lr {d : Option Nat} {el : TypeId} {b : Nat} {z : AV} {x y : Opd} : Af P d (.mksl el b z x y) K ⟨e, n, H⟩ = Il el b z d K ⟨e, n, H⟩ (ev e x) (ev e y) := rfl
theorem FJ {d : Option Nat} {x : Opd} : Af P d (.rng x) K ⟨e, n, H⟩ = Lz d K ⟨e, n, H⟩ (ev e x) := rfl
theorem FM {d : Option Nat} {x : Opd} : Af P d (.nxt x) K ⟨e, n, H⟩ = LG d K ⟨e, n, H⟩ (ev e x) := rfl
theorem F7 {d : Option Nat} {x : Opd} : Af P d (.ent x) K ⟨e, n, H⟩ = KS (Gk H (ev e x)) d K e n H := rfl
theorem Ml {d : Option Nat} {kk : Option IntKind} {z : AV} {ok : Bool} {m k : Opd} : Af P d (.mget kk z ok m k) K ⟨e, n, H⟩ = KS (DQ H kk z ok (ev e m) (ev e k)) d K e n H := rfl
theorem LW {d : Option Nat} {f : Nat} {xs : List Opd} : Af P d (.call f xs) K ⟨e, n, H⟩ = CallK P f (xs.map (ev e)) d K ⟨e, n, H⟩ := rfl
theorem NZ {d : Option Nat} {f : Nat} {xs : List Opd} : Af P d (.callp f xs) K ⟨e, n, H⟩ = CallP P f (xs.map (ev e)) d K ⟨e, n, H⟩ := rfl
theorem La {d : Option Nat} {x : Opd} {xs : List Opd} : Af P d (.callv x xs) K ⟨e, n, H⟩ = BL P d K e n H (xs.map (ev e)) (ev e x) := rfl
theorem U5 {el sz by_ z z' : Nat} {d : Option Nat} {m m' : List AV} {t : Tok} (hz : z' = sz ∨ m = []) (hs : AK m m') (hm : m ≠ []) (hb : m.length * by_ ≤ 140737488355328) (hx : m.length ≤ maxLen) (h : ∀ g, n ≤ g → K ⟨Ad e d (.sl sz m' (.own g)), g + 1, upd H g (some (.row el m'.length))⟩) : appKS el sz by_ d K ⟨e, n, H⟩ (.sl z [] .nil) (.sl z' m t) := by
 have hl := CS hs
 exact ⟨hz, m', hs, by simpa [hl] using hb, by simpa [hl] using hx, fun h' => absurd h' (fun e => hm (List.length_eq_zero_iff.1 (by rw [hl, e]; rfl))), fun _ => .inl h⟩
theorem Sa {el sz by_ z z' : Nat} {d : Option Nat} {m m' : List AV} {t : Tok} (hz : z' = sz ∨ m = []) (hs : AK m m') (hm : m ≠ []) (hb : m.length * by_ ≤ 140737488355328) (hx : m.length ≤ maxLen) (h : ∀ g, n ≤ g → K ⟨Ad e d (.slg sz g m'.length), g + 1, upd H g (some (.grow el (Ae m')))⟩) : appKS el sz by_ d K ⟨e, n, H⟩ (.sl z [] .nil) (.sl z' m t) := by
 have hl := CS hs
 exact ⟨hz, m', hs, by simpa [hl] using hb, by simpa [hl] using hx, fun h' => absurd h' (fun e => hm (List.length_eq_zero_iff.1 (by rw [hl, e]; rfl))), fun _ => .inr h⟩
theorem Sf {el sz by_ g0 k z' : Nat} {d : Option Nat} {m m' cs : List AV} {t : Tok} (hz : z' = sz ∨ m = []) (hs : AK m m') (hr : H g0 = some (.grow el cs)) (hc : cs.length = k * sz) (hb : (k + m.length) * by_ ≤ 140737488355328) (hx : k + m.length ≤ maxLen) (h : ∀ g n', (g = g0 ∨ n ≤ g) → n ≤ n' → g < n' → K ⟨Ad e d (.slg sz g (k + m'.length)), n', upd (upd H g0 none) g (some (.grow el (cs ++ Ae m')))⟩) : appKS el sz by_ d K ⟨e, n, H⟩ (.slg sz g0 k) (.sl z' m t) := by
 have hl := CS hs
 refine ⟨hz, m', hs, rfl, by rw [← hl]; exact hb, by rw [← hl]; exact hx, ?_⟩
 show KT el sz by_ d K ⟨e, n, H⟩ g0 k m' (H g0)
 rw [hr]
 exact ⟨rfl, hc, h⟩
theorem Tg {el sz by_ g0 z' : Nat} {d : Option Nat} {l m m' : List AV} {t : Tok} (hz : z' = sz ∨ m = []) (hs : AK m m') (hr : H g0 = some (.row el l.length)) (hb : (l.length + m.length) * by_ ≤ 140737488355328) (hx : l.length + m.length ≤ maxLen) (h : ∀ g n', (g = g0 ∨ n ≤ g) → n ≤ n' → g < n' → K ⟨Ad e d (.sl sz (l ++ m') (.own g)), n', upd (upd H g0 none) g (some (.row el (l.length + m'.length)))⟩) : appKS el sz by_ d K ⟨e, n, H⟩ (.sl sz l (.own g0)) (.sl z' m t) := by
 have hl := CS hs
 exact ⟨hz, m', hs, by rw [← hl]; exact hb, by rw [← hl]; exact hx, rfl, hr, h⟩
theorem L8 {X : AS → Prop} {s : AS} : ED X Q .normal s = X s := rfl
theorem MP {X : AS → Prop} {s : AS} {i : Nat} : ED X Q (.exit i) s = Q (.exit i) s := rfl
theorem LM {X : AS → Prop} {s : AS} : ED X Q .ret s = Q .ret s := rfl
theorem Lo {id : Nat} {s : AS} : EX id Q .normal s = Q .normal s := rfl
theorem K7 {id i : Nat} {s : AS} : EX id Q (.exit i) s = if i = id then Q .normal s else Q (.exit i) s := rfl
theorem OV {id : Nat} {s : AS} : EX id Q .ret s = Q .ret s := rfl
end
/-! ### simp looks at what is known, not into what follows -/
section
variable {P : Program} {K : AS → Prop} {Q : AExit → AS → Prop} {d : Option Nat} {n : Nat}
end
abbrev zM (d s : Nat) : AOper := ⟨some d, .mv (.t s), none⟩
abbrev zL (d s : Nat) : AOper := ⟨some d, .load none (.t s), none⟩
abbrev zF (d s k : Nat) : AOper := ⟨some d, .faddr (.t s) k none, none⟩
abbrev zG (d k s : Nat) : AOper := ⟨some d, .load (some k) (.t s), none⟩
abbrev zX (d s k : Nat) : AOper := ⟨some d, .extr (.t s) k, none⟩
abbrev zI (d : Nat) (k : Int) : AOper := ⟨some d, .mv (.c (.int .i64 k)), none⟩
abbrev zB (d : Nat) (b : Bool) : AOper := ⟨some d, .mv (.c (.bool b)), none⟩
abbrev zS (k a b : Nat) : AOper := ⟨none, .store (some k) (.t a) (.t b), none⟩
abbrev zU (a b : Nat) : AOper := ⟨none, .store none (.t a) (.t b), none⟩
abbrev zP (d a b : Nat) : AOper := ⟨some d, .pick (.t a) (.t b) (.c (.bool false)), none⟩
abbrev zO (d a b : Nat) : AOper := ⟨some d, .pick (.t a) (.c (.bool true)) (.t b), none⟩
abbrev zV (d f a : Nat) : AOper := ⟨some d, .callp f [.t a], none⟩
abbrev zW (d f a b : Nat) : AOper := ⟨some d, .callp f [.t a, .t b], none⟩
abbrev zN (d s : Nat) : AOper := ⟨some d, .not (.t s), none⟩
abbrev zY (d s : Nat) : AOper := ⟨some d, .len (.t s), none⟩
abbrev zZ (d s : Nat) : AOper := ⟨some d, .nilck (.t s), none⟩
abbrev zH (d e k s : Nat) : AOper := ⟨some d, .box e (some k) (.t s), none⟩
abbrev zJ (d k a b : Nat) : AOper := ⟨some d, .iaddr k none (.t a) (.t b), none⟩
abbrev zD (d : Nat) (o : BinOp) (a b : Nat) : AOper := ⟨some d, .bin o (.t a) (.t b), none⟩
abbrev zE (d : Nat) (o : BinOp) (a : Nat) (k : Int) : AOper := ⟨some d, .bin o (.t a) (.c (.int .i64 k)), none⟩
end Go.Proofs.YtjdccdelcnmocaaGreatDoor
