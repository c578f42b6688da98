/- What is asked at a function's end, and how a function's contract comes of its code; no condition. -/
import Derived.Test.YtjdccdelcnmocaaGreatDoorMgC
set_option linter.all false
set_option linter.unusedSimpArgs false
set_option linter.unusedVariables false
namespace Go.Proofs.YtjdccdelcnmocaaGreatDoor
def Er (s : AS) : ARes → Option AV
 | .tmp t => some (get s.e t)
 | .cell t sh => BS s.H sh (get s.e t)
def CH (s : AS) : List ARes → Option (List AV)
 | [] => some []
 | r :: rs => match Er s r, CH s rs with | some x, some xs => some (x :: xs) | _, _ => none
def Br (s : AS) (rs : List ARes) : Option AV :=
 match CH s rs with
 | some [x] => some x
 | some xs => some (.tup xs)
 | none => none
def SameB (n : Nat) (H H' : A3) : Prop := ∀ k, k < n → H' k = H k
def QW (v : AV) (n : Nat) (H : A3) (res : List ARes) : AExit → AS → Prop
 | .normal, s | .ret, s => (∃ x, Br s res = some x ∧ AM x v) ∧ n ≤ s.n ∧ SameB n H s.H
 | _, _ => False
def fin (R : CJ) (n : Nat) (res : List ARes) : AExit → AS → Prop
 | .normal, s | .ret, s => ∃ r n' H', (∃ x, Br s res = some x ∧ AM x r) ∧ n ≤ n' ∧ n' ≤ s.n ∧ (∀ k, n' ≤ k → H' k = none) ∧ SameB n' H' s.H ∧ R r n' H'
 | _, _ => False
theorem SameB.rfl_ (n : Nat) (H : A3) : SameB n H H := fun _ _ => rfl
theorem AI {R : CJ} {n m : Nat} {res : List ARes} {e : AT} {H : A3} {r : AV} (h1 : Br ⟨e, m, H⟩ res = some r) (h2 : n ≤ m) (h3 : ∀ k, m ≤ k → H k = none) (h4 : R r m H) : fin R n res .ret ⟨e, m, H⟩ :=
 ⟨r, m, H, ⟨r, h1, A5 _⟩, h2, Nat.le_refl _, h3, SameB.rfl_ _ _, h4⟩
theorem SameB.upd {n : Nat} {H H' : A3} (h : SameB n H H') {g : Nat} (hg : n ≤ g) (x : Option AObj) : SameB n H (upd H' g x) := fun k hk => by
 unfold Go.Proofs.YtjdccdelcnmocaaGreatDoor.upd; rw [if_neg (by omega)]; exact h k hk
theorem AX (H : A3) (g : Nat) (x : Option AObj) : upd H g x g = x := by simp [upd]
theorem upd_ne {H : A3} {g k : Nat} {x : Option AObj} (h : k ≠ g) : upd H g x k = H k := by simp [upd, h]
theorem J4 (H : A3) (g : Nat) (x y : Option AObj) : upd (upd H g x) g y = upd H g y := by funext k; simp only [upd]; split <;> rfl
def WJ (ng t : Bool) : AV := .bool (if ng then !t else t)
def MC (ks : List FK) (ng : Bool) : AV → AV → Option AV
 | .agg a, .agg b => (Cz ks a b).map (WJ ng)
 | _, _ => none
def MV (ng : Bool) : AV → AV → Option AV
 | .bool a, .bool b => some (.bool (if ng then !(a == b) else a == b))
 | _, _ => none
def MF : AV → Option AV | .int k n => some (.int k (k.wrap (0 - n))) | _ => none
def MB : AV → Option AV | .bool b => some (.bool (!b)) | _ => none
def MU (k : IntKind) : AV → Option AV | .int _ n => some (.int k (k.wrap n)) | _ => none
def Fe (x : AV) (o : Nat) (s : BV) : Option AV := match x with | .agg cs => part cs o s | _ => none
def I3 : AV → AV → Option AV
 | .str s, .int _ j => if 0 ≤ j then (s[j.toNat]?).map fun b => .int .u8 b.toNat else none
 | _, _ => none
def I6 (len sz : Nat) (s : BV) : AV → AV → Option AV
 | .agg cs, .int _ j => if 0 ≤ j ∧ j < len then part cs (j.toNat * sz) s else none
 | _, _ => none
def Vj : AV → Option AV | .sl _ l _ => some (.int .i64 l.length) | .slm _ _ _ n => some (.int .i64 n) | .slg _ _ n => some (.int .i64 n) | _ => none
def Hz : AV → Option AV | .str s => some (.int .i64 s.length) | _ => none
def I4 (i : Nat) : AV → Option AV | .tup vs => vs[i]? | _ => none
def Fd : AV → Option AV | .ptr g o => some (.ptr g o) | .ref x => some (.ref x) | .fn f a b => if a.isEmpty then some (.fn f a b) else none | _ => none
def FD (z : List AV) (ps : List (Nat × BV × AV)) : Option AV := if Fk z.length ps then some (.agg (GZ z (ps.map fun (o, _, x) => (o, x)))) else none
def YP (mx : Bool) : AV → AV → Option AV
 | .int k a, .int k' b => if k = k' then some (.int k (if mx then max a b else min a b)) else none
 | _, _ => none
def ME : AV → Option AV | .sl _ l _ => (bytesOf l).map .str | _ => none
def M8 : AV → Option AV | .int _ n => some (.str (Utf8.encode n).data.toList) | _ => none
def I8 (ng : Bool) : AV → AV → Option AV
 | .ptr g o, .ptr g' o' => if g = g' then some (.bool (if ng then !(decide (o = o')) else decide (o = o'))) else none
 | _, _ => none
def M9 (d : Option Nat) (K : AS → Prop) (e : AT) (n : Nat) (H : A3) : AV → Prop
 | .str b => b.length ≤ maxLen ∧ ∀ n', n ≤ n' → K ⟨AN e d (.sl 1 (b.map fun u => .int .u8 u.toNat) .ro), n', H⟩
 | _ => False
def MW (d : Option Nat) (K : AS → Prop) (e : AT) (n : Nat) (H : A3) : AV → Prop
 | .sl sz l (.own g) => l ≠ [] ∧ K ⟨AN e d (.sl sz l .ro), n, upd H g none⟩
 | _ => False
def A1v (kk : Option IntKind) (d : Option Nat) (K : AS → Prop) (e : AT) (n : Nat) (H : A3) : Prop := ∀ g, n ≤ g → K ⟨AN e d (.mp g), g + 1, upd H g (some (.map kk []))⟩
def AH (P : Program) (d : Option Nat) (K : AS → Prop) (e : AT) (n : Nat) (H : A3) (xs : List AV) : AV → Prop
 | .fn f a b => Ae P f = true ∧ CallK P f (a ++ xs ++ b) d K ⟨e, n, H⟩
 | _ => False
def B0 (sh : BV) (x : AV) : Prop := x.fits sh = true ∧ ones x.cells
def HO (sh : BV) (l : List AV) : Prop := ∀ x ∈ l, B0 sh x
theorem OD {sh : BV} : HO sh [] = True := by simp [HO]
theorem Pi {sh : BV} {x : AV} {l : List AV} : HO sh (x :: l) = (B0 sh x ∧ HO sh l) := by simp [HO]
theorem NH {s : List UInt8} : B0 none (.str s) = True := by simp [B0, AV.fits, ones, AV.cells, AV.one]
theorem OL {k : IntKind} {i : Int} : B0 none (.int k i) = True := by simp [B0, AV.fits, ones, AV.cells, AV.one]
theorem Ng {b : Bool} : B0 none (.bool b) = True := by simp [B0, AV.fits, ones, AV.cells, AV.one]
theorem ML {z : Nat} {l : List AV} {t : Tok} : B0 none (.sl z l t) = True := by simp [B0, AV.fits, ones, AV.cells, AV.one]
theorem Pk {g o : Nat} : B0 none (.ptr g o) = True := by simp [B0, AV.fits, ones, AV.cells, AV.one]
theorem PY : B0 none .np = True := by simp [B0, AV.fits, ones, AV.cells, AV.one]
theorem Q6 {x : AV} : B0 none (.ref x) = True := by simp [B0, AV.fits, ones, AV.cells, AV.one]
theorem Nf {f : Nat} {a b : List AV} : B0 none (.fn f a b) = True := by simp [B0, AV.fits, ones, AV.cells, AV.one]
theorem Qc : B0 none .nfn = True := by simp [B0, AV.fits, ones, AV.cells, AV.one]
theorem Qv {t : Nat} {v : AV} : B0 none (.ifc t v) = True := by simp [B0, AV.fits, ones, AV.cells, AV.one]
theorem Of : B0 none .nif = True := by simp [B0, AV.fits, ones, AV.cells, AV.one]
theorem Ps {s : Nat} {cs : List AV} : B0 (some s) (.agg cs) = (cs.length = s ∧ ones cs) := by simp [B0, AV.fits, AV.cells]
def A0z (sh : BV) (d : Option Nat) (K : AS → Prop) (e : AT) (n : Nat) (H : A3) (v : AV) (g o : Nat) : Option AObj → Prop
 | some (.cells t cs) => B0 sh v ∧ o + v.cells.length ≤ cs.length ∧ K ⟨AN e d .any, n, upd H g (some (.cells t (splice cs o v.cells)))⟩
 | some (.grow t cs) => B0 sh v ∧ o + v.cells.length ≤ cs.length ∧ K ⟨AN e d .any, n, upd H g (some (.grow t (splice cs o v.cells)))⟩
 | _ => False
theorem OW {sh : BV} {d : Option Nat} {K : AS → Prop} {e : AT} {n : Nat} {H : A3} {v : AV} {g o : Nat} : Cc sh d K ⟨e, n, H⟩ v (.ptr g o) = A0z sh d K e n H v g o (H g) := by
 show (match H g with | some (.cells e' cs) => _ | some (.grow e' cs) => _ | _ => False) = _
 cases H g with
 | none => rfl
 | some ob => cases ob with
  | cells t cs => exact propext and_assoc.symm
  | grow t cs => exact propext and_assoc.symm
  | _ => rfl
theorem Oc {sh : BV} {d : Option Nat} {K : AS → Prop} {e : AT} {n : Nat} {H : A3} {v : AV} {g o : Nat} {t : TypeId} {cs : List AV} : A0z sh d K e n H v g o (some (.cells t cs)) = (B0 sh v ∧ o + v.cells.length ≤ cs.length ∧ K ⟨AN e d .any, n, upd H g (some (.cells t (splice cs o v.cells)))⟩) := rfl
theorem Qm {sh : BV} {d : Option Nat} {K : AS → Prop} {e : AT} {n : Nat} {H : A3} {v : AV} {g o : Nat} {t : TypeId} {cs : List AV} : A0z sh d K e n H v g o (some (.grow t cs)) = (B0 sh v ∧ o + v.cells.length ≤ cs.length ∧ K ⟨AN e d .any, n, upd H g (some (.grow t (splice cs o v.cells)))⟩) := rfl
theorem Qf {z g m : Nat} : Vj (.slg z g m) = some (.int .i64 m) := rfl
theorem Pb {sz z g m : Nat} {s : BV} {k : IntKind} {j : Int} : Cb sz s (.slg z g m) (.int k j) = if z = sz ∧ 0 ≤ j ∧ j < m then some (.ptr g (j.toNat * sz)) else none := rfl
theorem Qd {z g o m : Nat} : Vj (.slm z g o m) = some (.int .i64 m) := rfl
theorem Pj {sz z g o m : Nat} {s : BV} {k : IntKind} {j : Int} : Cb sz s (.slm z g o m) (.int k j) = if z = sz ∧ 0 ≤ j ∧ j < m then some (.ptr g (o + j.toNat * sz)) else none := rfl
theorem QI : AO [] = [] := rfl
theorem QL {x : AV} {l : List AV} : AO (x :: l) = x.cells ++ AO l := rfl
theorem O0 {z : Nat} {l : List AV} {t : Tok} : Vj (.sl z l t) = some (.int .i64 l.length) := rfl
theorem RB {sz z : Nat} {s : BV} {l : List AV} {t : Tok} {k : IntKind} {j : Int} : Cb sz s (.sl z l t) (.int k j) = if z = sz ∧ 0 ≤ j then (match l[j.toNat]? with | some y => if y.fits s then some (.ref y) else none | none => none) else none := rfl
theorem Po {sz z : Nat} {l : List AV} {t : Tok} {lo hi : Option AV} : HQ sz (.sl z l t) lo hi = if z = sz ∨ l = [] then (Fg lo hi l.length).map fun (a, b) => .sl sz ((l.take b).drop a) .ro else none := rfl
def XG (ob : AObj) (d : Option Nat) (K : AS → Prop) (e : AT) (n : Nat) (H : A3) : Prop := ∀ g, n ≤ g → K ⟨AN e d (.ptr g 0), g + 1, upd H g (some ob)⟩
def W4 (sz : Nat) (l : List AV) (ob : AObj) (d : Option Nat) (K : AS → Prop) (e : AT) (n : Nat) (H : A3) : Prop := ∀ g, n ≤ g → K ⟨AN e d (.sl sz l (.own g)), g + 1, upd H g (some ob)⟩
def KS (o : Option AV) (d : Option Nat) (K : AS → Prop) (e : AT) (n : Nat) (H : A3) : Prop :=
 match o with
 | some v => K ⟨AN e d v, n, H⟩
 | none => False
theorem Q7 {v : AV} {d : Option Nat} {K : AS → Prop} {e : AT} {n : Nat} {H : A3} : KS (some v) d K e n H = K ⟨AN e d v, n, H⟩ := rfl
theorem PU {d : Option Nat} {K : AS → Prop} {e : AT} {n : Nat} {H : A3} : KS none d K e n H = False := rfl
section
variable {P : Program} {e : AT} {n : Nat} {H : A3} {Q : AExit → AS → Prop} {K : AS → Prop}
theorem Nt : aw P .skip Q ⟨e, n, H⟩ = Q .normal ⟨e, n, H⟩ := rfl
theorem GX {ops : List AOper} : aw P (.reg ops) Q ⟨e, n, H⟩ = awOps P ops (Q .normal) ⟨e, n, H⟩ := rfl
theorem Gy {a b : ACode} : aw P (.seq a b) Q ⟨e, n, H⟩ = aw P a (Ej (aw P b Q) Q) ⟨e, n, H⟩ := rfl
theorem PR {c : Opd} {a b : ACode} : aw P (.cond c a b) Q ⟨e, n, H⟩ = FW (aw P a Q ⟨e, n, H⟩) (aw P b Q ⟨e, n, H⟩) (ev e c) := rfl
theorem NX {id : Nat} {c : ACode} : aw P (.block id c) Q ⟨e, n, H⟩ = aw P c (EY id Q) ⟨e, n, H⟩ := rfl
theorem Pd {c : ACode} : aw P (.loop c) Q ⟨e, n, H⟩ = LoopK (fun Q s => aw P c Q s) Q ⟨e, n, H⟩ := rfl
theorem OR {id : Nat} : aw P (.exit id) Q ⟨e, n, H⟩ = Q (.exit id) ⟨e, n, H⟩ := rfl
theorem GG : aw P .ret Q ⟨e, n, H⟩ = Q .ret ⟨e, n, H⟩ := rfl
theorem Gx : aw P .bad Q ⟨e, n, H⟩ = False := rfl
theorem I1 {ks : List Nat} {c : ACode} : aw P (.kp ks c) Q ⟨e, n, H⟩ = aw P c Q ⟨EK e ks, n, H⟩ := rfl
theorem JS {ks : List Nat} {c : ACode} : aw P (.ke ks c) Q ⟨e, n, H⟩ = aw P c (Sk ks Q) ⟨e, n, H⟩ := rfl
theorem Qp {ks : List Nat} : Sk ks Q .normal ⟨e, n, H⟩ = Q .normal ⟨EK e ks, n, H⟩ := rfl
theorem Q2 {ks : List Nat} {i : Nat} {s : AS} : Sk ks Q (.exit i) s = Q (.exit i) s := rfl
theorem PM {ks : List Nat} {s : AS} : Sk ks Q .ret s = Q .ret s := rfl
theorem RE {l : List Seg} : aw P (.segs l) Q ⟨e, n, H⟩ = CT P l (Q .normal) ⟨e, n, H⟩ := rfl
theorem QS : CT P [] K ⟨e, n, H⟩ = K ⟨e, n, H⟩ := rfl
def A04 (o : Option AV) (d : Nat) (ops : List AOper) (K : AS → Prop) (e : AT) (n : Nat) (H : A3) : Prop :=
 match o with
 | some v => K ⟨put (Fz e ops) d v, n, H⟩
 | none => False
theorem Nb {v : AV} {d : Nat} {ops : List AOper} {K : AS → Prop} {e : AT} {n : Nat} {H : A3} : A04 (some v) d ops K e n H = K ⟨put (Fz e ops) d v, n, H⟩ := rfl
theorem No {d : Nat} {ops : List AOper} {K : AS → Prop} {e : AT} {n : Nat} {H : A3} : A04 none d ops K e n H = False := rfl
theorem RI {t d x : Nat} {want : Bool} {ops : List AOper} {l : List Seg} : CT P (⟨some (t, want), ops, some (d, x)⟩ :: l) K ⟨e, n, H⟩ = A04 (WK want x (get e t) (DO ops e H)) d ops (CT P l K) e n H := rfl
def evS (o : Option AV) (d : Option Nat) (os : List AOper) (e : AT) (H : A3) : Option AT :=
 match o with
 | some v => DO os (AN e d v) H
 | none => none
theorem Qo {v : AV} {d : Option Nat} {os : List AOper} {H : A3} : evS (some v) d os e H = DO os (AN e d v) H := rfl
theorem QJ {d : Option Nat} {os : List AOper} {H : A3} : evS none d os e H = none := rfl
theorem Qt {H : A3} : DO [] e H = some e := rfl
theorem Np {d : Option Nat} {op : AOp} {g : Option (Nat × Bool)} {os : List AOper} {H : A3} : DO (⟨d, op, g⟩ :: os) e H = evS (pe op e H) d os e H := rfl
theorem Qq {ops : List AOper} {l : List Seg} {p : Option (Nat × Nat)} : CT P (⟨none, ops, p⟩ :: l) K ⟨e, n, H⟩ = awOps P ops (CT P l K) ⟨e, n, H⟩ := rfl
theorem L1 {v : AV} (hv : v ≠ .any) : ∀ {e : AT} {t : Nat}, get e t = v → Fa e t v = e
 | [], t, h => absurd h.symm hv
 | (k, u) :: r, t, h => by
  simp only [get] at h
  simp only [Fa]
  split
  ·rename_i hk; rw [if_pos hk] at h; rw [h, hk]
  ·rename_i hk; rw [if_neg hk] at h; rw [L1 hv h]
def FJ (want : Bool) (A B C : Prop) : AV → Prop
 | .bool b => (b = want → A) ∧ (b ≠ want → B)
 | .und => C
 | _ => False
theorem P7 {t : Nat} {want : Bool} {ops : List AOper} {l : List Seg} : CT P (⟨some (t, want), ops, none⟩ :: l) K ⟨e, n, H⟩ = FJ want (awOps P ops (CT P l K) ⟨Fa e t (.bool want), n, H⟩) (CT P l K ⟨Gu (Fa e t (.bool (!want))) ops, n, H⟩) (CT P l K ⟨Gu e ops, n, H⟩) (get e t) := by
 show guardK want _ (CT P l K ⟨Gu e ops, n, H⟩) _ = _
 generalize hg : get e t = v
 cases v <;> try rfl
 rename_i b
 simp only [guardK, FJ, eq_iff_iff]
 by_cases hb : b = want
 ·subst hb
  rw [L1 (by simp) hg]
  simp
 ·have hb' : b = !want := by cases b <;> cases want <;> simp_all
  subst hb'
  rw [L1 (by simp) hg]
  simp
theorem PO : awOps P [] K ⟨e, n, H⟩ = K ⟨e, n, H⟩ := rfl
theorem Pu {d : Option Nat} {op : AOp} {os : List AOper} : awOps P (⟨d, op, none⟩ :: os) K ⟨e, n, H⟩ = AP P d op (awOps P os K) ⟨e, n, H⟩ := rfl
theorem Pe {m : Mode} {S : List Nat} {ops : List AOper} : aw P (.regD m S ops) Q ⟨e, n, H⟩ = gsK P m (Oi e S) ops (Q .normal) ⟨e, n, H⟩ := rfl
theorem R3 {m : Mode} {gs : List Nat} {ops : List AOper} {s : AS} : gsK P m (some gs) ops K s = gsM P m gs ops K s := rfl
theorem A0 {m : Mode} {gs : List Nat} {ops : List AOper} (h : A9 P m n gs ops K ⟨e, n, H⟩) : gsM P m gs ops K ⟨e, n, H⟩ := ⟨[], h⟩
theorem Sx {m : Mode} {gs : List Nat} {ops : List AOper} (ms : List Nat) (h : A9 P m n (ms ++ gs) ops K ⟨e, n, H⟩) : gsM P m gs ops K ⟨e, n, H⟩ := ⟨ms, h⟩
theorem Qh : Oi e [] = some [] := rfl
theorem PB {t : Nat} {ts : List Nat} : Oi e (t :: ts) = gsC (get e t) (Oi e ts) := rfl
theorem Oj {g o : Nat} {gs : List Nat} : gsC (.ptr g o) (some gs) = some (g :: gs) := rfl
def Tz (ob : AObj) (d : Option Nat) (K : AS → Prop) (e : AT) (n : Nat) (H : A3) : Prop := ∀ g, n ≤ g → H g = none → K ⟨AN e d (.ptr g 0), g + 1, upd H g (some ob)⟩
theorem A1 {ob : AObj} {d : Option Nat} {H : A3} (h : XG ob d K e n H) : Tz ob d K e n H := fun g hg _ => h g hg
def UD (sz : Nat) (l : List AV) (ob : AObj) (d : Option Nat) (K : AS → Prop) (e : AT) (n : Nat) (H : A3) : Prop := ∀ g, n ≤ g → H g = none → K ⟨AN e d (.sl sz l (.own g)), g + 1, upd H g (some ob)⟩
theorem AE {sz : Nat} {l : List AV} {ob : AObj} {d : Option Nat} {H : A3} (h : W4 sz l ob d K e n H) : UD sz l ob d K e n H := fun g hg _ => h g hg
theorem Nj {md : Mode} {lw : Nat} {gs : List Nat} : A9 P md lw gs [] K ⟨e, n, H⟩ = K ⟨e, n, H⟩ := rfl
theorem NF {md : Mode} {lw : Nat} {gs : List Nat} {d : Option Nat} {sh : BV} {x : Opd} {os : List AOper} : A9 P md lw gs (⟨d, .load sh x, none⟩ :: os) K ⟨e, n, H⟩ = KS (BS (BQ gs H) sh (ev e x)) d (A9 P md lw gs os K) e n H := rfl
def Um (md : Mode) (lo : Nat) (ob : AObj) (d : Option Nat) (K : AS → Prop) (e : AT) (n : Nat) (H : A3) : Prop := newK md lo ⟨e, n, H⟩ fun g n' => K ⟨AN e d (.ptr g 0), n', upd H g (some ob)⟩
def Ud (md : Mode) (lo : Nat) (sz : Nat) (l : List AV) (ob : AObj) (d : Option Nat) (K : AS → Prop) (e : AT) (n : Nat) (H : A3) : Prop := newK md lo ⟨e, n, H⟩ fun g n' => K ⟨AN e d (.sl sz l (.own g)), n', upd H g (some ob)⟩
theorem QQ {lo : Nat} {ob : AObj} {d : Option Nat} {H : A3} : Um .plain lo ob d K e n H = Tz ob d K e n H := rfl
theorem QO {lo : Nat} {ob : AObj} {d : Option Nat} {H : A3} : Um .late lo ob d K e n H = Tz ob d K e n H := rfl
theorem Pc {q lo : Nat} {ob : AObj} {d : Option Nat} {H : A3} : Um (.last q) lo ob d K e n H = Tz ob d K e n H := rfl
theorem NV {lo : Nat} {sz : Nat} {l : List AV} {ob : AObj} {d : Option Nat} {H : A3} : Ud .plain lo sz l ob d K e n H = UD sz l ob d K e n H := rfl
theorem PC {lo : Nat} {sz : Nat} {l : List AV} {ob : AObj} {d : Option Nat} {H : A3} : Ud .late lo sz l ob d K e n H = UD sz l ob d K e n H := rfl
theorem Px {q lo : Nat} {sz : Nat} {l : List AV} {ob : AObj} {d : Option Nat} {H : A3} : Ud (.last q) lo sz l ob d K e n H = UD sz l ob d K e n H := rfl
theorem Nm {md : Mode} {lw : Nat} {gs : List Nat} {d : Option Nat} {t : TypeId} {z : List AV} {os : List AOper} : A9 P md lw gs (⟨d, .alloc t z, none⟩ :: os) K ⟨e, n, H⟩ = (ones z ∧ Um md lw (.cells t z) d (A9 P md lw gs os K) e n H) := rfl
theorem Qz {md : Mode} {lw : Nat} {gs : List Nat} {d : Option Nat} {sh : BV} {x v : Opd} {os : List AOper} : A9 P md lw gs (⟨d, .store sh x v, none⟩ :: os) K ⟨e, n, H⟩ = (Kh md lw gs x (ev e x) ∧ Cc sh d (A9 P md lw gs os K) ⟨e, n, H⟩ (ev e v) (ev e x)) := rfl
theorem Gv {md : Mode} {lw : Nat} {gs : List Nat} {t : Nat} {want : Bool} {d : Option Nat} {x : Opd} {os : List AOper} : A9 P md lw gs (⟨d, .mv x, some (t, want)⟩ :: os) K ⟨e, n, H⟩ = guardK want (AP P d (.mv x) (A9 P md lw gs os K) ⟨e, n, H⟩) (A9 P md lw gs os K ⟨AN e d .und, n, H⟩) (get e t) := by
 show (match get e t with | .bool b => _ | .und => _ | _ => False) = _
 cases get e t <;> rfl
theorem Pp {md : Mode} {lw : Nat} {gs : List Nat} {t : Nat} {want : Bool} {d : Option Nat} {op : BinOp} {x y : Opd} {os : List AOper} : A9 P md lw gs (⟨d, .bin op x y, some (t, want)⟩ :: os) K ⟨e, n, H⟩ = guardK want (AP P d (.bin op x y) (A9 P md lw gs os K) ⟨e, n, H⟩) (A9 P md lw gs os K ⟨AN e d .und, n, H⟩) (get e t) := by
 show (match get e t with | .bool b => _ | .und => _ | _ => False) = _
 cases get e t <;> rfl
theorem NY {md : Mode} {lw : Nat} {gs : List Nat} {t : Nat} {want : Bool} {d : Option Nat} {ks : List FK} {neg : Bool} {x y : Opd} {os : List AOper} : A9 P md lw gs (⟨d, .eqs ks neg x y, some (t, want)⟩ :: os) K ⟨e, n, H⟩ = guardK want (AP P d (.eqs ks neg x y) (A9 P md lw gs os K) ⟨e, n, H⟩) (A9 P md lw gs os K ⟨AN e d .und, n, H⟩) (get e t) := by
 show (match get e t with | .bool b => _ | .und => _ | _ => False) = _
 cases get e t <;> rfl
theorem PV {md : Mode} {lw : Nat} {gs : List Nat} {t : Nat} {want : Bool} {d : Option Nat} {neg : Bool} {x y : Opd} {os : List AOper} : A9 P md lw gs (⟨d, .eqb neg x y, some (t, want)⟩ :: os) K ⟨e, n, H⟩ = guardK want (AP P d (.eqb neg x y) (A9 P md lw gs os K) ⟨e, n, H⟩) (A9 P md lw gs os K ⟨AN e d .und, n, H⟩) (get e t) := by
 show (match get e t with | .bool b => _ | .und => _ | _ => False) = _
 cases get e t <;> rfl
theorem Ox {md : Mode} {lw : Nat} {gs : List Nat} {t : Nat} {want : Bool} {d : Option Nat} {neg : Bool} {x : Opd} {os : List AOper} : A9 P md lw gs (⟨d, .eqn neg x, some (t, want)⟩ :: os) K ⟨e, n, H⟩ = guardK want (AP P d (.eqn neg x) (A9 P md lw gs os K) ⟨e, n, H⟩) (A9 P md lw gs os K ⟨AN e d .und, n, H⟩) (get e t) := by
 show (match get e t with | .bool b => _ | .und => _ | _ => False) = _
 cases get e t <;> rfl
theorem NJ {md : Mode} {lw : Nat} {gs : List Nat} {t : Nat} {want : Bool} {d : Option Nat} {neg : Bool} {x : Opd} {os : List AOper} : A9 P md lw gs (⟨d, .eqp neg x, some (t, want)⟩ :: os) K ⟨e, n, H⟩ = guardK want (AP P d (.eqp neg x) (A9 P md lw gs os K) ⟨e, n, H⟩) (A9 P md lw gs os K ⟨AN e d .und, n, H⟩) (get e t) := by
 show (match get e t with | .bool b => _ | .und => _ | _ => False) = _
 cases get e t <;> rfl
theorem Pn {md : Mode} {lw : Nat} {gs : List Nat} {t : Nat} {want : Bool} {d : Option Nat} {neg : Bool} {x : Opd} {os : List AOper} : A9 P md lw gs (⟨d, .eqi neg x, some (t, want)⟩ :: os) K ⟨e, n, H⟩ = guardK want (AP P d (.eqi neg x) (A9 P md lw gs os K) ⟨e, n, H⟩) (A9 P md lw gs os K ⟨AN e d .und, n, H⟩) (get e t) := by
 show (match get e t with | .bool b => _ | .und => _ | _ => False) = _
 cases get e t <;> rfl
theorem OY {md : Mode} {lw : Nat} {gs : List Nat} {t : Nat} {want : Bool} {d : Option Nat} {x : Opd} {os : List AOper} : A9 P md lw gs (⟨d, .neg x, some (t, want)⟩ :: os) K ⟨e, n, H⟩ = guardK want (AP P d (.neg x) (A9 P md lw gs os K) ⟨e, n, H⟩) (A9 P md lw gs os K ⟨AN e d .und, n, H⟩) (get e t) := by
 show (match get e t with | .bool b => _ | .und => _ | _ => False) = _
 cases get e t <;> rfl
theorem QT {md : Mode} {lw : Nat} {gs : List Nat} {t : Nat} {want : Bool} {d : Option Nat} {x : Opd} {os : List AOper} : A9 P md lw gs (⟨d, .not x, some (t, want)⟩ :: os) K ⟨e, n, H⟩ = guardK want (AP P d (.not x) (A9 P md lw gs os K) ⟨e, n, H⟩) (A9 P md lw gs os K ⟨AN e d .und, n, H⟩) (get e t) := by
 show (match get e t with | .bool b => _ | .und => _ | _ => False) = _
 cases get e t <;> rfl
theorem Qy {md : Mode} {lw : Nat} {gs : List Nat} {t : Nat} {want : Bool} {d : Option Nat} {k : IntKind} {x : Opd} {os : List AOper} : A9 P md lw gs (⟨d, .cvi k x, some (t, want)⟩ :: os) K ⟨e, n, H⟩ = guardK want (AP P d (.cvi k x) (A9 P md lw gs os K) ⟨e, n, H⟩) (A9 P md lw gs os K ⟨AN e d .und, n, H⟩) (get e t) := by
 show (match get e t with | .bool b => _ | .und => _ | _ => False) = _
 cases get e t <;> rfl
theorem QR {md : Mode} {lw : Nat} {gs : List Nat} {t : Nat} {want : Bool} {d : Option Nat} {sz : Nat} {x : Opd} {lo hi : Option Opd} {os : List AOper} : A9 P md lw gs (⟨d, .cut sz x lo hi, some (t, want)⟩ :: os) K ⟨e, n, H⟩ = guardK want (AP P d (.cut sz x lo hi) (A9 P md lw gs os K) ⟨e, n, H⟩) (A9 P md lw gs os K ⟨AN e d .und, n, H⟩) (get e t) := by
 show (match get e t with | .bool b => _ | .und => _ | _ => False) = _
 cases get e t <;> rfl
theorem R9 {md : Mode} {lw : Nat} {gs : List Nat} {t : Nat} {want : Bool} {d : Option Nat} {x : Opd} {lo hi : Option Opd} {os : List AOper} : A9 P md lw gs (⟨d, .cutS x lo hi, some (t, want)⟩ :: os) K ⟨e, n, H⟩ = guardK want (AP P d (.cutS x lo hi) (A9 P md lw gs os K) ⟨e, n, H⟩) (A9 P md lw gs os K ⟨AN e d .und, n, H⟩) (get e t) := by
 show (match get e t with | .bool b => _ | .und => _ | _ => False) = _
 cases get e t <;> rfl
theorem PJ {md : Mode} {lw : Nat} {gs : List Nat} {t : Nat} {want : Bool} {d : Option Nat} {x : Opd} {off : Nat} {s : BV} {os : List AOper} : A9 P md lw gs (⟨d, .faddr x off s, some (t, want)⟩ :: os) K ⟨e, n, H⟩ = guardK want (AP P d (.faddr x off s) (A9 P md lw gs os K) ⟨e, n, H⟩) (A9 P md lw gs os K ⟨AN e d .und, n, H⟩) (get e t) := by
 show (match get e t with | .bool b => _ | .und => _ | _ => False) = _
 cases get e t <;> rfl
theorem Ow {md : Mode} {lw : Nat} {gs : List Nat} {t : Nat} {want : Bool} {d : Option Nat} {x : Opd} {off : Nat} {s : BV} {os : List AOper} : A9 P md lw gs (⟨d, .field x off s, some (t, want)⟩ :: os) K ⟨e, n, H⟩ = guardK want (AP P d (.field x off s) (A9 P md lw gs os K) ⟨e, n, H⟩) (A9 P md lw gs os K ⟨AN e d .und, n, H⟩) (get e t) := by
 show (match get e t with | .bool b => _ | .und => _ | _ => False) = _
 cases get e t <;> rfl
theorem Q9 {md : Mode} {lw : Nat} {gs : List Nat} {t : Nat} {want : Bool} {d : Option Nat} {sz : Nat} {s : BV} {x i : Opd} {os : List AOper} : A9 P md lw gs (⟨d, .iaddr sz s x i, some (t, want)⟩ :: os) K ⟨e, n, H⟩ = guardK want (AP P d (.iaddr sz s x i) (A9 P md lw gs os K) ⟨e, n, H⟩) (A9 P md lw gs os K ⟨AN e d .und, n, H⟩) (get e t) := by
 show (match get e t with | .bool b => _ | .und => _ | _ => False) = _
 cases get e t <;> rfl
theorem Ot {md : Mode} {lw : Nat} {gs : List Nat} {t : Nat} {want : Bool} {d : Option Nat} {len sz : Nat} {s : BV} {x i : Opd} {os : List AOper} : A9 P md lw gs (⟨d, .aaddr len sz s x i, some (t, want)⟩ :: os) K ⟨e, n, H⟩ = guardK want (AP P d (.aaddr len sz s x i) (A9 P md lw gs os K) ⟨e, n, H⟩) (A9 P md lw gs os K ⟨AN e d .und, n, H⟩) (get e t) := by
 show (match get e t with | .bool b => _ | .und => _ | _ => False) = _
 cases get e t <;> rfl
theorem Pg {md : Mode} {lw : Nat} {gs : List Nat} {t : Nat} {want : Bool} {d : Option Nat} {x i : Opd} {os : List AOper} : A9 P md lw gs (⟨d, .sidx x i, some (t, want)⟩ :: os) K ⟨e, n, H⟩ = guardK want (AP P d (.sidx x i) (A9 P md lw gs os K) ⟨e, n, H⟩) (A9 P md lw gs os K ⟨AN e d .und, n, H⟩) (get e t) := by
 show (match get e t with | .bool b => _ | .und => _ | _ => False) = _
 cases get e t <;> rfl
theorem PH {md : Mode} {lw : Nat} {gs : List Nat} {t : Nat} {want : Bool} {d : Option Nat} {len sz : Nat} {s : BV} {x i : Opd} {os : List AOper} : A9 P md lw gs (⟨d, .aidx len sz s x i, some (t, want)⟩ :: os) K ⟨e, n, H⟩ = guardK want (AP P d (.aidx len sz s x i) (A9 P md lw gs os K) ⟨e, n, H⟩) (A9 P md lw gs os K ⟨AN e d .und, n, H⟩) (get e t) := by
 show (match get e t with | .bool b => _ | .und => _ | _ => False) = _
 cases get e t <;> rfl
theorem O7 {md : Mode} {lw : Nat} {gs : List Nat} {t : Nat} {want : Bool} {d : Option Nat} {x : Opd} {os : List AOper} : A9 P md lw gs (⟨d, .len x, some (t, want)⟩ :: os) K ⟨e, n, H⟩ = guardK want (AP P d (.len x) (A9 P md lw gs os K) ⟨e, n, H⟩) (A9 P md lw gs os K ⟨AN e d .und, n, H⟩) (get e t) := by
 show (match get e t with | .bool b => _ | .und => _ | _ => False) = _
 cases get e t <;> rfl
theorem Pz {md : Mode} {lw : Nat} {gs : List Nat} {t : Nat} {want : Bool} {d : Option Nat} {x : Opd} {os : List AOper} : A9 P md lw gs (⟨d, .lenS x, some (t, want)⟩ :: os) K ⟨e, n, H⟩ = guardK want (AP P d (.lenS x) (A9 P md lw gs os K) ⟨e, n, H⟩) (A9 P md lw gs os K ⟨AN e d .und, n, H⟩) (get e t) := by
 show (match get e t with | .bool b => _ | .und => _ | _ => False) = _
 cases get e t <;> rfl
theorem NO {md : Mode} {lw : Nat} {gs : List Nat} {t : Nat} {want : Bool} {d : Option Nat} {x : Opd} {i : Nat} {os : List AOper} : A9 P md lw gs (⟨d, .extr x i, some (t, want)⟩ :: os) K ⟨e, n, H⟩ = guardK want (AP P d (.extr x i) (A9 P md lw gs os K) ⟨e, n, H⟩) (A9 P md lw gs os K ⟨AN e d .und, n, H⟩) (get e t) := by
 show (match get e t with | .bool b => _ | .und => _ | _ => False) = _
 cases get e t <;> rfl
theorem RA {md : Mode} {lw : Nat} {gs : List Nat} {t : Nat} {want : Bool} {d : Option Nat} {z : List AV} {ps : List (Nat × BV × Opd)} {os : List AOper} : A9 P md lw gs (⟨d, .build z ps, some (t, want)⟩ :: os) K ⟨e, n, H⟩ = guardK want (AP P d (.build z ps) (A9 P md lw gs os K) ⟨e, n, H⟩) (A9 P md lw gs os K ⟨AN e d .und, n, H⟩) (get e t) := by
 show (match get e t with | .bool b => _ | .und => _ | _ => False) = _
 cases get e t <;> rfl
theorem GQ {md : Mode} {lw : Nat} {gs : List Nat} {t : Nat} {want : Bool} {d : Option Nat} {mx : Bool} {x y : Opd} {os : List AOper} : A9 P md lw gs (⟨d, .mm mx x y, some (t, want)⟩ :: os) K ⟨e, n, H⟩ = guardK want (AP P d (.mm mx x y) (A9 P md lw gs os K) ⟨e, n, H⟩) (A9 P md lw gs os K ⟨AN e d .und, n, H⟩) (get e t) := by
 show (match get e t with | .bool b => _ | .und => _ | _ => False) = _
 cases get e t <;> rfl
theorem OV {md : Mode} {lw : Nat} {gs : List Nat} {t : Nat} {want : Bool} {d : Option Nat} {sh : BV} {x : Opd} {os : List AOper} : A9 P md lw gs (⟨d, .load sh x, some (t, want)⟩ :: os) K ⟨e, n, H⟩ = guardK want (KS (BS (BQ gs H) sh (ev e x)) d (A9 P md lw gs os K) e n H) (A9 P md lw gs os K ⟨AN e d .und, n, H⟩) (get e t) := by
 show K1 (Uh gs sh x (some (t, want)) e H) _ = _
 unfold Uh
 simp only
 cases get e t <;> try rfl
 rename_i b
 simp only [guardK, eq_iff_iff]
 by_cases hb : b = want
 ·rw [if_pos hb]
  exact ⟨fun h => ⟨fun _ => h, fun hne => absurd hb hne⟩, fun h => h.1 hb⟩
 ·rw [if_neg hb]
  exact ⟨fun h => ⟨fun he => absurd he hb, fun _ => h⟩, fun h => h.2 hb⟩
theorem H7 {md : Mode} {lw : Nat} {gs : List Nat} {d : Option Nat} {x : Opd} {os : List AOper} : A9 P md lw gs (⟨d, .mv x, none⟩ :: os) K ⟨e, n, H⟩ = AP P d (.mv x) (A9 P md lw gs os K) ⟨e, n, H⟩ := rfl
theorem OS {md : Mode} {lw : Nat} {gs : List Nat} {d : Option Nat} {c a b : Opd} {os : List AOper} : A9 P md lw gs (⟨d, .pick c a b, none⟩ :: os) K ⟨e, n, H⟩ = AP P d (.pick c a b) (A9 P md lw gs os K) ⟨e, n, H⟩ := rfl
theorem Nd {md : Mode} {lw : Nat} {gs : List Nat} {d : Option Nat} {op : BinOp} {x y : Opd} {os : List AOper} : A9 P md lw gs (⟨d, .bin op x y, none⟩ :: os) K ⟨e, n, H⟩ = AP P d (.bin op x y) (A9 P md lw gs os K) ⟨e, n, H⟩ := rfl
theorem PG {md : Mode} {lw : Nat} {gs : List Nat} {d : Option Nat} {ks : List FK} {neg : Bool} {x y : Opd} {os : List AOper} : A9 P md lw gs (⟨d, .eqs ks neg x y, none⟩ :: os) K ⟨e, n, H⟩ = AP P d (.eqs ks neg x y) (A9 P md lw gs os K) ⟨e, n, H⟩ := rfl
theorem PT {md : Mode} {lw : Nat} {gs : List Nat} {d : Option Nat} {neg : Bool} {x y : Opd} {os : List AOper} : A9 P md lw gs (⟨d, .eqb neg x y, none⟩ :: os) K ⟨e, n, H⟩ = AP P d (.eqb neg x y) (A9 P md lw gs os K) ⟨e, n, H⟩ := rfl
theorem Ou {md : Mode} {lw : Nat} {gs : List Nat} {d : Option Nat} {neg : Bool} {x : Opd} {os : List AOper} : A9 P md lw gs (⟨d, .eqn neg x, none⟩ :: os) K ⟨e, n, H⟩ = AP P d (.eqn neg x) (A9 P md lw gs os K) ⟨e, n, H⟩ := rfl
theorem Nk {md : Mode} {lw : Nat} {gs : List Nat} {d : Option Nat} {neg : Bool} {x : Opd} {os : List AOper} : A9 P md lw gs (⟨d, .eqp neg x, none⟩ :: os) K ⟨e, n, H⟩ = AP P d (.eqp neg x) (A9 P md lw gs os K) ⟨e, n, H⟩ := rfl
theorem Og {md : Mode} {lw : Nat} {gs : List Nat} {d : Option Nat} {neg : Bool} {x : Opd} {os : List AOper} : A9 P md lw gs (⟨d, .eqi neg x, none⟩ :: os) K ⟨e, n, H⟩ = AP P d (.eqi neg x) (A9 P md lw gs os K) ⟨e, n, H⟩ := rfl
theorem Qx {md : Mode} {lw : Nat} {gs : List Nat} {d : Option Nat} {x : Opd} {os : List AOper} : A9 P md lw gs (⟨d, .neg x, none⟩ :: os) K ⟨e, n, H⟩ = AP P d (.neg x) (A9 P md lw gs os K) ⟨e, n, H⟩ := rfl
theorem RD {md : Mode} {lw : Nat} {gs : List Nat} {d : Option Nat} {x : Opd} {os : List AOper} : A9 P md lw gs (⟨d, .not x, none⟩ :: os) K ⟨e, n, H⟩ = AP P d (.not x) (A9 P md lw gs os K) ⟨e, n, H⟩ := rfl
theorem Pf {md : Mode} {lw : Nat} {gs : List Nat} {d : Option Nat} {k : IntKind} {x : Opd} {os : List AOper} : A9 P md lw gs (⟨d, .cvi k x, none⟩ :: os) K ⟨e, n, H⟩ = AP P d (.cvi k x) (A9 P md lw gs os K) ⟨e, n, H⟩ := rfl
theorem NZ {md : Mode} {lw : Nat} {gs : List Nat} {d : Option Nat} {f : Nat} {fst cap : List Opd} {os : List AOper} : A9 P md lw gs (⟨d, .mkfn f fst cap, none⟩ :: os) K ⟨e, n, H⟩ = AP P d (.mkfn f fst cap) (A9 P md lw gs os K) ⟨e, n, H⟩ := rfl
theorem RF {md : Mode} {lw : Nat} {gs : List Nat} {d : Option Nat} {sz : Nat} {x : Opd} {lo hi : Option Opd} {os : List AOper} : A9 P md lw gs (⟨d, .cut sz x lo hi, none⟩ :: os) K ⟨e, n, H⟩ = AP P d (.cut sz x lo hi) (A9 P md lw gs os K) ⟨e, n, H⟩ := rfl
theorem PL {md : Mode} {lw : Nat} {gs : List Nat} {d : Option Nat} {x : Opd} {lo hi : Option Opd} {os : List AOper} : A9 P md lw gs (⟨d, .cutS x lo hi, none⟩ :: os) K ⟨e, n, H⟩ = AP P d (.cutS x lo hi) (A9 P md lw gs os K) ⟨e, n, H⟩ := rfl
theorem PX {md : Mode} {lw : Nat} {gs : List Nat} {d : Option Nat} {x : Opd} {off : Nat} {s : BV} {os : List AOper} : A9 P md lw gs (⟨d, .faddr x off s, none⟩ :: os) K ⟨e, n, H⟩ = AP P d (.faddr x off s) (A9 P md lw gs os K) ⟨e, n, H⟩ := rfl
theorem R4 {md : Mode} {lw : Nat} {gs : List Nat} {d : Option Nat} {x : Opd} {off : Nat} {s : BV} {os : List AOper} : A9 P md lw gs (⟨d, .field x off s, none⟩ :: os) K ⟨e, n, H⟩ = AP P d (.field x off s) (A9 P md lw gs os K) ⟨e, n, H⟩ := rfl
theorem OZ {md : Mode} {lw : Nat} {gs : List Nat} {d : Option Nat} {sz : Nat} {s : BV} {x i : Opd} {os : List AOper} : A9 P md lw gs (⟨d, .iaddr sz s x i, none⟩ :: os) K ⟨e, n, H⟩ = AP P d (.iaddr sz s x i) (A9 P md lw gs os K) ⟨e, n, H⟩ := rfl
theorem Nc {md : Mode} {lw : Nat} {gs : List Nat} {d : Option Nat} {len sz : Nat} {s : BV} {x i : Opd} {os : List AOper} : A9 P md lw gs (⟨d, .aaddr len sz s x i, none⟩ :: os) K ⟨e, n, H⟩ = AP P d (.aaddr len sz s x i) (A9 P md lw gs os K) ⟨e, n, H⟩ := rfl
theorem Qs {md : Mode} {lw : Nat} {gs : List Nat} {d : Option Nat} {x i : Opd} {os : List AOper} : A9 P md lw gs (⟨d, .sidx x i, none⟩ :: os) K ⟨e, n, H⟩ = AP P d (.sidx x i) (A9 P md lw gs os K) ⟨e, n, H⟩ := rfl
theorem NT {md : Mode} {lw : Nat} {gs : List Nat} {d : Option Nat} {len sz : Nat} {s : BV} {x i : Opd} {os : List AOper} : A9 P md lw gs (⟨d, .aidx len sz s x i, none⟩ :: os) K ⟨e, n, H⟩ = AP P d (.aidx len sz s x i) (A9 P md lw gs os K) ⟨e, n, H⟩ := rfl
theorem Oh {md : Mode} {lw : Nat} {gs : List Nat} {d : Option Nat} {x : Opd} {os : List AOper} : A9 P md lw gs (⟨d, .len x, none⟩ :: os) K ⟨e, n, H⟩ = AP P d (.len x) (A9 P md lw gs os K) ⟨e, n, H⟩ := rfl
theorem Pw {md : Mode} {lw : Nat} {gs : List Nat} {d : Option Nat} {x : Opd} {os : List AOper} : A9 P md lw gs (⟨d, .lenS x, none⟩ :: os) K ⟨e, n, H⟩ = AP P d (.lenS x) (A9 P md lw gs os K) ⟨e, n, H⟩ := rfl
theorem P6 {md : Mode} {lw : Nat} {gs : List Nat} {d : Option Nat} {j : Nat} {os : List AOper} : A9 P md lw gs (⟨d, .clen j, none⟩ :: os) K ⟨e, n, H⟩ = AP P d (.clen j) (A9 P md lw gs os K) ⟨e, n, H⟩ := rfl
theorem R6 {md : Mode} {lw : Nat} {gs : List Nat} {d : Option Nat} {x : Opd} {i : Nat} {os : List AOper} : A9 P md lw gs (⟨d, .extr x i, none⟩ :: os) K ⟨e, n, H⟩ = AP P d (.extr x i) (A9 P md lw gs os K) ⟨e, n, H⟩ := rfl
theorem Q5 {md : Mode} {lw : Nat} {gs : List Nat} {d : Option Nat} {x : Opd} {os : List AOper} : A9 P md lw gs (⟨d, .nilck x, none⟩ :: os) K ⟨e, n, H⟩ = AP P d (.nilck x) (A9 P md lw gs os K) ⟨e, n, H⟩ := rfl
theorem NK {md : Mode} {lw : Nat} {gs : List Nat} {d : Option Nat} {z : List AV} {ps : List (Nat × BV × Opd)} {os : List AOper} : A9 P md lw gs (⟨d, .build z ps, none⟩ :: os) K ⟨e, n, H⟩ = AP P d (.build z ps) (A9 P md lw gs os K) ⟨e, n, H⟩ := rfl
theorem Gr {md : Mode} {lw : Nat} {gs : List Nat} {d : Option Nat} {mx : Bool} {x y : Opd} {os : List AOper} : A9 P md lw gs (⟨d, .mm mx x y, none⟩ :: os) K ⟨e, n, H⟩ = AP P d (.mm mx x y) (A9 P md lw gs os K) ⟨e, n, H⟩ := rfl
theorem PA {md : Mode} {lw : Nat} {gs : List Nat} {d : Option Nat} {x : Opd} {os : List AOper} : A9 P md lw gs (⟨d, .b2s x, none⟩ :: os) K ⟨e, n, H⟩ = AP P d (.b2s x) (A9 P md lw gs os K) ⟨e, n, H⟩ := rfl
theorem Q4 {md : Mode} {lw : Nat} {gs : List Nat} {d : Option Nat} {x : Opd} {os : List AOper} : A9 P md lw gs (⟨d, .r2s x, none⟩ :: os) K ⟨e, n, H⟩ = AP P d (.r2s x) (A9 P md lw gs os K) ⟨e, n, H⟩ := rfl
theorem Qb {md : Mode} {lw : Nat} {gs : List Nat} {d : Option Nat} {x : Opd} {os : List AOper} : A9 P md lw gs (⟨d, .upc x, none⟩ :: os) K ⟨e, n, H⟩ = AP P d (.upc x) (A9 P md lw gs os K) ⟨e, n, H⟩ := rfl
theorem OP {md : Mode} {lw : Nat} {gs : List Nat} {d : Option Nat} {neg : Bool} {x y : Opd} {os : List AOper} : A9 P md lw gs (⟨d, .eqpp neg x y, none⟩ :: os) K ⟨e, n, H⟩ = AP P d (.eqpp neg x y) (A9 P md lw gs os K) ⟨e, n, H⟩ := rfl
theorem NM {md : Mode} {lw : Nat} {gs : List Nat} {d : Option Nat} {u : TypeId} {x : Opd} {os : List AOper} : A9 P md lw gs (⟨d, .updn u x, none⟩ :: os) K ⟨e, n, H⟩ = AP P d (.updn u x) (A9 P md lw gs os K) ⟨e, n, H⟩ := rfl
theorem P4 {md : Mode} {lw : Nat} {gs : List Nat} {d : Option Nat} {el : TypeId} {x : Opd} {os : List AOper} : A9 P md lw gs (⟨d, .usd el x, none⟩ :: os) K ⟨e, n, H⟩ = AP P d (.usd el x) (A9 P md lw gs os K) ⟨e, n, H⟩ := rfl
theorem Qn {md : Mode} {lw : Nat} {gs : List Nat} {d : Option Nat} {el : TypeId} {x j : Opd} {os : List AOper} : A9 P md lw gs (⟨d, .ust el x j, none⟩ :: os) K ⟨e, n, H⟩ = AP P d (.ust el x j) (A9 P md lw gs os K) ⟨e, n, H⟩ := rfl
theorem P3 {md : Mode} {lw : Nat} {gs : List Nat} {d : Option Nat} {el : TypeId} {s : BV} {x : Opd} {os : List AOper} : A9 P md lw gs (⟨d, .box el s x, none⟩ :: os) K ⟨e, n, H⟩ = AP P d (.box el s x) (A9 P md lw gs os K) ⟨e, n, H⟩ := rfl
theorem Oq {md : Mode} {lw : Nat} {gs : List Nat} {d : Option Nat} {el : TypeId} {s : BV} {xs : List Opd} {os : List AOper} : A9 P md lw gs (⟨d, .bsl el s xs, none⟩ :: os) K ⟨e, n, H⟩ = (HO s (xs.map (ev e)) ∧ Ud md lw (Bq s) (xs.map (ev e)) (.row el xs.length) d (A9 P md lw gs os K) e n H) := by
 have h : HO s (xs.map (ev e)) = (∀ x ∈ xs, (ev e x).fits s = true ∧ ones (ev e x).cells) := by simp [HO, B0]
 rw [h]; rfl
theorem OC {md : Mode} {lw : Nat} {gs : List Nat} {d : Option Nat} {el sz by_ : Nat} {x y : Opd} {os : List AOper} : A9 P md lw gs (⟨d, .app el sz by_ x y, none⟩ :: os) K ⟨e, n, H⟩ = (SO gs (ev e x) ∧ appKS el sz by_ d (KM gs H (A9 P md lw gs os K)) ⟨e, n, H⟩ (ev e x) (ev e y)) := rfl
theorem KM.of {gs : List Nat} {H : A3} {s : AS} (h : K s) : KM gs H K s := fun _ => h
theorem KC.of {gs : List Nat} {H : A3} {s : AS} (h : KeepM gs H s.H) (h' : K s) : KC gs H K s := ⟨h, h'⟩
theorem QU {gs : List Nat} {z : Nat} {l : List AV} {t : Tok} : SO gs (.sl z l t) = True := rfl
theorem RG {gs : List Nat} {z g k : Nat} : SO gs (.slg z g k) = (g ∈ gs) := rfl
theorem PI {md : Mode} {lw : Nat} {gs : List Nat} {d : Option Nat} {el by_ : Nat} {x y : Opd} {os : List AOper} : A9 P md lw gs (⟨d, .appB el by_ x y, none⟩ :: os) K ⟨e, n, H⟩ = AP P d (.appB el by_ x y) (A9 P md lw gs os K) ⟨e, n, H⟩ := rfl
theorem OG {md : Mode} {lw : Nat} {gs : List Nat} {d : Option Nat} {el : TypeId} {x : Opd} {os : List AOper} : A9 P md lw gs (⟨d, .s2b el x, none⟩ :: os) K ⟨e, n, H⟩ = AP P d (.s2b el x) (A9 P md lw gs os K) ⟨e, n, H⟩ := rfl
theorem Q8 {md : Mode} {lw : Nat} {gs : List Nat} {d : Option Nat} {x : Opd} {os : List AOper} : A9 P md lw gs (⟨d, .s2s x, none⟩ :: os) K ⟨e, n, H⟩ = AP P d (.s2s x) (A9 P md lw gs os K) ⟨e, n, H⟩ := rfl
theorem Ni {md : Mode} {lw : Nat} {gs : List Nat} {d : Option Nat} {kk : Option IntKind} {os : List AOper} : A9 P md lw gs (⟨d, .mkmap kk, none⟩ :: os) K ⟨e, n, H⟩ = AP P d (.mkmap kk) (A9 P md lw gs os K) ⟨e, n, H⟩ := rfl
theorem Nh {md : Mode} {lw : Nat} {gs : List Nat} {d : Option Nat} {kk : Option IntKind} {m k v : Opd} {os : List AOper} : A9 P md lw gs (⟨d, .mset kk m k v, none⟩ :: os) K ⟨e, n, H⟩ = AP P d (.mset kk m k v) (A9 P md lw gs os K) ⟨e, n, H⟩ := rfl
theorem Q3 {md : Mode} {lw : Nat} {gs : List Nat} {d : Option Nat} {kk : Option IntKind} {z : AV} {ok : Bool} {m k : Opd} {os : List AOper} : A9 P md lw gs (⟨d, .mget kk z ok m k, none⟩ :: os) K ⟨e, n, H⟩ = KS (EL (BQ gs H) kk z ok (ev e m) (ev e k)) d (A9 P md lw gs os K) e n H := rfl
theorem Nr {md : Mode} {lw : Nat} {gs : List Nat} {d : Option Nat} {f : Nat} {xs : List Opd} {os : List AOper} : A9 P md lw gs (⟨d, .call f xs, none⟩ :: os) K ⟨e, n, H⟩ = CallK P f (xs.map (ev e)) d (KC gs H (A9 P md lw gs os K)) ⟨e, n, H⟩ := rfl
theorem ON {md : Mode} {lw : Nat} {gs : List Nat} {d : Option Nat} {f : Nat} {xs : List Opd} {os : List AOper} : A9 P md lw gs (⟨d, .callp f xs, none⟩ :: os) K ⟨e, n, H⟩ = AP P d (.callp f xs) (A9 P md lw gs os K) ⟨e, n, H⟩ := rfl
theorem Qr {md : Mode} {lw : Nat} {gs : List Nat} {d : Option Nat} {f : Opd} {xs : List Opd} {os : List AOper} : A9 P md lw gs (⟨d, .callv f xs, none⟩ :: os) K ⟨e, n, H⟩ = AP P d (.callv f xs) (A9 P md lw gs os K) ⟨e, n, H⟩ := rfl
theorem P1 {lo : Nat} {gs : List Nat} {x : Opd} {v : AV} : Kh .plain lo gs x v = True := rfl
theorem Ov {lo : Nat} {gs : List Nat} {x : Opd} {v : AV} : Kh .free lo gs x v = True := rfl
theorem P5 {lo : Nat} {gs : List Nat} {x : Opd} {v : AV} : Kh .late lo gs x v = UF gs v := rfl
theorem Nw {lo : Nat} {gs : List Nat} {q i : Nat} {v : AV} : Kh (.last q) lo gs (.t i) v = ((i = q → T8 lo gs v) ∧ (i ≠ q → TX lo gs v)) := rfl
theorem Oa {lo : Nat} {gs : List Nat} {g o : Nat} : T8 lo gs (.ptr g o) = (g < lo ∧ g ∉ gs) := rfl
theorem Nu {lo : Nat} {gs : List Nat} {g o : Nat} : TX lo gs (.ptr g o) = (lo ≤ g ∨ g ∈ gs) := rfl
theorem R2 {gs : List Nat} {g o : Nat} : UF gs (.ptr g o) = (g ∈ gs) := rfl
theorem K6 {a : Nat} {gs : List Nat} {H : A3} {k : Nat} : BQ (a :: gs) H k = if k = a then none else BQ gs H k := rfl
theorem OM {H : A3} {k : Nat} : BQ [] H k = H k := rfl
theorem J5 {d : Option Nat} {x : Opd} : AP P d (.mv x) K ⟨e, n, H⟩ = KS (some (ev e x)) d K e n H := rfl
theorem O5 {d : Option Nat} {c a b : Opd} : AP P d (.pick c a b) K ⟨e, n, H⟩ = KS (match ev e c with | .bool t => some (if t then ev e a else ev e b) | _ => none) d K e n H := rfl
theorem Gk {d : Option Nat} {o : BinOp} {x y : Opd} : AP P d (.bin o x y) K ⟨e, n, H⟩ = KS (Ep o (ev e x) (ev e y)) d K e n H := rfl
theorem Ge {d : Option Nat} {ks : List FK} {ng : Bool} {x y : Opd} : AP P d (.eqs ks ng x y) K ⟨e, n, H⟩ = KS (MC ks ng (ev e x) (ev e y)) d K e n H := rfl
theorem Gz {d : Option Nat} {ng : Bool} {x y : Opd} : AP P d (.eqb ng x y) K ⟨e, n, H⟩ = KS (MV ng (ev e x) (ev e y)) d K e n H := rfl
theorem Gj {d : Option Nat} {ng : Bool} {x : Opd} : AP P d (.eqn ng x) K ⟨e, n, H⟩ = KS (JD ng (ev e x)) d K e n H := rfl
theorem H8 {d : Option Nat} {ng : Bool} {x : Opd} : AP P d (.eqp ng x) K ⟨e, n, H⟩ = KS ((Df (ev e x)).map (WJ ng)) d K e n H := rfl
theorem GY {d : Option Nat} {ng : Bool} {x : Opd} : AP P d (.eqi ng x) K ⟨e, n, H⟩ = KS ((EC (ev e x)).map (WJ ng)) d K e n H := rfl
theorem GO {d : Option Nat} {x : Opd} : AP P d (.neg x) K ⟨e, n, H⟩ = KS (MF (ev e x)) d K e n H := rfl
theorem GV {d : Option Nat} {x : Opd} : AP P d (.not x) K ⟨e, n, H⟩ = KS (MB (ev e x)) d K e n H := rfl
theorem H5 {d : Option Nat} {k : IntKind} {x : Opd} : AP P d (.cvi k x) K ⟨e, n, H⟩ = KS (MU k (ev e x)) d K e n H := rfl
theorem PD {d : Option Nat} {f : Nat} {a b : List Opd} : AP P d (.mkfn f a b) K ⟨e, n, H⟩ = KS (some (.fn f (a.map (ev e)) (b.map (ev e)))) d K e n H := rfl
theorem QM {d : Option Nat} {x : Opd} {lo hi : Option Opd} : AP P d (.cutS x lo hi) K ⟨e, n, H⟩ = KS (FS (ev e x) (lo.map (ev e)) (hi.map (ev e))) d K e n H := rfl
theorem Gg {d : Option Nat} {sz : Nat} {x : Opd} {lo hi : Option Opd} : AP P d (.cut sz x lo hi) K ⟨e, n, H⟩ = KS (HQ sz (ev e x) (lo.map (ev e)) (hi.map (ev e))) d K e n H := rfl
theorem PZ {d : Option Nat} {x : Opd} {o : Nat} {s : BV} : AP P d (.faddr x o s) K ⟨e, n, H⟩ = KS (IH (ev e x) o s) d K e n H := rfl
theorem Oy {d : Option Nat} {x : Opd} {o : Nat} {s : BV} : AP P d (.field x o s) K ⟨e, n, H⟩ = KS (Fe (ev e x) o s) d K e n H := rfl
theorem OB {d : Option Nat} {sz : Nat} {s : BV} {x i : Opd} : AP P d (.iaddr sz s x i) K ⟨e, n, H⟩ = KS (Cb sz s (ev e x) (ev e i)) d K e n H := rfl
theorem O4 {d : Option Nat} {l sz : Nat} {s : BV} {x i : Opd} : AP P d (.aaddr l sz s x i) K ⟨e, n, H⟩ = KS (Hx l sz s (ev e x) (ev e i)) d K e n H := rfl
theorem Nv {d : Option Nat} {x i : Opd} : AP P d (.sidx x i) K ⟨e, n, H⟩ = KS (I3 (ev e x) (ev e i)) d K e n H := rfl
theorem QK {d : Option Nat} {l sz : Nat} {s : BV} {x i : Opd} : AP P d (.aidx l sz s x i) K ⟨e, n, H⟩ = KS (I6 l sz s (ev e x) (ev e i)) d K e n H := rfl
theorem GU {d : Option Nat} {x : Opd} : AP P d (.len x) K ⟨e, n, H⟩ = KS (Vj (ev e x)) d K e n H := rfl
theorem P2 {d : Option Nat} {x : Opd} : AP P d (.lenS x) K ⟨e, n, H⟩ = KS (Hz (ev e x)) d K e n H := rfl
theorem OQ {d : Option Nat} {m : Nat} : AP P d (.clen m) K ⟨e, n, H⟩ = KS (some (.int .i64 m)) d K e n H := rfl
theorem Ql {d : Option Nat} {x : Opd} {i : Nat} : AP P d (.extr x i) K ⟨e, n, H⟩ = KS (I4 i (ev e x)) d K e n H := rfl
theorem QP {d : Option Nat} {x : Opd} : AP P d (.nilck x) K ⟨e, n, H⟩ = KS (Fd (ev e x)) d K e n H := rfl
theorem O9 {d : Option Nat} {s : BV} {x : Opd} : AP P d (.load s x) K ⟨e, n, H⟩ = KS (BS H s (ev e x)) d K e n H := rfl
theorem R8 {d : Option Nat} {z : List AV} {ps : List (Nat × BV × Opd)} : AP P d (.build z ps) K ⟨e, n, H⟩ = KS (FD z (ps.map fun (o, s, x) => (o, s, ev e x))) d K e n H := by
 have h : (ps.map fun (o, _, x) => (o, ev e x)) = (ps.map fun (o, s, x) => (o, s, ev e x)).map fun (o, _, x) => (o, x) := by rw [List.map_map]; rfl
 show K1 (if _ then some (.agg (GZ z _)) else none) _ = _
 rw [h]; unfold KS FD; split <;> rfl
theorem J0 {d : Option Nat} {mx : Bool} {x y : Opd} : AP P d (.mm mx x y) K ⟨e, n, H⟩ = KS (YP mx (ev e x) (ev e y)) d K e n H := rfl
theorem Gq {d : Option Nat} {x : Opd} : AP P d (.b2s x) K ⟨e, n, H⟩ = KS (ME (ev e x)) d K e n H := rfl
theorem Gn {d : Option Nat} {x : Opd} : AP P d (.r2s x) K ⟨e, n, H⟩ = KS (M8 (ev e x)) d K e n H := rfl
theorem Gm {d : Option Nat} {x : Opd} : AP P d (.upc x) K ⟨e, n, H⟩ = KS (FF H (ev e x)) d K e n H := rfl
theorem Gs {d : Option Nat} {el : TypeId} {x : Opd} : AP P d (.usd el x) K ⟨e, n, H⟩ = KS (FI H el (ev e x)) d K e n H := rfl
theorem RC {d : Option Nat} {ng : Bool} {x y : Opd} : AP P d (.eqpp ng x y) K ⟨e, n, H⟩ = KS (I8 ng (ev e x) (ev e y)) d K e n H := rfl
theorem Pr {d : Option Nat} {u : TypeId} {x : Opd} : AP P d (.updn u x) K ⟨e, n, H⟩ = KS (DC P H u (ev e x)) d K e n H := rfl
theorem H6 {d : Option Nat} {t : TypeId} {x m : Opd} : AP P d (.ust t x m) K ⟨e, n, H⟩ = KS (EF t (ev e x) (ev e m)) d K e n H := rfl
theorem Ns {d : Option Nat} {t : TypeId} {z : List AV} : AP P d (.alloc t z) K ⟨e, n, H⟩ = (ones z ∧ XG (.cells t z) d K e n H) := rfl
theorem Gl {d : Option Nat} {t : TypeId} {sh : BV} {x : Opd} : AP P d (.box t sh x) K ⟨e, n, H⟩ = ((B0 sh (ev e x) ∧ XG (.cells t (ev e x).cells) d K e n H)) := propext and_assoc.symm
theorem Nq {d : Option Nat} {sh : BV} {x v : Opd} : AP P d (.store sh x v) K ⟨e, n, H⟩ = Cc sh d K ⟨e, n, H⟩ (ev e v) (ev e x) := rfl
def newB (el sz : Nat) (l : List AV) (d : Option Nat) (K : AS → Prop) (e : AT) (n : Nat) (H : A3) : Prop := W4 sz l (.row el l.length) d K e n H ∨ ∀ g, n ≤ g → K ⟨AN e d (.slm sz g 0 l.length), g + 1, upd H g (some (.cells el (AO l)))⟩
theorem AG {el sz : Nat} {l : List AV} {d : Option Nat} (h : W4 sz l (.row el l.length) d K e n H) : newB el sz l d K e n H := .inl h
theorem GS {d : Option Nat} {t : TypeId} {sh : BV} {xs : List Opd} : AP P d (.bsl t sh xs) K ⟨e, n, H⟩ = (HO sh (xs.map (ev e)) ∧ newB t (Bq sh) (xs.map (ev e)) d K e n H) := by
 have h : HO sh (xs.map (ev e)) = (∀ x ∈ xs, (ev e x).fits sh = true ∧ ones (ev e x).cells) := by simp [HO, B0]
 rw [h]
 unfold newB W4
 rw [List.length_map]; rfl
theorem Gd {d : Option Nat} {t sz b : Nat} {x y : Opd} : AP P d (.app t sz b x y) K ⟨e, n, H⟩ = appKS t sz b d K ⟨e, n, H⟩ (ev e x) (ev e y) := rfl
theorem NQ {d : Option Nat} {t b : Nat} {x y : Opd} : AP P d (.appB t b x y) K ⟨e, n, H⟩ = N8 t b d K ⟨e, n, H⟩ (ev e x) (ev e y) := rfl
theorem GL {d : Option Nat} {t : TypeId} {x : Opd} : AP P d (.s2b t x) K ⟨e, n, H⟩ = M9 d K e n H (ev e x) := rfl
theorem Gp {d : Option Nat} {x : Opd} : AP P d (.s2s x) K ⟨e, n, H⟩ = MW d K e n H (ev e x) := rfl
theorem Ok {d : Option Nat} {kk : Option IntKind} : AP P d (.mkmap kk) K ⟨e, n, H⟩ = A1v kk d K e n H := rfl
theorem O6 {d : Option Nat} {kk : Option IntKind} {m k v : Opd} : AP P d (.mset kk m k v) K ⟨e, n, H⟩ = El kk d K ⟨e, n, H⟩ (ev e k) (ev e v) (ev e m) := rfl
def A30 (m : Nat) (o : Option AObj) (d : Option Nat) (K : AS → Prop) (e : AT) (n : Nat) (H : A3) : Prop := match o with
 | some (.map _ es) => ∀ g, n ≤ g → K ⟨AN e d (.ptr g 0), g + 1, upd H g (some (.iter m es.length (List.range es.length) none))⟩
 | _ => False
def A2w (g m len : Nat) (left : List Nat) (o : Option AObj) (d : Option Nat) (K : AS → Prop) (e : AT) (n : Nat) (H : A3) : Prop := match o with
 | some (.map _ es) => es.length = len ∧ (left = [] → K ⟨AN e d (.tup [.bool false]), n, H⟩) ∧ ∀ j ∈ left, ∀ k v, es[j]? = some (k, v) → K ⟨AN e d (.tup [.bool true, k, v]), n, upd H g (some (.iter m len (left.erase j) (some j)))⟩
 | _ => False
def A2f (g : Nat) (o : Option AObj) (d : Option Nat) (K : AS → Prop) (e : AT) (n : Nat) (H : A3) : Prop := match o with
 | some (.iter m len left _) => A2w g m len left (H m) d K e n H
 | _ => False
theorem QB {g m len : Nat} {left : List Nat} {cur d : Option Nat} : A2f g (some (.iter m len left cur)) d K e n H = A2w g m len left (H m) d K e n H := rfl
theorem OE {m : Nat} {d : Option Nat} : Ol d K ⟨e, n, H⟩ (.mp m) = A30 m (H m) d K e n H := rfl
theorem OX {g : Nat} {d : Option Nat} : Q0 d K ⟨e, n, H⟩ (.ptr g 0) = A2f g (H g) d K e n H := propext ⟨fun h => h.2, fun h => ⟨rfl, h⟩⟩
def A2x (el : TypeId) (z : AV) (m : Nat) (d : Option Nat) (K : AS → Prop) (e : AT) (n : Nat) (H : A3) : Prop := ∀ g, n ≤ g → K ⟨AN e d (.slm 1 g 0 m), g + 1, upd H g (some (.cells el (List.replicate m z)))⟩
theorem Nz {el : TypeId} {b : Nat} {z : AV} {d : Option Nat} {k k' : IntKind} {p q : Int} : Ki el b z d K ⟨e, n, H⟩ (.int k p) (.int k' q) = (p = q ∧ 0 ≤ p ∧ (b : Int) * p ≤ 281474976710656 ∧ p ≤ maxLen ∧ A2x el z p.toNat d K e n H) := rfl
theorem Pq {d : Option Nat} {el : TypeId} {b : Nat} {z : AV} {x y : Opd} : AP P d (.mksl el b z x y) K ⟨e, n, H⟩ = Ki el b z d K ⟨e, n, H⟩ (ev e x) (ev e y) := rfl
theorem Gc {d : Option Nat} {x : Opd} : AP P d (.rng x) K ⟨e, n, H⟩ = Ol d K ⟨e, n, H⟩ (ev e x) := rfl
theorem GJ {d : Option Nat} {x : Opd} : AP P d (.nxt x) K ⟨e, n, H⟩ = Q0 d K ⟨e, n, H⟩ (ev e x) := rfl
theorem Ga {d : Option Nat} {x : Opd} : AP P d (.ent x) K ⟨e, n, H⟩ = KS (IB H (ev e x)) d K e n H := rfl
theorem Pa {d : Option Nat} {kk : Option IntKind} {z : AV} {ok : Bool} {m k : Opd} : AP P d (.mget kk z ok m k) K ⟨e, n, H⟩ = KS (EL H kk z ok (ev e m) (ev e k)) d K e n H := rfl
theorem Na {d : Option Nat} {f : Nat} {xs : List Opd} : AP P d (.call f xs) K ⟨e, n, H⟩ = CallK P f (xs.map (ev e)) d K ⟨e, n, H⟩ := rfl
theorem PK {d : Option Nat} {f : Nat} {xs : List Opd} : AP P d (.callp f xs) K ⟨e, n, H⟩ = CallP P f (xs.map (ev e)) d K ⟨e, n, H⟩ := rfl
theorem QD {d : Option Nat} {x : Opd} {xs : List Opd} : AP P d (.callv x xs) K ⟨e, n, H⟩ = AH P d K e n H (xs.map (ev e)) (ev e x) := rfl
theorem X9 {el sz by_ z z' : Nat} {d : Option Nat} {m m' : List AV} {t : Tok} (hz : z' = sz ∨ m = []) (hs : AQ m m') (hm : m ≠ []) (hb : m.length * by_ ≤ 140737488355328) (hx : m.length ≤ maxLen) (h : ∀ g, n ≤ g → K ⟨AN e d (.sl sz m' (.own g)), g + 1, upd H g (some (.row el m'.length))⟩) : appKS el sz by_ d K ⟨e, n, H⟩ (.sl z [] .nil) (.sl z' m t) := by
 have hl := DL hs
 exact ⟨hz, m', hs, by simpa [hl] using hb, by simpa [hl] using hx, fun h' => absurd h' (fun e => hm (List.length_eq_zero_iff.1 (by rw [hl, e]; rfl))), fun _ => .inl h⟩
theorem Jw {el sz by_ z z' : Nat} {d : Option Nat} {m m' : List AV} {t : Tok} (hz : z' = sz ∨ m = []) (hs : AQ m m') (hm : m ≠ []) (hb : m.length * by_ ≤ 140737488355328) (hx : m.length ≤ maxLen) (h : ∀ g, n ≤ g → K ⟨AN e d (.slg sz g m'.length), g + 1, upd H g (some (.grow el (AO m')))⟩) : appKS el sz by_ d K ⟨e, n, H⟩ (.sl z [] .nil) (.sl z' m t) := by
 have hl := DL hs
 exact ⟨hz, m', hs, by simpa [hl] using hb, by simpa [hl] using hx, fun h' => absurd h' (fun e => hm (List.length_eq_zero_iff.1 (by rw [hl, e]; rfl))), fun _ => .inr h⟩
theorem Jj {el sz by_ g0 k z' : Nat} {d : Option Nat} {m m' cs : List AV} {t : Tok} (hz : z' = sz ∨ m = []) (hs : AQ m m') (hr : H g0 = some (.grow el cs)) (hc : cs.length = k * sz) (hb : (k + m.length) * by_ ≤ 140737488355328) (hx : k + m.length ≤ maxLen) (h : ∀ g n', (g = g0 ∨ n ≤ g) → n ≤ n' → g < n' → K ⟨AN e d (.slg sz g (k + m'.length)), n', upd (upd H g0 none) g (some (.grow el (cs ++ AO m')))⟩) : appKS el sz by_ d K ⟨e, n, H⟩ (.slg sz g0 k) (.sl z' m t) := by
 have hl := DL hs
 refine ⟨hz, m', hs, rfl, by rw [← hl]; exact hb, by rw [← hl]; exact hx, ?_⟩
 show NA el sz by_ d K ⟨e, n, H⟩ g0 k m' (H g0)
 rw [hr]
 exact ⟨rfl, hc, h⟩
theorem Wn {el sz by_ g0 z' : Nat} {d : Option Nat} {l m m' : List AV} {t : Tok} (hz : z' = sz ∨ m = []) (hs : AQ m m') (hr : H g0 = some (.row el l.length)) (hb : (l.length + m.length) * by_ ≤ 140737488355328) (hx : l.length + m.length ≤ maxLen) (h : ∀ g n', (g = g0 ∨ n ≤ g) → n ≤ n' → g < n' → K ⟨AN e d (.sl sz (l ++ m') (.own g)), n', upd (upd H g0 none) g (some (.row el (l.length + m'.length)))⟩) : appKS el sz by_ d K ⟨e, n, H⟩ (.sl sz l (.own g0)) (.sl z' m t) := by
 have hl := DL hs
 exact ⟨hz, m', hs, by rw [← hl]; exact hb, by rw [← hl]; exact hx, rfl, hr, h⟩
theorem QA {X : AS → Prop} {s : AS} : Ej X Q .normal s = X s := rfl
theorem OI {X : AS → Prop} {s : AS} {i : Nat} : Ej X Q (.exit i) s = Q (.exit i) s := rfl
theorem OA {X : AS → Prop} {s : AS} : Ej X Q .ret s = Q .ret s := rfl
theorem QC {id : Nat} {s : AS} : EY id Q .normal s = Q .normal s := rfl
theorem MH {id i : Nat} {s : AS} : EY id Q (.exit i) s = if i = id then Q .normal s else Q (.exit i) s := rfl
theorem Od {id : Nat} {s : AS} : EY id Q .ret s = Q .ret s := rfl
end
/-! ### simp looks at what is known, not into what follows -/
section
variable {P : Program} {K : AS → Prop} {Q : AExit → AS → Prop} {d : Option Nat} {n : Nat}
end
abbrev zM (d s : Nat) : AOper := ⟨some d, .mv (.t s), none⟩
abbrev zL (d s : Nat) : AOper := ⟨some d, .load none (.t s), none⟩
abbrev zF (d s k : Nat) : AOper := ⟨some d, .faddr (.t s) k none, none⟩
abbrev zG (d k s : Nat) : AOper := ⟨some d, .load (some k) (.t s), none⟩
abbrev zX (d s k : Nat) : AOper := ⟨some d, .extr (.t s) k, none⟩
abbrev zI (d : Nat) (k : Int) : AOper := ⟨some d, .mv (.c (.int .i64 k)), none⟩
abbrev zB (d : Nat) (b : Bool) : AOper := ⟨some d, .mv (.c (.bool b)), none⟩
abbrev zS (k a b : Nat) : AOper := ⟨none, .store (some k) (.t a) (.t b), none⟩
abbrev zU (a b : Nat) : AOper := ⟨none, .store none (.t a) (.t b), none⟩
abbrev zP (d a b : Nat) : AOper := ⟨some d, .pick (.t a) (.t b) (.c (.bool false)), none⟩
abbrev zO (d a b : Nat) : AOper := ⟨some d, .pick (.t a) (.c (.bool true)) (.t b), none⟩
abbrev zV (d f a : Nat) : AOper := ⟨some d, .callp f [.t a], none⟩
abbrev zW (d f a b : Nat) : AOper := ⟨some d, .callp f [.t a, .t b], none⟩
abbrev zN (d s : Nat) : AOper := ⟨some d, .not (.t s), none⟩
abbrev zY (d s : Nat) : AOper := ⟨some d, .len (.t s), none⟩
abbrev zZ (d s : Nat) : AOper := ⟨some d, .nilck (.t s), none⟩
abbrev zH (d e k s : Nat) : AOper := ⟨some d, .box e (some k) (.t s), none⟩
abbrev zJ (d k a b : Nat) : AOper := ⟨some d, .iaddr k none (.t a) (.t b), none⟩
abbrev zD (d : Nat) (o : BinOp) (a b : Nat) : AOper := ⟨some d, .bin o (.t a) (.t b), none⟩
abbrev zE (d : Nat) (o : BinOp) (a : Nat) (k : Int) : AOper := ⟨some d, .bin o (.t a) (.c (.int .i64 k)), none⟩
end Go.Proofs.YtjdccdelcnmocaaGreatDoor
