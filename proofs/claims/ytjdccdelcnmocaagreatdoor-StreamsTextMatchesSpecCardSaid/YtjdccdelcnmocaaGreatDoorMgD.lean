/- What is asked at a function's end, and how a function's contract comes of its code; no condition. -/
import Derived.Test.YtjdccdelcnmocaaGreatDoorMgC
set_option linter.all false
set_option linter.unusedSimpArgs false
set_option linter.unusedVariables false
namespace Go.Proofs.YtjdccdelcnmocaaGreatDoor
def EZ (s : AS) : ARes → Option AV
 | .tmp t => some (get s.e t)
 | .cell t sh => Bo s.H sh (get s.e t)
def CA (s : AS) : List ARes → Option (List AV)
 | [] => some []
 | r :: rs => match EZ s r, CA s rs with | some x, some xs => some (x :: xs) | _, _ => none
def Bm (s : AS) (rs : List ARes) : Option AV :=
 match CA s rs with
 | some [x] => some x
 | some xs => some (.tup xs)
 | none => none
def SameB (n : Nat) (H H' : A2) : Prop := ∀ k, k < n → H' k = H k
def OG (v : AV) (n : Nat) (H : A2) (res : List ARes) : AExit → AS → Prop
 | .normal, s | .ret, s => (∃ x, Bm s res = some x ∧ AL x v) ∧ n ≤ s.n ∧ SameB n H s.H
 | _, _ => False
def fin (R : Bi) (n : Nat) (res : List ARes) : AExit → AS → Prop
 | .normal, s | .ret, s => ∃ r n' H', (∃ x, Bm s res = some x ∧ AL x r) ∧ n ≤ n' ∧ n' ≤ s.n ∧ (∀ k, n' ≤ k → H' k = none) ∧ SameB n' H' s.H ∧ R r n' H'
 | _, _ => False
theorem SameB.rfl_ (n : Nat) (H : A2) : SameB n H H := fun _ _ => rfl
theorem AH {R : Bi} {n m : Nat} {res : List ARes} {e : AW} {H : A2} {r : AV} (h1 : Bm ⟨e, m, H⟩ res = some r) (h2 : n ≤ m) (h3 : ∀ k, m ≤ k → H k = none) (h4 : R r m H) : fin R n res .ret ⟨e, m, H⟩ :=
 ⟨r, m, H, ⟨r, h1, A6 _⟩, h2, Nat.le_refl _, h3, SameB.rfl_ _ _, h4⟩
theorem SameB.upd {n : Nat} {H H' : A2} (h : SameB n H H') {g : Nat} (hg : n ≤ g) (x : Option AObj) : SameB n H (upd H' g x) := fun k hk => by
 unfold Go.Proofs.YtjdccdelcnmocaaGreatDoor.upd; rw [if_neg (by omega)]; exact h k hk
theorem AK (H : A2) (g : Nat) (x : Option AObj) : upd H g x g = x := by simp [upd]
theorem upd_ne {H : A2} {g k : Nat} {x : Option AObj} (h : k ≠ g) : upd H g x k = H k := by simp [upd, h]
theorem Jx (H : A2) (g : Nat) (x y : Option AObj) : upd (upd H g x) g y = upd H g y := by funext k; simp only [upd]; split <;> rfl
def T8 (ng t : Bool) : AV := .bool (if ng then !t else t)
def Ji (ks : List FK) (ng : Bool) : AV → AV → Option AV
 | .agg a, .agg b => (D8 ks a b).map (T8 ng)
 | _, _ => none
def Jj (ng : Bool) : AV → AV → Option AV
 | .bool a, .bool b => some (.bool (if ng then !(a == b) else a == b))
 | _, _ => none
def Jk : AV → Option AV | .int k n => some (.int k (k.wrap (0 - n))) | _ => none
def Jo : AV → Option AV | .bool b => some (.bool (!b)) | _ => none
def Jd (k : IntKind) : AV → Option AV | .int _ n => some (.int k (k.wrap n)) | _ => none
def EL (x : AV) (o : Nat) (s : Be) : Option AV := match x with | .agg cs => part cs o s | _ => none
def Gi : AV → AV → Option AV
 | .str s, .int _ j => if 0 ≤ j then (s[j.toNat]?).map fun b => .int .u8 b.toNat else none
 | _, _ => none
def Ge (len sz : Nat) (s : Be) : AV → AV → Option AV
 | .agg cs, .int _ j => if 0 ≤ j ∧ j < len then part cs (j.toNat * sz) s else none
 | _, _ => none
def Vu : AV → Option AV | .sl _ l _ => some (.int .i64 l.length) | .slm _ _ _ n => some (.int .i64 n) | .slg _ _ n => some (.int .i64 n) | _ => none
def Gm : AV → Option AV | .str s => some (.int .i64 s.length) | _ => none
def Gc (i : Nat) : AV → Option AV | .tup vs => vs[i]? | _ => none
def EK : AV → Option AV | .ptr g o => some (.ptr g o) | .ref x => some (.ref x) | .fn f a b => if a.isEmpty then some (.fn f a b) else none | _ => none
def Dd (z : List AV) (ps : List (Nat × Be × AV)) : Option AV := if Hg z.length ps then some (.agg (HJ z (ps.map fun (o, _, x) => (o, x)))) else none
def UH (mx : Bool) : AV → AV → Option AV
 | .int k a, .int k' b => if k = k' then some (.int k (if mx then max a b else min a b)) else none
 | _, _ => none
def JV : AV → Option AV | .sl _ l _ => (bytesOf l).map .str | _ => none
def Jg : AV → Option AV | .int _ n => some (.str (Utf8.encode n).data.toList) | _ => none
def GZ (ng : Bool) : AV → AV → Option AV
 | .ptr g o, .ptr g' o' => if g = g' then some (.bool (if ng then !(decide (o = o')) else decide (o = o'))) else none
 | _, _ => none
def K4 (d : Option Nat) (K : AS → Prop) (e : AW) (n : Nat) (H : A2) : AV → Prop
 | .str b => b.length ≤ maxLen ∧ ∀ n', n ≤ n' → K ⟨AO e d (.sl 1 (b.map fun u => .int .u8 u.toNat) .ro), n', H⟩
 | _ => False
def K2 (d : Option Nat) (K : AS → Prop) (e : AW) (n : Nat) (H : A2) : AV → Prop
 | .sl sz l (.own g) => l ≠ [] ∧ K ⟨AO e d (.sl sz l .ro), n, upd H g none⟩
 | _ => False
def A4d (kk : Option IntKind) (d : Option Nat) (K : AS → Prop) (e : AW) (n : Nat) (H : A2) : Prop := ∀ g, n ≤ g → K ⟨AO e d (.mp g), g + 1, upd H g (some (.map kk []))⟩
def AI (P : Program) (d : Option Nat) (K : AS → Prop) (e : AW) (n : Nat) (H : A2) (xs : List AV) : AV → Prop
 | .fn f a b => Am P f = true ∧ CallK P f (a ++ xs ++ b) d K ⟨e, n, H⟩
 | _ => False
def Aw (sh : Be) (x : AV) : Prop := x.fits sh = true ∧ ones x.cells
def I8 (sh : Be) (l : List AV) : Prop := ∀ x ∈ l, Aw sh x
theorem MC {sh : Be} : I8 sh [] = True := by simp [I8]
theorem K8 {sh : Be} {x : AV} {l : List AV} : I8 sh (x :: l) = (Aw sh x ∧ I8 sh l) := by simp [I8]
theorem My {s : List UInt8} : Aw none (.str s) = True := by simp [Aw, AV.fits, ones, AV.cells, AV.one]
theorem MJ {k : IntKind} {i : Int} : Aw none (.int k i) = True := by simp [Aw, AV.fits, ones, AV.cells, AV.one]
theorem LV {b : Bool} : Aw none (.bool b) = True := by simp [Aw, AV.fits, ones, AV.cells, AV.one]
theorem K0 {z : Nat} {l : List AV} {t : Tok} : Aw none (.sl z l t) = True := by simp [Aw, AV.fits, ones, AV.cells, AV.one]
theorem MK {g o : Nat} : Aw none (.ptr g o) = True := by simp [Aw, AV.fits, ones, AV.cells, AV.one]
theorem Km : Aw none .np = True := by simp [Aw, AV.fits, ones, AV.cells, AV.one]
theorem KG {x : AV} : Aw none (.ref x) = True := by simp [Aw, AV.fits, ones, AV.cells, AV.one]
theorem Na {f : Nat} {a b : List AV} : Aw none (.fn f a b) = True := by simp [Aw, AV.fits, ones, AV.cells, AV.one]
theorem KN : Aw none .nfn = True := by simp [Aw, AV.fits, ones, AV.cells, AV.one]
theorem NV {t : Nat} {v : AV} : Aw none (.ifc t v) = True := by simp [Aw, AV.fits, ones, AV.cells, AV.one]
theorem Ld : Aw none .nif = True := by simp [Aw, AV.fits, ones, AV.cells, AV.one]
theorem NZ {s : Nat} {cs : List AV} : Aw (some s) (.agg cs) = (cs.length = s ∧ ones cs) := by simp [Aw, AV.fits, AV.cells]
def A2h (sh : Be) (d : Option Nat) (K : AS → Prop) (e : AW) (n : Nat) (H : A2) (v : AV) (g o : Nat) : Option AObj → Prop
 | some (.cells t cs) => Aw sh v ∧ o + v.cells.length ≤ cs.length ∧ K ⟨AO e d .any, n, upd H g (some (.cells t (splice cs o v.cells)))⟩
 | some (.grow t cs) => Aw sh v ∧ o + v.cells.length ≤ cs.length ∧ K ⟨AO e d .any, n, upd H g (some (.grow t (splice cs o v.cells)))⟩
 | _ => False
theorem L0 {sh : Be} {d : Option Nat} {K : AS → Prop} {e : AW} {n : Nat} {H : A2} {v : AV} {g o : Nat} : DB sh d K ⟨e, n, H⟩ v (.ptr g o) = A2h sh d K e n H v g o (H g) := by
 show (match H g with | some (.cells e' cs) => _ | some (.grow e' cs) => _ | _ => False) = _
 cases H g with
 | none => rfl
 | some ob => cases ob with
  | cells t cs => exact propext and_assoc.symm
  | grow t cs => exact propext and_assoc.symm
  | _ => rfl
theorem ME {sh : Be} {d : Option Nat} {K : AS → Prop} {e : AW} {n : Nat} {H : A2} {v : AV} {g o : Nat} {t : TypeId} {cs : List AV} : A2h sh d K e n H v g o (some (.cells t cs)) = (Aw sh v ∧ o + v.cells.length ≤ cs.length ∧ K ⟨AO e d .any, n, upd H g (some (.cells t (splice cs o v.cells)))⟩) := rfl
theorem Kv {sh : Be} {d : Option Nat} {K : AS → Prop} {e : AW} {n : Nat} {H : A2} {v : AV} {g o : Nat} {t : TypeId} {cs : List AV} : A2h sh d K e n H v g o (some (.grow t cs)) = (Aw sh v ∧ o + v.cells.length ≤ cs.length ∧ K ⟨AO e d .any, n, upd H g (some (.grow t (splice cs o v.cells)))⟩) := rfl
theorem Lp {z g m : Nat} : Vu (.slg z g m) = some (.int .i64 m) := rfl
theorem Mk {sz z g m : Nat} {s : Be} {k : IntKind} {j : Int} : Dc sz s (.slg z g m) (.int k j) = if z = sz ∧ 0 ≤ j ∧ j < m then some (.ptr g (j.toNat * sz)) else none := rfl
theorem L6 {z g o m : Nat} : Vu (.slm z g o m) = some (.int .i64 m) := rfl
theorem LM {sz z g o m : Nat} {s : Be} {k : IntKind} {j : Int} : Dc sz s (.slm z g o m) (.int k j) = if z = sz ∧ 0 ≤ j ∧ j < m then some (.ptr g (o + j.toNat * sz)) else none := rfl
theorem L5 : AX [] = [] := rfl
theorem N4 {x : AV} {l : List AV} : AX (x :: l) = x.cells ++ AX l := rfl
theorem Ky {z : Nat} {l : List AV} {t : Tok} : Vu (.sl z l t) = some (.int .i64 l.length) := rfl
theorem Lf {sz z : Nat} {s : Be} {l : List AV} {t : Tok} {k : IntKind} {j : Int} : Dc sz s (.sl z l t) (.int k j) = if z = sz ∧ 0 ≤ j then (match l[j.toNat]? with | some y => if y.fits s then some (.ref y) else none | none => none) else none := rfl
theorem M4 {sz z : Nat} {l : List AV} {t : Tok} {lo hi : Option AV} : Jp sz (.sl z l t) lo hi = if z = sz ∨ l = [] then (Gp lo hi l.length).map fun (a, b) => .sl sz ((l.take b).drop a) .ro else none := rfl
def ZJ (ob : AObj) (d : Option Nat) (K : AS → Prop) (e : AW) (n : Nat) (H : A2) : Prop := ∀ g, n ≤ g → K ⟨AO e d (.ptr g 0), g + 1, upd H g (some ob)⟩
def Wv (sz : Nat) (l : List AV) (ob : AObj) (d : Option Nat) (K : AS → Prop) (e : AW) (n : Nat) (H : A2) : Prop := ∀ g, n ≤ g → K ⟨AO e d (.sl sz l (.own g)), g + 1, upd H g (some ob)⟩
def KS (o : Option AV) (d : Option Nat) (K : AS → Prop) (e : AW) (n : Nat) (H : A2) : Prop :=
 match o with
 | some v => K ⟨AO e d v, n, H⟩
 | none => False
theorem N0 {v : AV} {d : Option Nat} {K : AS → Prop} {e : AW} {n : Nat} {H : A2} : KS (some v) d K e n H = K ⟨AO e d v, n, H⟩ := rfl
theorem Lm {d : Option Nat} {K : AS → Prop} {e : AW} {n : Nat} {H : A2} : KS none d K e n H = False := rfl
section
variable {P : Program} {e : AW} {n : Nat} {H : A2} {Q : AExit → AS → Prop} {K : AS → Prop}
theorem Nr : aw P .skip Q ⟨e, n, H⟩ = Q .normal ⟨e, n, H⟩ := rfl
theorem F6 {ops : List AOper} : aw P (.reg ops) Q ⟨e, n, H⟩ = awOps P ops (Q .normal) ⟨e, n, H⟩ := rfl
theorem Ej {a b : ACode} : aw P (.seq a b) Q ⟨e, n, H⟩ = aw P a (EF (aw P b Q) Q) ⟨e, n, H⟩ := rfl
theorem Lh {c : Opd} {a b : ACode} : aw P (.cond c a b) Q ⟨e, n, H⟩ = FU (aw P a Q ⟨e, n, H⟩) (aw P b Q ⟨e, n, H⟩) (ev e c) := rfl
theorem Ke {id : Nat} {c : ACode} : aw P (.block id c) Q ⟨e, n, H⟩ = aw P c (Dk id Q) ⟨e, n, H⟩ := rfl
theorem MA {c : ACode} : aw P (.loop c) Q ⟨e, n, H⟩ = LoopK (fun Q s => aw P c Q s) Q ⟨e, n, H⟩ := rfl
theorem LY {id : Nat} : aw P (.exit id) Q ⟨e, n, H⟩ = Q (.exit id) ⟨e, n, H⟩ := rfl
theorem F0 : aw P .ret Q ⟨e, n, H⟩ = Q .ret ⟨e, n, H⟩ := rfl
theorem Eg : aw P .bad Q ⟨e, n, H⟩ = False := rfl
theorem HW {ks : List Nat} {c : ACode} : aw P (.kp ks c) Q ⟨e, n, H⟩ = aw P c Q ⟨Dv e ks, n, H⟩ := rfl
theorem HP {ks : List Nat} {c : ACode} : aw P (.ke ks c) Q ⟨e, n, H⟩ = aw P c (Ox ks Q) ⟨e, n, H⟩ := rfl
theorem NA {ks : List Nat} : Ox ks Q .normal ⟨e, n, H⟩ = Q .normal ⟨Dv e ks, n, H⟩ := rfl
theorem KJ {ks : List Nat} {i : Nat} {s : AS} : Ox ks Q (.exit i) s = Q (.exit i) s := rfl
theorem Mo {ks : List Nat} {s : AS} : Ox ks Q .ret s = Q .ret s := rfl
theorem MQ {l : List Seg} : aw P (.segs l) Q ⟨e, n, H⟩ = CD P l (Q .normal) ⟨e, n, H⟩ := rfl
theorem Ml : CD P [] K ⟨e, n, H⟩ = K ⟨e, n, H⟩ := rfl
def A17 (o : Option AV) (d : Nat) (ops : List AOper) (K : AS → Prop) (e : AW) (n : Nat) (H : A2) : Prop :=
 match o with
 | some v => K ⟨put (Fh e ops) d v, n, H⟩
 | none => False
theorem N3 {v : AV} {d : Nat} {ops : List AOper} {K : AS → Prop} {e : AW} {n : Nat} {H : A2} : A17 (some v) d ops K e n H = K ⟨put (Fh e ops) d v, n, H⟩ := rfl
theorem KY {d : Nat} {ops : List AOper} {K : AS → Prop} {e : AW} {n : Nat} {H : A2} : A17 none d ops K e n H = False := rfl
theorem L9 {t d x : Nat} {want : Bool} {ops : List AOper} {l : List Seg} : CD P (⟨some (t, want), ops, some (d, x)⟩ :: l) K ⟨e, n, H⟩ = A17 (T7 want x (get e t) (DM ops e H)) d ops (CD P l K) e n H := rfl
def evS (o : Option AV) (d : Option Nat) (os : List AOper) (e : AW) (H : A2) : Option AW :=
 match o with
 | some v => DM os (AO e d v) H
 | none => none
theorem Nf {v : AV} {d : Option Nat} {os : List AOper} {H : A2} : evS (some v) d os e H = DM os (AO e d v) H := rfl
theorem Nu {d : Option Nat} {os : List AOper} {H : A2} : evS none d os e H = none := rfl
theorem MH {H : A2} : DM [] e H = some e := rfl
theorem MN {d : Option Nat} {op : AOp} {g : Option (Nat × Bool)} {os : List AOper} {H : A2} : DM (⟨d, op, g⟩ :: os) e H = evS (pe op e H) d os e H := rfl
theorem MY {ops : List AOper} {l : List Seg} {p : Option (Nat × Nat)} : CD P (⟨none, ops, p⟩ :: l) K ⟨e, n, H⟩ = awOps P ops (CD P l K) ⟨e, n, H⟩ := rfl
theorem P1 {v : AV} (hv : v ≠ .any) : ∀ {e : AW} {t : Nat}, get e t = v → I1 e t v = e
 | [], t, h => absurd h.symm hv
 | (k, u) :: r, t, h => by
  simp only [get] at h
  simp only [I1]
  split
  ·rename_i hk; rw [if_pos hk] at h; rw [h, hk]
  ·rename_i hk; rw [if_neg hk] at h; rw [P1 hv h]
def Df (want : Bool) (A B C : Prop) : AV → Prop
 | .bool b => (b = want → A) ∧ (b ≠ want → B)
 | .und => C
 | _ => False
theorem LL {t : Nat} {want : Bool} {ops : List AOper} {l : List Seg} : CD P (⟨some (t, want), ops, none⟩ :: l) K ⟨e, n, H⟩ = Df want (awOps P ops (CD P l K) ⟨I1 e t (.bool want), n, H⟩) (CD P l K ⟨GG (I1 e t (.bool (!want))) ops, n, H⟩) (CD P l K ⟨GG e ops, n, H⟩) (get e t) := by
 show guardK want _ (CD P l K ⟨GG e ops, n, H⟩) _ = _
 generalize hg : get e t = v
 cases v <;> try rfl
 rename_i b
 simp only [guardK, Df, eq_iff_iff]
 by_cases hb : b = want
 ·subst hb
  rw [P1 (by simp) hg]
  simp
 ·have hb' : b = !want := by cases b <;> cases want <;> simp_all
  subst hb'
  rw [P1 (by simp) hg]
  simp
theorem Ki : awOps P [] K ⟨e, n, H⟩ = K ⟨e, n, H⟩ := rfl
theorem LQ {d : Option Nat} {op : AOp} {os : List AOper} : awOps P (⟨d, op, none⟩ :: os) K ⟨e, n, H⟩ = AR P d op (awOps P os K) ⟨e, n, H⟩ := rfl
theorem Kx {m : Mode} {S : List Nat} {ops : List AOper} : aw P (.regD m S ops) Q ⟨e, n, H⟩ = gsK P m (WF e S) ops (Q .normal) ⟨e, n, H⟩ := rfl
theorem Ng {m : Mode} {gs : List Nat} {ops : List AOper} {s : AS} : gsK P m (some gs) ops K s = gsM P m gs ops K s := rfl
theorem A0 {m : Mode} {gs : List Nat} {ops : List AOper} (h : AC P m n gs ops K ⟨e, n, H⟩) : gsM P m gs ops K ⟨e, n, H⟩ := ⟨[], h⟩
theorem JD {m : Mode} {gs : List Nat} {ops : List AOper} (ms : List Nat) (h : AC P m n (ms ++ gs) ops K ⟨e, n, H⟩) : gsM P m gs ops K ⟨e, n, H⟩ := ⟨ms, h⟩
theorem Lq : WF e [] = some [] := rfl
theorem Nv {t : Nat} {ts : List Nat} : WF e (t :: ts) = gsC (get e t) (WF e ts) := rfl
theorem LZ {g o : Nat} {gs : List Nat} : gsC (.ptr g o) (some gs) = some (g :: gs) := rfl
def V8 (ob : AObj) (d : Option Nat) (K : AS → Prop) (e : AW) (n : Nat) (H : A2) : Prop := ∀ g, n ≤ g → H g = none → K ⟨AO e d (.ptr g 0), g + 1, upd H g (some ob)⟩
theorem A1 {ob : AObj} {d : Option Nat} {H : A2} (h : ZJ ob d K e n H) : V8 ob d K e n H := fun g hg _ => h g hg
def Ug (sz : Nat) (l : List AV) (ob : AObj) (d : Option Nat) (K : AS → Prop) (e : AW) (n : Nat) (H : A2) : Prop := ∀ g, n ≤ g → H g = none → K ⟨AO e d (.sl sz l (.own g)), g + 1, upd H g (some ob)⟩
theorem AF {sz : Nat} {l : List AV} {ob : AObj} {d : Option Nat} {H : A2} (h : Wv sz l ob d K e n H) : Ug sz l ob d K e n H := fun g hg _ => h g hg
theorem NX {md : Mode} {lw : Nat} {gs : List Nat} : AC P md lw gs [] K ⟨e, n, H⟩ = K ⟨e, n, H⟩ := rfl
theorem Nn {md : Mode} {lw : Nat} {gs : List Nat} {d : Option Nat} {sh : Be} {x : Opd} {os : List AOper} : AC P md lw gs (⟨d, .load sh x, none⟩ :: os) K ⟨e, n, H⟩ = KS (Bo (Bg gs H) sh (ev e x)) d (AC P md lw gs os K) e n H := rfl
def Ut (md : Mode) (lo : Nat) (ob : AObj) (d : Option Nat) (K : AS → Prop) (e : AW) (n : Nat) (H : A2) : Prop := newK md lo ⟨e, n, H⟩ fun g n' => K ⟨AO e d (.ptr g 0), n', upd H g (some ob)⟩
def Uh (md : Mode) (lo : Nat) (sz : Nat) (l : List AV) (ob : AObj) (d : Option Nat) (K : AS → Prop) (e : AW) (n : Nat) (H : A2) : Prop := newK md lo ⟨e, n, H⟩ fun g n' => K ⟨AO e d (.sl sz l (.own g)), n', upd H g (some ob)⟩
theorem Mj {lo : Nat} {ob : AObj} {d : Option Nat} {H : A2} : Ut .plain lo ob d K e n H = V8 ob d K e n H := rfl
theorem L8 {lo : Nat} {ob : AObj} {d : Option Nat} {H : A2} : Ut .late lo ob d K e n H = V8 ob d K e n H := rfl
theorem LX {q lo : Nat} {ob : AObj} {d : Option Nat} {H : A2} : Ut (.last q) lo ob d K e n H = V8 ob d K e n H := rfl
theorem MR {lo : Nat} {sz : Nat} {l : List AV} {ob : AObj} {d : Option Nat} {H : A2} : Uh .plain lo sz l ob d K e n H = Ug sz l ob d K e n H := rfl
theorem MG {lo : Nat} {sz : Nat} {l : List AV} {ob : AObj} {d : Option Nat} {H : A2} : Uh .late lo sz l ob d K e n H = Ug sz l ob d K e n H := rfl
theorem Nh {q lo : Nat} {sz : Nat} {l : List AV} {ob : AObj} {d : Option Nat} {H : A2} : Uh (.last q) lo sz l ob d K e n H = Ug sz l ob d K e n H := rfl
theorem LI {md : Mode} {lw : Nat} {gs : List Nat} {d : Option Nat} {t : TypeId} {z : List AV} {os : List AOper} : AC P md lw gs (⟨d, .alloc t z, none⟩ :: os) K ⟨e, n, H⟩ = (ones z ∧ Ut md lw (.cells t z) d (AC P md lw gs os K) e n H) := rfl
theorem LF {md : Mode} {lw : Nat} {gs : List Nat} {d : Option Nat} {sh : Be} {x v : Opd} {os : List AOper} : AC P md lw gs (⟨d, .store sh x v, none⟩ :: os) K ⟨e, n, H⟩ = (Q9 md lw gs x (ev e x) ∧ DB sh d (AC P md lw gs os K) ⟨e, n, H⟩ (ev e v) (ev e x)) := rfl
theorem FP {md : Mode} {lw : Nat} {gs : List Nat} {t : Nat} {want : Bool} {d : Option Nat} {x : Opd} {os : List AOper} : AC P md lw gs (⟨d, .mv x, some (t, want)⟩ :: os) K ⟨e, n, H⟩ = guardK want (AR P d (.mv x) (AC P md lw gs os K) ⟨e, n, H⟩) (AC P md lw gs os K ⟨AO e d .und, n, H⟩) (get e t) := by
 show (match get e t with | .bool b => _ | .und => _ | _ => False) = _
 cases get e t <;> rfl
theorem Mq {md : Mode} {lw : Nat} {gs : List Nat} {t : Nat} {want : Bool} {d : Option Nat} {op : BinOp} {x y : Opd} {os : List AOper} : AC P md lw gs (⟨d, .bin op x y, some (t, want)⟩ :: os) K ⟨e, n, H⟩ = guardK want (AR P d (.bin op x y) (AC P md lw gs os K) ⟨e, n, H⟩) (AC P md lw gs os K ⟨AO e d .und, n, H⟩) (get e t) := by
 show (match get e t with | .bool b => _ | .und => _ | _ => False) = _
 cases get e t <;> rfl
theorem Ku {md : Mode} {lw : Nat} {gs : List Nat} {t : Nat} {want : Bool} {d : Option Nat} {ks : List FK} {neg : Bool} {x y : Opd} {os : List AOper} : AC P md lw gs (⟨d, .eqs ks neg x y, some (t, want)⟩ :: os) K ⟨e, n, H⟩ = guardK want (AR P d (.eqs ks neg x y) (AC P md lw gs os K) ⟨e, n, H⟩) (AC P md lw gs os K ⟨AO e d .und, n, H⟩) (get e t) := by
 show (match get e t with | .bool b => _ | .und => _ | _ => False) = _
 cases get e t <;> rfl
theorem Mb {md : Mode} {lw : Nat} {gs : List Nat} {t : Nat} {want : Bool} {d : Option Nat} {neg : Bool} {x y : Opd} {os : List AOper} : AC P md lw gs (⟨d, .eqb neg x y, some (t, want)⟩ :: os) K ⟨e, n, H⟩ = guardK want (AR P d (.eqb neg x y) (AC P md lw gs os K) ⟨e, n, H⟩) (AC P md lw gs os K ⟨AO e d .und, n, H⟩) (get e t) := by
 show (match get e t with | .bool b => _ | .und => _ | _ => False) = _
 cases get e t <;> rfl
theorem Kp {md : Mode} {lw : Nat} {gs : List Nat} {t : Nat} {want : Bool} {d : Option Nat} {neg : Bool} {x : Opd} {os : List AOper} : AC P md lw gs (⟨d, .eqn neg x, some (t, want)⟩ :: os) K ⟨e, n, H⟩ = guardK want (AR P d (.eqn neg x) (AC P md lw gs os K) ⟨e, n, H⟩) (AC P md lw gs os K ⟨AO e d .und, n, H⟩) (get e t) := by
 show (match get e t with | .bool b => _ | .und => _ | _ => False) = _
 cases get e t <;> rfl
theorem N6 {md : Mode} {lw : Nat} {gs : List Nat} {t : Nat} {want : Bool} {d : Option Nat} {neg : Bool} {x : Opd} {os : List AOper} : AC P md lw gs (⟨d, .eqp neg x, some (t, want)⟩ :: os) K ⟨e, n, H⟩ = guardK want (AR P d (.eqp neg x) (AC P md lw gs os K) ⟨e, n, H⟩) (AC P md lw gs os K ⟨AO e d .und, n, H⟩) (get e t) := by
 show (match get e t with | .bool b => _ | .und => _ | _ => False) = _
 cases get e t <;> rfl
theorem MX {md : Mode} {lw : Nat} {gs : List Nat} {t : Nat} {want : Bool} {d : Option Nat} {neg : Bool} {x : Opd} {os : List AOper} : AC P md lw gs (⟨d, .eqi neg x, some (t, want)⟩ :: os) K ⟨e, n, H⟩ = guardK want (AR P d (.eqi neg x) (AC P md lw gs os K) ⟨e, n, H⟩) (AC P md lw gs os K ⟨AO e d .und, n, H⟩) (get e t) := by
 show (match get e t with | .bool b => _ | .und => _ | _ => False) = _
 cases get e t <;> rfl
theorem KD {md : Mode} {lw : Nat} {gs : List Nat} {t : Nat} {want : Bool} {d : Option Nat} {x : Opd} {os : List AOper} : AC P md lw gs (⟨d, .neg x, some (t, want)⟩ :: os) K ⟨e, n, H⟩ = guardK want (AR P d (.neg x) (AC P md lw gs os K) ⟨e, n, H⟩) (AC P md lw gs os K ⟨AO e d .und, n, H⟩) (get e t) := by
 show (match get e t with | .bool b => _ | .und => _ | _ => False) = _
 cases get e t <;> rfl
theorem Mg {md : Mode} {lw : Nat} {gs : List Nat} {t : Nat} {want : Bool} {d : Option Nat} {x : Opd} {os : List AOper} : AC P md lw gs (⟨d, .not x, some (t, want)⟩ :: os) K ⟨e, n, H⟩ = guardK want (AR P d (.not x) (AC P md lw gs os K) ⟨e, n, H⟩) (AC P md lw gs os K ⟨AO e d .und, n, H⟩) (get e t) := by
 show (match get e t with | .bool b => _ | .und => _ | _ => False) = _
 cases get e t <;> rfl
theorem Mh {md : Mode} {lw : Nat} {gs : List Nat} {t : Nat} {want : Bool} {d : Option Nat} {k : IntKind} {x : Opd} {os : List AOper} : AC P md lw gs (⟨d, .cvi k x, some (t, want)⟩ :: os) K ⟨e, n, H⟩ = guardK want (AR P d (.cvi k x) (AC P md lw gs os K) ⟨e, n, H⟩) (AC P md lw gs os K ⟨AO e d .und, n, H⟩) (get e t) := by
 show (match get e t with | .bool b => _ | .und => _ | _ => False) = _
 cases get e t <;> rfl
theorem M7 {md : Mode} {lw : Nat} {gs : List Nat} {t : Nat} {want : Bool} {d : Option Nat} {sz : Nat} {x : Opd} {lo hi : Option Opd} {os : List AOper} : AC P md lw gs (⟨d, .cut sz x lo hi, some (t, want)⟩ :: os) K ⟨e, n, H⟩ = guardK want (AR P d (.cut sz x lo hi) (AC P md lw gs os K) ⟨e, n, H⟩) (AC P md lw gs os K ⟨AO e d .und, n, H⟩) (get e t) := by
 show (match get e t with | .bool b => _ | .und => _ | _ => False) = _
 cases get e t <;> rfl
theorem Kg {md : Mode} {lw : Nat} {gs : List Nat} {t : Nat} {want : Bool} {d : Option Nat} {x : Opd} {lo hi : Option Opd} {os : List AOper} : AC P md lw gs (⟨d, .cutS x lo hi, some (t, want)⟩ :: os) K ⟨e, n, H⟩ = guardK want (AR P d (.cutS x lo hi) (AC P md lw gs os K) ⟨e, n, H⟩) (AC P md lw gs os K ⟨AO e d .und, n, H⟩) (get e t) := by
 show (match get e t with | .bool b => _ | .und => _ | _ => False) = _
 cases get e t <;> rfl
theorem Kl {md : Mode} {lw : Nat} {gs : List Nat} {t : Nat} {want : Bool} {d : Option Nat} {x : Opd} {off : Nat} {s : Be} {os : List AOper} : AC P md lw gs (⟨d, .faddr x off s, some (t, want)⟩ :: os) K ⟨e, n, H⟩ = guardK want (AR P d (.faddr x off s) (AC P md lw gs os K) ⟨e, n, H⟩) (AC P md lw gs os K ⟨AO e d .und, n, H⟩) (get e t) := by
 show (match get e t with | .bool b => _ | .und => _ | _ => False) = _
 cases get e t <;> rfl
theorem KZ {md : Mode} {lw : Nat} {gs : List Nat} {t : Nat} {want : Bool} {d : Option Nat} {x : Opd} {off : Nat} {s : Be} {os : List AOper} : AC P md lw gs (⟨d, .field x off s, some (t, want)⟩ :: os) K ⟨e, n, H⟩ = guardK want (AR P d (.field x off s) (AC P md lw gs os K) ⟨e, n, H⟩) (AC P md lw gs os K ⟨AO e d .und, n, H⟩) (get e t) := by
 show (match get e t with | .bool b => _ | .und => _ | _ => False) = _
 cases get e t <;> rfl
theorem NM {md : Mode} {lw : Nat} {gs : List Nat} {t : Nat} {want : Bool} {d : Option Nat} {sz : Nat} {s : Be} {x i : Opd} {os : List AOper} : AC P md lw gs (⟨d, .iaddr sz s x i, some (t, want)⟩ :: os) K ⟨e, n, H⟩ = guardK want (AR P d (.iaddr sz s x i) (AC P md lw gs os K) ⟨e, n, H⟩) (AC P md lw gs os K ⟨AO e d .und, n, H⟩) (get e t) := by
 show (match get e t with | .bool b => _ | .und => _ | _ => False) = _
 cases get e t <;> rfl
theorem LC {md : Mode} {lw : Nat} {gs : List Nat} {t : Nat} {want : Bool} {d : Option Nat} {len sz : Nat} {s : Be} {x i : Opd} {os : List AOper} : AC P md lw gs (⟨d, .aaddr len sz s x i, some (t, want)⟩ :: os) K ⟨e, n, H⟩ = guardK want (AR P d (.aaddr len sz s x i) (AC P md lw gs os K) ⟨e, n, H⟩) (AC P md lw gs os K ⟨AO e d .und, n, H⟩) (get e t) := by
 show (match get e t with | .bool b => _ | .und => _ | _ => False) = _
 cases get e t <;> rfl
theorem Lc {md : Mode} {lw : Nat} {gs : List Nat} {t : Nat} {want : Bool} {d : Option Nat} {x i : Opd} {os : List AOper} : AC P md lw gs (⟨d, .sidx x i, some (t, want)⟩ :: os) K ⟨e, n, H⟩ = guardK want (AR P d (.sidx x i) (AC P md lw gs os K) ⟨e, n, H⟩) (AC P md lw gs os K ⟨AO e d .und, n, H⟩) (get e t) := by
 show (match get e t with | .bool b => _ | .und => _ | _ => False) = _
 cases get e t <;> rfl
theorem K9 {md : Mode} {lw : Nat} {gs : List Nat} {t : Nat} {want : Bool} {d : Option Nat} {len sz : Nat} {s : Be} {x i : Opd} {os : List AOper} : AC P md lw gs (⟨d, .aidx len sz s x i, some (t, want)⟩ :: os) K ⟨e, n, H⟩ = guardK want (AR P d (.aidx len sz s x i) (AC P md lw gs os K) ⟨e, n, H⟩) (AC P md lw gs os K ⟨AO e d .und, n, H⟩) (get e t) := by
 show (match get e t with | .bool b => _ | .und => _ | _ => False) = _
 cases get e t <;> rfl
theorem LN {md : Mode} {lw : Nat} {gs : List Nat} {t : Nat} {want : Bool} {d : Option Nat} {x : Opd} {os : List AOper} : AC P md lw gs (⟨d, .len x, some (t, want)⟩ :: os) K ⟨e, n, H⟩ = guardK want (AR P d (.len x) (AC P md lw gs os K) ⟨e, n, H⟩) (AC P md lw gs os K ⟨AO e d .und, n, H⟩) (get e t) := by
 show (match get e t with | .bool b => _ | .und => _ | _ => False) = _
 cases get e t <;> rfl
theorem NY {md : Mode} {lw : Nat} {gs : List Nat} {t : Nat} {want : Bool} {d : Option Nat} {x : Opd} {os : List AOper} : AC P md lw gs (⟨d, .lenS x, some (t, want)⟩ :: os) K ⟨e, n, H⟩ = guardK want (AR P d (.lenS x) (AC P md lw gs os K) ⟨e, n, H⟩) (AC P md lw gs os K ⟨AO e d .und, n, H⟩) (get e t) := by
 show (match get e t with | .bool b => _ | .und => _ | _ => False) = _
 cases get e t <;> rfl
theorem NC {md : Mode} {lw : Nat} {gs : List Nat} {t : Nat} {want : Bool} {d : Option Nat} {x : Opd} {i : Nat} {os : List AOper} : AC P md lw gs (⟨d, .extr x i, some (t, want)⟩ :: os) K ⟨e, n, H⟩ = guardK want (AR P d (.extr x i) (AC P md lw gs os K) ⟨e, n, H⟩) (AC P md lw gs os K ⟨AO e d .und, n, H⟩) (get e t) := by
 show (match get e t with | .bool b => _ | .und => _ | _ => False) = _
 cases get e t <;> rfl
theorem N7 {md : Mode} {lw : Nat} {gs : List Nat} {t : Nat} {want : Bool} {d : Option Nat} {z : List AV} {ps : List (Nat × Be × Opd)} {os : List AOper} : AC P md lw gs (⟨d, .build z ps, some (t, want)⟩ :: os) K ⟨e, n, H⟩ = guardK want (AR P d (.build z ps) (AC P md lw gs os K) ⟨e, n, H⟩) (AC P md lw gs os K ⟨AO e d .und, n, H⟩) (get e t) := by
 show (match get e t with | .bool b => _ | .und => _ | _ => False) = _
 cases get e t <;> rfl
theorem FB {md : Mode} {lw : Nat} {gs : List Nat} {t : Nat} {want : Bool} {d : Option Nat} {mx : Bool} {x y : Opd} {os : List AOper} : AC P md lw gs (⟨d, .mm mx x y, some (t, want)⟩ :: os) K ⟨e, n, H⟩ = guardK want (AR P d (.mm mx x y) (AC P md lw gs os K) ⟨e, n, H⟩) (AC P md lw gs os K ⟨AO e d .und, n, H⟩) (get e t) := by
 show (match get e t with | .bool b => _ | .und => _ | _ => False) = _
 cases get e t <;> rfl
theorem M6 {md : Mode} {lw : Nat} {gs : List Nat} {t : Nat} {want : Bool} {d : Option Nat} {sh : Be} {x : Opd} {os : List AOper} : AC P md lw gs (⟨d, .load sh x, some (t, want)⟩ :: os) K ⟨e, n, H⟩ = guardK want (KS (Bo (Bg gs H) sh (ev e x)) d (AC P md lw gs os K) e n H) (AC P md lw gs os K ⟨AO e d .und, n, H⟩) (get e t) := by
 show K1 (Wi gs sh x (some (t, want)) e H) _ = _
 unfold Wi
 simp only
 cases get e t <;> try rfl
 rename_i b
 simp only [guardK, eq_iff_iff]
 by_cases hb : b = want
 ·rw [if_pos hb]
  exact ⟨fun h => ⟨fun _ => h, fun hne => absurd hb hne⟩, fun h => h.1 hb⟩
 ·rw [if_neg hb]
  exact ⟨fun h => ⟨fun he => absurd he hb, fun _ => h⟩, fun h => h.2 hb⟩
theorem Ei {md : Mode} {lw : Nat} {gs : List Nat} {d : Option Nat} {x : Opd} {os : List AOper} : AC P md lw gs (⟨d, .mv x, none⟩ :: os) K ⟨e, n, H⟩ = AR P d (.mv x) (AC P md lw gs os K) ⟨e, n, H⟩ := rfl
theorem Lt {md : Mode} {lw : Nat} {gs : List Nat} {d : Option Nat} {c a b : Opd} {os : List AOper} : AC P md lw gs (⟨d, .pick c a b, none⟩ :: os) K ⟨e, n, H⟩ = AR P d (.pick c a b) (AC P md lw gs os K) ⟨e, n, H⟩ := rfl
theorem N5 {md : Mode} {lw : Nat} {gs : List Nat} {d : Option Nat} {op : BinOp} {x y : Opd} {os : List AOper} : AC P md lw gs (⟨d, .bin op x y, none⟩ :: os) K ⟨e, n, H⟩ = AR P d (.bin op x y) (AC P md lw gs os K) ⟨e, n, H⟩ := rfl
theorem Nc {md : Mode} {lw : Nat} {gs : List Nat} {d : Option Nat} {ks : List FK} {neg : Bool} {x y : Opd} {os : List AOper} : AC P md lw gs (⟨d, .eqs ks neg x y, none⟩ :: os) K ⟨e, n, H⟩ = AR P d (.eqs ks neg x y) (AC P md lw gs os K) ⟨e, n, H⟩ := rfl
theorem Mx {md : Mode} {lw : Nat} {gs : List Nat} {d : Option Nat} {neg : Bool} {x y : Opd} {os : List AOper} : AC P md lw gs (⟨d, .eqb neg x y, none⟩ :: os) K ⟨e, n, H⟩ = AR P d (.eqb neg x y) (AC P md lw gs os K) ⟨e, n, H⟩ := rfl
theorem N9 {md : Mode} {lw : Nat} {gs : List Nat} {d : Option Nat} {neg : Bool} {x : Opd} {os : List AOper} : AC P md lw gs (⟨d, .eqn neg x, none⟩ :: os) K ⟨e, n, H⟩ = AR P d (.eqn neg x) (AC P md lw gs os K) ⟨e, n, H⟩ := rfl
theorem KQ {md : Mode} {lw : Nat} {gs : List Nat} {d : Option Nat} {neg : Bool} {x : Opd} {os : List AOper} : AC P md lw gs (⟨d, .eqp neg x, none⟩ :: os) K ⟨e, n, H⟩ = AR P d (.eqp neg x) (AC P md lw gs os K) ⟨e, n, H⟩ := rfl
theorem LJ {md : Mode} {lw : Nat} {gs : List Nat} {d : Option Nat} {neg : Bool} {x : Opd} {os : List AOper} : AC P md lw gs (⟨d, .eqi neg x, none⟩ :: os) K ⟨e, n, H⟩ = AR P d (.eqi neg x) (AC P md lw gs os K) ⟨e, n, H⟩ := rfl
theorem Nt {md : Mode} {lw : Nat} {gs : List Nat} {d : Option Nat} {x : Opd} {os : List AOper} : AC P md lw gs (⟨d, .neg x, none⟩ :: os) K ⟨e, n, H⟩ = AR P d (.neg x) (AC P md lw gs os K) ⟨e, n, H⟩ := rfl
theorem KX {md : Mode} {lw : Nat} {gs : List Nat} {d : Option Nat} {x : Opd} {os : List AOper} : AC P md lw gs (⟨d, .not x, none⟩ :: os) K ⟨e, n, H⟩ = AR P d (.not x) (AC P md lw gs os K) ⟨e, n, H⟩ := rfl
theorem NQ {md : Mode} {lw : Nat} {gs : List Nat} {d : Option Nat} {k : IntKind} {x : Opd} {os : List AOper} : AC P md lw gs (⟨d, .cvi k x, none⟩ :: os) K ⟨e, n, H⟩ = AR P d (.cvi k x) (AC P md lw gs os K) ⟨e, n, H⟩ := rfl
theorem MM {md : Mode} {lw : Nat} {gs : List Nat} {d : Option Nat} {f : Nat} {fst cap : List Opd} {os : List AOper} : AC P md lw gs (⟨d, .mkfn f fst cap, none⟩ :: os) K ⟨e, n, H⟩ = AR P d (.mkfn f fst cap) (AC P md lw gs os K) ⟨e, n, H⟩ := rfl
theorem NU {md : Mode} {lw : Nat} {gs : List Nat} {d : Option Nat} {sz : Nat} {x : Opd} {lo hi : Option Opd} {os : List AOper} : AC P md lw gs (⟨d, .cut sz x lo hi, none⟩ :: os) K ⟨e, n, H⟩ = AR P d (.cut sz x lo hi) (AC P md lw gs os K) ⟨e, n, H⟩ := rfl
theorem MS {md : Mode} {lw : Nat} {gs : List Nat} {d : Option Nat} {x : Opd} {lo hi : Option Opd} {os : List AOper} : AC P md lw gs (⟨d, .cutS x lo hi, none⟩ :: os) K ⟨e, n, H⟩ = AR P d (.cutS x lo hi) (AC P md lw gs os K) ⟨e, n, H⟩ := rfl
theorem L4 {md : Mode} {lw : Nat} {gs : List Nat} {d : Option Nat} {x : Opd} {off : Nat} {s : Be} {os : List AOper} : AC P md lw gs (⟨d, .faddr x off s, none⟩ :: os) K ⟨e, n, H⟩ = AR P d (.faddr x off s) (AC P md lw gs os K) ⟨e, n, H⟩ := rfl
theorem Nq {md : Mode} {lw : Nat} {gs : List Nat} {d : Option Nat} {x : Opd} {off : Nat} {s : Be} {os : List AOper} : AC P md lw gs (⟨d, .field x off s, none⟩ :: os) K ⟨e, n, H⟩ = AR P d (.field x off s) (AC P md lw gs os K) ⟨e, n, H⟩ := rfl
theorem MW {md : Mode} {lw : Nat} {gs : List Nat} {d : Option Nat} {sz : Nat} {s : Be} {x i : Opd} {os : List AOper} : AC P md lw gs (⟨d, .iaddr sz s x i, none⟩ :: os) K ⟨e, n, H⟩ = AR P d (.iaddr sz s x i) (AC P md lw gs os K) ⟨e, n, H⟩ := rfl
theorem Lx {md : Mode} {lw : Nat} {gs : List Nat} {d : Option Nat} {len sz : Nat} {s : Be} {x i : Opd} {os : List AOper} : AC P md lw gs (⟨d, .aaddr len sz s x i, none⟩ :: os) K ⟨e, n, H⟩ = AR P d (.aaddr len sz s x i) (AC P md lw gs os K) ⟨e, n, H⟩ := rfl
theorem LE {md : Mode} {lw : Nat} {gs : List Nat} {d : Option Nat} {x i : Opd} {os : List AOper} : AC P md lw gs (⟨d, .sidx x i, none⟩ :: os) K ⟨e, n, H⟩ = AR P d (.sidx x i) (AC P md lw gs os K) ⟨e, n, H⟩ := rfl
theorem Md {md : Mode} {lw : Nat} {gs : List Nat} {d : Option Nat} {len sz : Nat} {s : Be} {x i : Opd} {os : List AOper} : AC P md lw gs (⟨d, .aidx len sz s x i, none⟩ :: os) K ⟨e, n, H⟩ = AR P d (.aidx len sz s x i) (AC P md lw gs os K) ⟨e, n, H⟩ := rfl
theorem LD {md : Mode} {lw : Nat} {gs : List Nat} {d : Option Nat} {x : Opd} {os : List AOper} : AC P md lw gs (⟨d, .len x, none⟩ :: os) K ⟨e, n, H⟩ = AR P d (.len x) (AC P md lw gs os K) ⟨e, n, H⟩ := rfl
theorem Mt {md : Mode} {lw : Nat} {gs : List Nat} {d : Option Nat} {x : Opd} {os : List AOper} : AC P md lw gs (⟨d, .lenS x, none⟩ :: os) K ⟨e, n, H⟩ = AR P d (.lenS x) (AC P md lw gs os K) ⟨e, n, H⟩ := rfl
theorem L3 {md : Mode} {lw : Nat} {gs : List Nat} {d : Option Nat} {j : Nat} {os : List AOper} : AC P md lw gs (⟨d, .clen j, none⟩ :: os) K ⟨e, n, H⟩ = AR P d (.clen j) (AC P md lw gs os K) ⟨e, n, H⟩ := rfl
theorem Ka {md : Mode} {lw : Nat} {gs : List Nat} {d : Option Nat} {x : Opd} {i : Nat} {os : List AOper} : AC P md lw gs (⟨d, .extr x i, none⟩ :: os) K ⟨e, n, H⟩ = AR P d (.extr x i) (AC P md lw gs os K) ⟨e, n, H⟩ := rfl
theorem NO {md : Mode} {lw : Nat} {gs : List Nat} {d : Option Nat} {x : Opd} {os : List AOper} : AC P md lw gs (⟨d, .nilck x, none⟩ :: os) K ⟨e, n, H⟩ = AR P d (.nilck x) (AC P md lw gs os K) ⟨e, n, H⟩ := rfl
theorem Kf {md : Mode} {lw : Nat} {gs : List Nat} {d : Option Nat} {z : List AV} {ps : List (Nat × Be × Opd)} {os : List AOper} : AC P md lw gs (⟨d, .build z ps, none⟩ :: os) K ⟨e, n, H⟩ = AR P d (.build z ps) (AC P md lw gs os K) ⟨e, n, H⟩ := rfl
theorem Eu {md : Mode} {lw : Nat} {gs : List Nat} {d : Option Nat} {mx : Bool} {x y : Opd} {os : List AOper} : AC P md lw gs (⟨d, .mm mx x y, none⟩ :: os) K ⟨e, n, H⟩ = AR P d (.mm mx x y) (AC P md lw gs os K) ⟨e, n, H⟩ := rfl
theorem NG {md : Mode} {lw : Nat} {gs : List Nat} {d : Option Nat} {x : Opd} {os : List AOper} : AC P md lw gs (⟨d, .b2s x, none⟩ :: os) K ⟨e, n, H⟩ = AR P d (.b2s x) (AC P md lw gs os K) ⟨e, n, H⟩ := rfl
theorem Mr {md : Mode} {lw : Nat} {gs : List Nat} {d : Option Nat} {x : Opd} {os : List AOper} : AC P md lw gs (⟨d, .r2s x, none⟩ :: os) K ⟨e, n, H⟩ = AR P d (.r2s x) (AC P md lw gs os K) ⟨e, n, H⟩ := rfl
theorem MD {md : Mode} {lw : Nat} {gs : List Nat} {d : Option Nat} {x : Opd} {os : List AOper} : AC P md lw gs (⟨d, .upc x, none⟩ :: os) K ⟨e, n, H⟩ = AR P d (.upc x) (AC P md lw gs os K) ⟨e, n, H⟩ := rfl
theorem Lv {md : Mode} {lw : Nat} {gs : List Nat} {d : Option Nat} {neg : Bool} {x y : Opd} {os : List AOper} : AC P md lw gs (⟨d, .eqpp neg x y, none⟩ :: os) K ⟨e, n, H⟩ = AR P d (.eqpp neg x y) (AC P md lw gs os K) ⟨e, n, H⟩ := rfl
theorem LR {md : Mode} {lw : Nat} {gs : List Nat} {d : Option Nat} {u : TypeId} {x : Opd} {os : List AOper} : AC P md lw gs (⟨d, .updn u x, none⟩ :: os) K ⟨e, n, H⟩ = AR P d (.updn u x) (AC P md lw gs os K) ⟨e, n, H⟩ := rfl
theorem NS {md : Mode} {lw : Nat} {gs : List Nat} {d : Option Nat} {el : TypeId} {x : Opd} {os : List AOper} : AC P md lw gs (⟨d, .usd el x, none⟩ :: os) K ⟨e, n, H⟩ = AR P d (.usd el x) (AC P md lw gs os K) ⟨e, n, H⟩ := rfl
theorem NL {md : Mode} {lw : Nat} {gs : List Nat} {d : Option Nat} {el : TypeId} {x j : Opd} {os : List AOper} : AC P md lw gs (⟨d, .ust el x j, none⟩ :: os) K ⟨e, n, H⟩ = AR P d (.ust el x j) (AC P md lw gs os K) ⟨e, n, H⟩ := rfl
theorem Mv {md : Mode} {lw : Nat} {gs : List Nat} {d : Option Nat} {el : TypeId} {s : Be} {x : Opd} {os : List AOper} : AC P md lw gs (⟨d, .box el s x, none⟩ :: os) K ⟨e, n, H⟩ = AR P d (.box el s x) (AC P md lw gs os K) ⟨e, n, H⟩ := rfl
theorem KO {md : Mode} {lw : Nat} {gs : List Nat} {d : Option Nat} {el : TypeId} {s : Be} {xs : List Opd} {os : List AOper} : AC P md lw gs (⟨d, .bsl el s xs, none⟩ :: os) K ⟨e, n, H⟩ = (I8 s (xs.map (ev e)) ∧ Uh md lw (Bl s) (xs.map (ev e)) (.row el xs.length) d (AC P md lw gs os K) e n H) := by
 have h : I8 s (xs.map (ev e)) = (∀ x ∈ xs, (ev e x).fits s = true ∧ ones (ev e x).cells) := by simp [I8, Aw]
 rw [h]; rfl
theorem Kb {md : Mode} {lw : Nat} {gs : List Nat} {d : Option Nat} {el sz by_ : Nat} {x y : Opd} {os : List AOper} : AC P md lw gs (⟨d, .app el sz by_ x y, none⟩ :: os) K ⟨e, n, H⟩ = (SG gs (ev e x) ∧ appKS el sz by_ d (KM gs H (AC P md lw gs os K)) ⟨e, n, H⟩ (ev e x) (ev e y)) := rfl
theorem KM.of {gs : List Nat} {H : A2} {s : AS} (h : K s) : KM gs H K s := fun _ => h
theorem KC.of {gs : List Nat} {H : A2} {s : AS} (h : KeepM gs H s.H) (h' : K s) : KC gs H K s := ⟨h, h'⟩
theorem Kw {gs : List Nat} {z : Nat} {l : List AV} {t : Tok} : SG gs (.sl z l t) = True := rfl
theorem LB {gs : List Nat} {z g k : Nat} : SG gs (.slg z g k) = (g ∈ gs) := rfl
theorem KA {md : Mode} {lw : Nat} {gs : List Nat} {d : Option Nat} {el by_ : Nat} {x y : Opd} {os : List AOper} : AC P md lw gs (⟨d, .appB el by_ x y, none⟩ :: os) K ⟨e, n, H⟩ = AR P d (.appB el by_ x y) (AC P md lw gs os K) ⟨e, n, H⟩ := rfl
theorem NI {md : Mode} {lw : Nat} {gs : List Nat} {d : Option Nat} {el : TypeId} {x : Opd} {os : List AOper} : AC P md lw gs (⟨d, .s2b el x, none⟩ :: os) K ⟨e, n, H⟩ = AR P d (.s2b el x) (AC P md lw gs os K) ⟨e, n, H⟩ := rfl
theorem Ma {md : Mode} {lw : Nat} {gs : List Nat} {d : Option Nat} {x : Opd} {os : List AOper} : AC P md lw gs (⟨d, .s2s x, none⟩ :: os) K ⟨e, n, H⟩ = AR P d (.s2s x) (AC P md lw gs os K) ⟨e, n, H⟩ := rfl
theorem KH {md : Mode} {lw : Nat} {gs : List Nat} {d : Option Nat} {kk : Option IntKind} {os : List AOper} : AC P md lw gs (⟨d, .mkmap kk, none⟩ :: os) K ⟨e, n, H⟩ = AR P d (.mkmap kk) (AC P md lw gs os K) ⟨e, n, H⟩ := rfl
theorem Lr {md : Mode} {lw : Nat} {gs : List Nat} {d : Option Nat} {kk : Option IntKind} {m k v : Opd} {os : List AOper} : AC P md lw gs (⟨d, .mset kk m k v, none⟩ :: os) K ⟨e, n, H⟩ = AR P d (.mset kk m k v) (AC P md lw gs os K) ⟨e, n, H⟩ := rfl
theorem KF {md : Mode} {lw : Nat} {gs : List Nat} {d : Option Nat} {kk : Option IntKind} {z : AV} {ok : Bool} {m k : Opd} {os : List AOper} : AC P md lw gs (⟨d, .mget kk z ok m k, none⟩ :: os) K ⟨e, n, H⟩ = KS (EJ (Bg gs H) kk z ok (ev e m) (ev e k)) d (AC P md lw gs os K) e n H := rfl
theorem N1 {md : Mode} {lw : Nat} {gs : List Nat} {d : Option Nat} {f : Nat} {xs : List Opd} {os : List AOper} : AC P md lw gs (⟨d, .call f xs, none⟩ :: os) K ⟨e, n, H⟩ = CallK P f (xs.map (ev e)) d (KC gs H (AC P md lw gs os K)) ⟨e, n, H⟩ := rfl
theorem Mw {md : Mode} {lw : Nat} {gs : List Nat} {d : Option Nat} {f : Nat} {xs : List Opd} {os : List AOper} : AC P md lw gs (⟨d, .callp f xs, none⟩ :: os) K ⟨e, n, H⟩ = AR P d (.callp f xs) (AC P md lw gs os K) ⟨e, n, H⟩ := rfl
theorem LW {md : Mode} {lw : Nat} {gs : List Nat} {d : Option Nat} {f : Opd} {xs : List Opd} {os : List AOper} : AC P md lw gs (⟨d, .callv f xs, none⟩ :: os) K ⟨e, n, H⟩ = AR P d (.callv f xs) (AC P md lw gs os K) ⟨e, n, H⟩ := rfl
theorem NK {lo : Nat} {gs : List Nat} {x : Opd} {v : AV} : Q9 .plain lo gs x v = True := rfl
theorem Mp {lo : Nat} {gs : List Nat} {x : Opd} {v : AV} : Q9 .free lo gs x v = True := rfl
theorem M1 {lo : Nat} {gs : List Nat} {x : Opd} {v : AV} : Q9 .late lo gs x v = UR gs v := rfl
theorem LH {lo : Nat} {gs : List Nat} {q i : Nat} {v : AV} : Q9 (.last q) lo gs (.t i) v = ((i = q → TE lo gs v) ∧ (i ≠ q → UA lo gs v)) := rfl
theorem Kt {lo : Nat} {gs : List Nat} {g o : Nat} : TE lo gs (.ptr g o) = (g < lo ∧ g ∉ gs) := rfl
theorem M2 {lo : Nat} {gs : List Nat} {g o : Nat} : UA lo gs (.ptr g o) = (lo ≤ g ∨ g ∈ gs) := rfl
theorem N2 {gs : List Nat} {g o : Nat} : UR gs (.ptr g o) = (g ∈ gs) := rfl
theorem LG {a : Nat} {gs : List Nat} {H : A2} {k : Nat} : Bg (a :: gs) H k = if k = a then none else Bg gs H k := rfl
theorem NN {H : A2} {k : Nat} : Bg [] H k = H k := rfl
theorem HG {d : Option Nat} {x : Opd} : AR P d (.mv x) K ⟨e, n, H⟩ = KS (some (ev e x)) d K e n H := rfl
theorem LO {d : Option Nat} {c a b : Opd} : AR P d (.pick c a b) K ⟨e, n, H⟩ = KS (match ev e c with | .bool t => some (if t then ev e a else ev e b) | _ => none) d K e n H := rfl
theorem Ek {d : Option Nat} {o : BinOp} {x y : Opd} : AR P d (.bin o x y) K ⟨e, n, H⟩ = KS (FT o (ev e x) (ev e y)) d K e n H := rfl
theorem EW {d : Option Nat} {ks : List FK} {ng : Bool} {x y : Opd} : AR P d (.eqs ks ng x y) K ⟨e, n, H⟩ = KS (Ji ks ng (ev e x) (ev e y)) d K e n H := rfl
theorem FD {d : Option Nat} {ng : Bool} {x y : Opd} : AR P d (.eqb ng x y) K ⟨e, n, H⟩ = KS (Jj ng (ev e x) (ev e y)) d K e n H := rfl
theorem FE {d : Option Nat} {ng : Bool} {x : Opd} : AR P d (.eqn ng x) K ⟨e, n, H⟩ = KS (ID ng (ev e x)) d K e n H := rfl
theorem Ep {d : Option Nat} {ng : Bool} {x : Opd} : AR P d (.eqp ng x) K ⟨e, n, H⟩ = KS ((D9 (ev e x)).map (T8 ng)) d K e n H := rfl
theorem Eb {d : Option Nat} {ng : Bool} {x : Opd} : AR P d (.eqi ng x) K ⟨e, n, H⟩ = KS ((DC (ev e x)).map (T8 ng)) d K e n H := rfl
theorem F1 {d : Option Nat} {x : Opd} : AR P d (.neg x) K ⟨e, n, H⟩ = KS (Jk (ev e x)) d K e n H := rfl
theorem EY {d : Option Nat} {x : Opd} : AR P d (.not x) K ⟨e, n, H⟩ = KS (Jo (ev e x)) d K e n H := rfl
theorem FM {d : Option Nat} {k : IntKind} {x : Opd} : AR P d (.cvi k x) K ⟨e, n, H⟩ = KS (Jd k (ev e x)) d K e n H := rfl
theorem Mz {d : Option Nat} {f : Nat} {a b : List Opd} : AR P d (.mkfn f a b) K ⟨e, n, H⟩ = KS (some (.fn f (a.map (ev e)) (b.map (ev e)))) d K e n H := rfl
theorem Me {d : Option Nat} {x : Opd} {lo hi : Option Opd} : AR P d (.cutS x lo hi) K ⟨e, n, H⟩ = KS (Ff (ev e x) (lo.map (ev e)) (hi.map (ev e))) d K e n H := rfl
theorem Ew {d : Option Nat} {sz : Nat} {x : Opd} {lo hi : Option Opd} : AR P d (.cut sz x lo hi) K ⟨e, n, H⟩ = KS (Jp sz (ev e x) (lo.map (ev e)) (hi.map (ev e))) d K e n H := rfl
theorem KT {d : Option Nat} {x : Opd} {o : Nat} {s : Be} : AR P d (.faddr x o s) K ⟨e, n, H⟩ = KS (I4 (ev e x) o s) d K e n H := rfl
theorem KP {d : Option Nat} {x : Opd} {o : Nat} {s : Be} : AR P d (.field x o s) K ⟨e, n, H⟩ = KS (EL (ev e x) o s) d K e n H := rfl
theorem Nm {d : Option Nat} {sz : Nat} {s : Be} {x i : Opd} : AR P d (.iaddr sz s x i) K ⟨e, n, H⟩ = KS (Dc sz s (ev e x) (ev e i)) d K e n H := rfl
theorem Mn {d : Option Nat} {l sz : Nat} {s : Be} {x i : Opd} : AR P d (.aaddr l sz s x i) K ⟨e, n, H⟩ = KS (I7 l sz s (ev e x) (ev e i)) d K e n H := rfl
theorem NF {d : Option Nat} {x i : Opd} : AR P d (.sidx x i) K ⟨e, n, H⟩ = KS (Gi (ev e x) (ev e i)) d K e n H := rfl
theorem Kz {d : Option Nat} {l sz : Nat} {s : Be} {x i : Opd} : AR P d (.aidx l sz s x i) K ⟨e, n, H⟩ = KS (Ge l sz s (ev e x) (ev e i)) d K e n H := rfl
theorem Em {d : Option Nat} {x : Opd} : AR P d (.len x) K ⟨e, n, H⟩ = KS (Vu (ev e x)) d K e n H := rfl
theorem Mf {d : Option Nat} {x : Opd} : AR P d (.lenS x) K ⟨e, n, H⟩ = KS (Gm (ev e x)) d K e n H := rfl
theorem Ni {d : Option Nat} {m : Nat} : AR P d (.clen m) K ⟨e, n, H⟩ = KS (some (.int .i64 m)) d K e n H := rfl
theorem N8 {d : Option Nat} {x : Opd} {i : Nat} : AR P d (.extr x i) K ⟨e, n, H⟩ = KS (Gc i (ev e x)) d K e n H := rfl
theorem Ns {d : Option Nat} {x : Opd} : AR P d (.nilck x) K ⟨e, n, H⟩ = KS (EK (ev e x)) d K e n H := rfl
theorem KK {d : Option Nat} {s : Be} {x : Opd} : AR P d (.load s x) K ⟨e, n, H⟩ = KS (Bo H s (ev e x)) d K e n H := rfl
theorem Kj {d : Option Nat} {z : List AV} {ps : List (Nat × Be × Opd)} : AR P d (.build z ps) K ⟨e, n, H⟩ = KS (Dd z (ps.map fun (o, s, x) => (o, s, ev e x))) d K e n H := by
 have h : (ps.map fun (o, _, x) => (o, ev e x)) = (ps.map fun (o, s, x) => (o, s, ev e x)).map fun (o, _, x) => (o, x) := by rw [List.map_map]; rfl
 show K1 (if _ then some (.agg (HJ z _)) else none) _ = _
 rw [h]; unfold KS Dd; split <;> rfl
theorem H8 {d : Option Nat} {mx : Bool} {x y : Opd} : AR P d (.mm mx x y) K ⟨e, n, H⟩ = KS (UH mx (ev e x) (ev e y)) d K e n H := rfl
theorem Ef {d : Option Nat} {x : Opd} : AR P d (.b2s x) K ⟨e, n, H⟩ = KS (JV (ev e x)) d K e n H := rfl
theorem F8 {d : Option Nat} {x : Opd} : AR P d (.r2s x) K ⟨e, n, H⟩ = KS (Jg (ev e x)) d K e n H := rfl
theorem Ex {d : Option Nat} {x : Opd} : AR P d (.upc x) K ⟨e, n, H⟩ = KS (FZ H (ev e x)) d K e n H := rfl
theorem Ev {d : Option Nat} {el : TypeId} {x : Opd} : AR P d (.usd el x) K ⟨e, n, H⟩ = KS (FV H el (ev e x)) d K e n H := rfl
theorem M5 {d : Option Nat} {ng : Bool} {x y : Opd} : AR P d (.eqpp ng x y) K ⟨e, n, H⟩ = KS (GZ ng (ev e x) (ev e y)) d K e n H := rfl
theorem LU {d : Option Nat} {u : TypeId} {x : Opd} : AR P d (.updn u x) K ⟨e, n, H⟩ = KS (D6 P H u (ev e x)) d K e n H := rfl
theorem En {d : Option Nat} {t : TypeId} {x m : Opd} : AR P d (.ust t x m) K ⟨e, n, H⟩ = KS (EV t (ev e x) (ev e m)) d K e n H := rfl
theorem Ms {d : Option Nat} {t : TypeId} {z : List AV} : AR P d (.alloc t z) K ⟨e, n, H⟩ = (ones z ∧ ZJ (.cells t z) d K e n H) := rfl
theorem FI {d : Option Nat} {t : TypeId} {sh : Be} {x : Opd} : AR P d (.box t sh x) K ⟨e, n, H⟩ = ((Aw sh (ev e x) ∧ ZJ (.cells t (ev e x).cells) d K e n H)) := propext and_assoc.symm
theorem M3 {d : Option Nat} {sh : Be} {x v : Opd} : AR P d (.store sh x v) K ⟨e, n, H⟩ = DB sh d K ⟨e, n, H⟩ (ev e v) (ev e x) := rfl
def newB (el sz : Nat) (l : List AV) (d : Option Nat) (K : AS → Prop) (e : AW) (n : Nat) (H : A2) : Prop := Wv sz l (.row el l.length) d K e n H ∨ ∀ g, n ≤ g → K ⟨AO e d (.slm sz g 0 l.length), g + 1, upd H g (some (.cells el (AX l)))⟩
theorem AE {el sz : Nat} {l : List AV} {d : Option Nat} (h : Wv sz l (.row el l.length) d K e n H) : newB el sz l d K e n H := .inl h
theorem F2 {d : Option Nat} {t : TypeId} {sh : Be} {xs : List Opd} : AR P d (.bsl t sh xs) K ⟨e, n, H⟩ = (I8 sh (xs.map (ev e)) ∧ newB t (Bl sh) (xs.map (ev e)) d K e n H) := by
 have h : I8 sh (xs.map (ev e)) = (∀ x ∈ xs, (ev e x).fits sh = true ∧ ones (ev e x).cells) := by simp [I8, Aw]
 rw [h]
 unfold newB Wv
 rw [List.length_map]; rfl
theorem Ey {d : Option Nat} {t sz b : Nat} {x y : Opd} : AR P d (.app t sz b x y) K ⟨e, n, H⟩ = appKS t sz b d K ⟨e, n, H⟩ (ev e x) (ev e y) := rfl
theorem MU {d : Option Nat} {t b : Nat} {x y : Opd} : AR P d (.appB t b x y) K ⟨e, n, H⟩ = S7 t b d K ⟨e, n, H⟩ (ev e x) (ev e y) := rfl
theorem Er {d : Option Nat} {t : TypeId} {x : Opd} : AR P d (.s2b t x) K ⟨e, n, H⟩ = K4 d K e n H (ev e x) := rfl
theorem FJ {d : Option Nat} {x : Opd} : AR P d (.s2s x) K ⟨e, n, H⟩ = K2 d K e n H (ev e x) := rfl
theorem NP {d : Option Nat} {kk : Option IntKind} : AR P d (.mkmap kk) K ⟨e, n, H⟩ = A4d kk d K e n H := rfl
theorem MP {d : Option Nat} {kk : Option IntKind} {m k v : Opd} : AR P d (.mset kk m k v) K ⟨e, n, H⟩ = EI kk d K ⟨e, n, H⟩ (ev e k) (ev e v) (ev e m) := rfl
def A4y (m : Nat) (o : Option AObj) (d : Option Nat) (K : AS → Prop) (e : AW) (n : Nat) (H : A2) : Prop := match o with
 | some (.map _ es) => ∀ g, n ≤ g → K ⟨AO e d (.ptr g 0), g + 1, upd H g (some (.iter m es.length (List.range es.length) none))⟩
 | _ => False
def A19 (g m len : Nat) (left : List Nat) (o : Option AObj) (d : Option Nat) (K : AS → Prop) (e : AW) (n : Nat) (H : A2) : Prop := match o with
 | some (.map _ es) => es.length = len ∧ (left = [] → K ⟨AO e d (.tup [.bool false]), n, H⟩) ∧ ∀ j ∈ left, ∀ k v, es[j]? = some (k, v) → K ⟨AO e d (.tup [.bool true, k, v]), n, upd H g (some (.iter m len (left.erase j) (some j)))⟩
 | _ => False
def A4b (g : Nat) (o : Option AObj) (d : Option Nat) (K : AS → Prop) (e : AW) (n : Nat) (H : A2) : Prop := match o with
 | some (.iter m len left _) => A19 g m len left (H m) d K e n H
 | _ => False
theorem Mc {g m len : Nat} {left : List Nat} {cur d : Option Nat} : A4b g (some (.iter m len left cur)) d K e n H = A19 g m len left (H m) d K e n H := rfl
theorem Nb {m : Nat} {d : Option Nat} : U2 d K ⟨e, n, H⟩ (.mp m) = A4y m (H m) d K e n H := rfl
theorem Lj {g : Nat} {d : Option Nat} : TY d K ⟨e, n, H⟩ (.ptr g 0) = A4b g (H g) d K e n H := propext ⟨fun h => h.2, fun h => ⟨rfl, h⟩⟩
theorem CR {m : Nat} {kk : Option IntKind} {es : List (AV × AV)} {d : Option Nat} (h : ∀ g, n ≤ g → K ⟨AO e d (.ptr g 0), g + 1, upd H g (some (.iter m es.length (List.range es.length) none))⟩) : A4y m (some (.map kk es)) d K e n H := h
theorem Zq {g m len : Nat} {left : List Nat} {kk : Option IntKind} {es : List (AV × AV)} {d : Option Nat} (hl : es.length = len) (h0 : left = [] → K ⟨AO e d (.tup [.bool false]), n, H⟩)
  (h1 : ∀ j ∈ left, ∀ k v, es[j]? = some (k, v) → K ⟨AO e d (.tup [.bool true, k, v]), n, upd H g (some (.iter m len (left.erase j) (some j)))⟩) : A19 g m len left (some (.map kk es)) d K e n H := ⟨hl, h0, h1⟩
def A5l (el : TypeId) (z : AV) (m : Nat) (d : Option Nat) (K : AS → Prop) (e : AW) (n : Nat) (H : A2) : Prop := ∀ g, n ≤ g → K ⟨AO e d (.slm 1 g 0 m), g + 1, upd H g (some (.cells el (List.replicate m z)))⟩
theorem KL {el : TypeId} {b : Nat} {z : AV} {d : Option Nat} {k k' : IntKind} {p q : Int} : Oo el b z d K ⟨e, n, H⟩ (.int k p) (.int k' q) = (p = q ∧ 0 ≤ p ∧ (b : Int) * p ≤ 281474976710656 ∧ p ≤ maxLen ∧ A5l el z p.toNat d K e n H) := rfl
theorem MV {d : Option Nat} {el : TypeId} {b : Nat} {z : AV} {x y : Opd} : AR P d (.mksl el b z x y) K ⟨e, n, H⟩ = Oo el b z d K ⟨e, n, H⟩ (ev e x) (ev e y) := rfl
theorem El {d : Option Nat} {x : Opd} : AR P d (.rng x) K ⟨e, n, H⟩ = U2 d K ⟨e, n, H⟩ (ev e x) := rfl
theorem EX {d : Option Nat} {x : Opd} : AR P d (.nxt x) K ⟨e, n, H⟩ = TY d K ⟨e, n, H⟩ (ev e x) := rfl
theorem FC {d : Option Nat} {x : Opd} : AR P d (.ent x) K ⟨e, n, H⟩ = KS (IJ H (ev e x)) d K e n H := rfl
theorem Lw {d : Option Nat} {kk : Option IntKind} {z : AV} {ok : Bool} {m k : Opd} : AR P d (.mget kk z ok m k) K ⟨e, n, H⟩ = KS (EJ H kk z ok (ev e m) (ev e k)) d K e n H := rfl
theorem LP {d : Option Nat} {f : Nat} {xs : List Opd} : AR P d (.call f xs) K ⟨e, n, H⟩ = CallK P f (xs.map (ev e)) d K ⟨e, n, H⟩ := rfl
theorem L1 {d : Option Nat} {f : Nat} {xs : List Opd} : AR P d (.callp f xs) K ⟨e, n, H⟩ = CallP P f (xs.map (ev e)) d K ⟨e, n, H⟩ := rfl
theorem LT {d : Option Nat} {x : Opd} {xs : List Opd} : AR P d (.callv x xs) K ⟨e, n, H⟩ = AI P d K e n H (xs.map (ev e)) (ev e x) := rfl
theorem YL {el sz by_ z z' : Nat} {d : Option Nat} {m m' : List AV} {t : Tok} (hz : z' = sz ∨ m = []) (hs : AT m m') (hm : m ≠ []) (hb : m.length * by_ ≤ 140737488355328) (hx : m.length ≤ maxLen) (h : ∀ g, n ≤ g → K ⟨AO e d (.sl sz m' (.own g)), g + 1, upd H g (some (.row el m'.length))⟩) : appKS el sz by_ d K ⟨e, n, H⟩ (.sl z [] .nil) (.sl z' m t) := by
 have hl := DE hs
 exact ⟨hz, m', hs, by simpa [hl] using hb, by simpa [hl] using hx, fun h' => absurd h' (fun e => hm (List.length_eq_zero_iff.1 (by rw [hl, e]; rfl))), fun _ => .inl h⟩
theorem DS {el sz by_ z z' : Nat} {d : Option Nat} {m m' : List AV} {t : Tok} (hz : z' = sz ∨ m = []) (hs : AT m m') (hm : m ≠ []) (hb : m.length * by_ ≤ 140737488355328) (hx : m.length ≤ maxLen) (h : ∀ g, n ≤ g → K ⟨AO e d (.slg sz g m'.length), g + 1, upd H g (some (.grow el (AX m')))⟩) : appKS el sz by_ d K ⟨e, n, H⟩ (.sl z [] .nil) (.sl z' m t) := by
 have hl := DE hs
 exact ⟨hz, m', hs, by simpa [hl] using hb, by simpa [hl] using hx, fun h' => absurd h' (fun e => hm (List.length_eq_zero_iff.1 (by rw [hl, e]; rfl))), fun _ => .inr h⟩
theorem Io {el sz by_ g0 k z' : Nat} {d : Option Nat} {m m' cs : List AV} {t : Tok} (hz : z' = sz ∨ m = []) (hs : AT m m') (hr : H g0 = some (.grow el cs)) (hc : cs.length = k * sz) (hb : (k + m.length) * by_ ≤ 140737488355328) (hx : k + m.length ≤ maxLen) (h : ∀ g n', (g = g0 ∨ n ≤ g) → n ≤ n' → g < n' → K ⟨AO e d (.slg sz g (k + m'.length)), n', upd (upd H g0 none) g (some (.grow el (cs ++ AX m')))⟩) : appKS el sz by_ d K ⟨e, n, H⟩ (.slg sz g0 k) (.sl z' m t) := by
 have hl := DE hs
 refine ⟨hz, m', hs, rfl, by rw [← hl]; exact hb, by rw [← hl]; exact hx, ?_⟩
 show QA el sz by_ d K ⟨e, n, H⟩ g0 k m' (H g0)
 rw [hr]
 exact ⟨rfl, hc, h⟩
theorem YU {el sz by_ g0 z' : Nat} {d : Option Nat} {l m m' : List AV} {t : Tok} (hz : z' = sz ∨ m = []) (hs : AT m m') (hr : H g0 = some (.row el l.length)) (hb : (l.length + m.length) * by_ ≤ 140737488355328) (hx : l.length + m.length ≤ maxLen) (h : ∀ g n', (g = g0 ∨ n ≤ g) → n ≤ n' → g < n' → K ⟨AO e d (.sl sz (l ++ m') (.own g)), n', upd (upd H g0 none) g (some (.row el (l.length + m'.length)))⟩) : appKS el sz by_ d K ⟨e, n, H⟩ (.sl sz l (.own g0)) (.sl z' m t) := by
 have hl := DE hs
 exact ⟨hz, m', hs, by rw [← hl]; exact hb, by rw [← hl]; exact hx, rfl, hr, h⟩
theorem Lu {X : AS → Prop} {s : AS} : EF X Q .normal s = X s := rfl
theorem Ko {X : AS → Prop} {s : AS} {i : Nat} : EF X Q (.exit i) s = Q (.exit i) s := rfl
theorem Lo {X : AS → Prop} {s : AS} : EF X Q .ret s = Q .ret s := rfl
theorem MZ {id : Nat} {s : AS} : Dk id Q .normal s = Q .normal s := rfl
theorem Nk {id i : Nat} {s : AS} : Dk id Q (.exit i) s = if i = id then Q .normal s else Q (.exit i) s := rfl
theorem KI {id : Nat} {s : AS} : Dk id Q .ret s = Q .ret s := rfl
end
/-! ### simp looks at what is known, not into what follows -/
section
variable {P : Program} {K : AS → Prop} {Q : AExit → AS → Prop} {d : Option Nat} {n : Nat}
end
abbrev zM (d s : Nat) : AOper := ⟨some d, .mv (.t s), none⟩
abbrev zL (d s : Nat) : AOper := ⟨some d, .load none (.t s), none⟩
abbrev zF (d s k : Nat) : AOper := ⟨some d, .faddr (.t s) k none, none⟩
abbrev zG (d k s : Nat) : AOper := ⟨some d, .load (some k) (.t s), none⟩
abbrev zX (d s k : Nat) : AOper := ⟨some d, .extr (.t s) k, none⟩
abbrev zI (d : Nat) (k : Int) : AOper := ⟨some d, .mv (.c (.int .i64 k)), none⟩
abbrev zB (d : Nat) (b : Bool) : AOper := ⟨some d, .mv (.c (.bool b)), none⟩
abbrev zS (k a b : Nat) : AOper := ⟨none, .store (some k) (.t a) (.t b), none⟩
abbrev zU (a b : Nat) : AOper := ⟨none, .store none (.t a) (.t b), none⟩
abbrev zP (d a b : Nat) : AOper := ⟨some d, .pick (.t a) (.t b) (.c (.bool false)), none⟩
abbrev zO (d a b : Nat) : AOper := ⟨some d, .pick (.t a) (.c (.bool true)) (.t b), none⟩
abbrev zV (d f a : Nat) : AOper := ⟨some d, .callp f [.t a], none⟩
abbrev zW (d f a b : Nat) : AOper := ⟨some d, .callp f [.t a, .t b], none⟩
abbrev zN (d s : Nat) : AOper := ⟨some d, .not (.t s), none⟩
abbrev zY (d s : Nat) : AOper := ⟨some d, .len (.t s), none⟩
abbrev zZ (d s : Nat) : AOper := ⟨some d, .nilck (.t s), none⟩
abbrev zH (d e k s : Nat) : AOper := ⟨some d, .box e (some k) (.t s), none⟩
abbrev zJ (d k a b : Nat) : AOper := ⟨some d, .iaddr k none (.t a) (.t b), none⟩
abbrev zD (d : Nat) (o : BinOp) (a b : Nat) : AOper := ⟨some d, .bin o (.t a) (.t b), none⟩
abbrev zE (d : Nat) (o : BinOp) (a : Nat) (k : Int) : AOper := ⟨some d, .bin o (.t a) (.c (.int .i64 k)), none⟩
end Go.Proofs.YtjdccdelcnmocaaGreatDoor
