/- What is asked at a function's end, and how a function's contract comes of its code; no condition. -/
import Derived.Test.YtjdccdelcnmocaaGreatDoorMgC
set_option linter.all false
set_option linter.unusedSimpArgs false
set_option linter.unusedVariables false
namespace Go.Proofs.YtjdccdelcnmocaaGreatDoor
def F3 (s : AS) : ARes → Option AV
 | .tmp t => some (get s.e t)
 | .cell t sh => BZ s.H sh (get s.e t)
def C5 (s : AS) : List ARes → Option (List AV)
 | [] => some []
 | r :: rs => match F3 s r, C5 s rs with | some x, some xs => some (x :: xs) | _, _ => none
def Br (s : AS) (rs : List ARes) : Option AV :=
 match C5 s rs with
 | some [x] => some x
 | some xs => some (.tup xs)
 | none => none
def SameB (n : Nat) (H H' : A4) : Prop := ∀ k, k < n → H' k = H k
def D1 (v : AV) (n : Nat) (H : A4) (res : List ARes) : AExit → AS → Prop
 | .normal, s | .ret, s => (∃ x, Br s res = some x ∧ A8 x v) ∧ n ≤ s.n ∧ SameB n H s.H
 | _, _ => False
def fin (R : Bi) (n : Nat) (res : List ARes) : AExit → AS → Prop
 | .normal, s | .ret, s => ∃ r n' H', (∃ x, Br s res = some x ∧ A8 x r) ∧ n ≤ n' ∧ n' ≤ s.n ∧ (∀ k, n' ≤ k → H' k = none) ∧ SameB n' H' s.H ∧ R r n' H'
 | _, _ => False
theorem SameB.rfl_ (n : Nat) (H : A4) : SameB n H H := fun _ _ => rfl
theorem BI {R : Bi} {n m : Nat} {res : List ARes} {e : AT} {H : A4} {r : AV} (h1 : Br ⟨e, m, H⟩ res = some r) (h2 : n ≤ m) (h3 : ∀ k, m ≤ k → H k = none) (h4 : R r m H) : fin R n res .ret ⟨e, m, H⟩ :=
 ⟨r, m, H, ⟨r, h1, A1 _⟩, h2, Nat.le_refl _, h3, SameB.rfl_ _ _, h4⟩
theorem SameB.upd {n : Nat} {H H' : A4} (h : SameB n H H') {g : Nat} (hg : n ≤ g) (x : Option AObj) : SameB n H (upd H' g x) := fun k hk => by
 unfold Go.Proofs.YtjdccdelcnmocaaGreatDoor.upd; rw [if_neg (by omega)]; exact h k hk
theorem AX (H : A4) (g : Nat) (x : Option AObj) : upd H g x g = x := by simp [upd]
theorem upd_ne {H : A4} {g k : Nat} {x : Option AObj} (h : k ≠ g) : upd H g x k = H k := by simp [upd, h]
theorem M5 (H : A4) (g : Nat) (x y : Option AObj) : upd (upd H g x) g y = upd H g y := by funext k; simp only [upd]; split <;> rfl
def RL (ng t : Bool) : AV := .bool (if ng then !t else t)
def IR (ks : List FK) (ng : Bool) : AV → AV → Option AV
 | .agg a, .agg b => (CH ks a b).map (RL ng)
 | _, _ => none
def IV (ng : Bool) : AV → AV → Option AV
 | .bool a, .bool b => some (.bool (if ng then !(a == b) else a == b))
 | _, _ => none
def IN : AV → Option AV | .int k n => some (.int k (k.wrap (0 - n))) | _ => none
def IS : AV → Option AV | .bool b => some (.bool (!b)) | _ => none
def IL (k : IntKind) : AV → Option AV | .int _ n => some (.int k (k.wrap n)) | _ => none
def Cx (x : AV) (o : Nat) (s : Ba) : Option AV := match x with | .agg cs => part cs o s | _ => none
def FB : AV → AV → Option AV
 | .str s, .int _ j => if 0 ≤ j then (s[j.toNat]?).map fun b => .int .u8 b.toNat else none
 | _, _ => none
def FA (len sz : Nat) (s : Ba) : AV → AV → Option AV
 | .agg cs, .int _ j => if 0 ≤ j ∧ j < len then part cs (j.toNat * sz) s else none
 | _, _ => none
def VA : AV → Option AV | .sl _ l _ => some (.int .i64 l.length) | .slm _ _ _ n => some (.int .i64 n) | .slg _ _ n => some (.int .i64 n) | _ => none
def FC : AV → Option AV | .str s => some (.int .i64 s.length) | _ => none
def F8 (i : Nat) : AV → Option AV | .tup vs => vs[i]? | _ => none
def Cv : AV → Option AV | .ptr g o => some (.ptr g o) | .ref x => some (.ref x) | .fn f a b => if a.isEmpty then some (.fn f a b) else none | _ => none
def CY (z : List AV) (ps : List (Nat × Ba × AV)) : Option AV := if GB z.length ps then some (.agg (Fy z (ps.map fun (o, _, x) => (o, x)))) else none
def Sc (mx : Bool) : AV → AV → Option AV
 | .int k a, .int k' b => if k = k' then some (.int k (if mx then max a b else min a b)) else none
 | _, _ => none
def IH : AV → Option AV | .sl _ l _ => (bytesOf l).map .str | _ => none
def II : AV → Option AV | .int _ n => some (.str (Utf8.encode n).data.toList) | _ => none
def F9 (ng : Bool) : AV → AV → Option AV
 | .ptr g o, .ptr g' o' => if g = g' then some (.bool (if ng then !(decide (o = o')) else decide (o = o'))) else none
 | _, _ => none
def IK (d : Option Nat) (K : AS → Prop) (e : AT) (n : Nat) (H : A4) : AV → Prop
 | .str b => b.length ≤ maxLen ∧ ∀ n', n ≤ n' → K ⟨AP e d (.sl 1 (b.map fun u => .int .u8 u.toNat) .ro), n', H⟩
 | _ => False
def IT (d : Option Nat) (K : AS → Prop) (e : AT) (n : Nat) (H : A4) : AV → Prop
 | .sl sz l (.own g) => l ≠ [] ∧ K ⟨AP e d (.sl sz l .ro), n, upd H g none⟩
 | _ => False
def A2x (kk : Option IntKind) (d : Option Nat) (K : AS → Prop) (e : AT) (n : Nat) (H : A4) : Prop := ∀ g, n ≤ g → K ⟨AP e d (.mp g), g + 1, upd H g (some (.map kk []))⟩
def Ar (P : Program) (d : Option Nat) (K : AS → Prop) (e : AT) (n : Nat) (H : A4) (xs : List AV) : AV → Prop
 | .fn f a b => CW P f = true ∧ CallK P f (a ++ xs ++ b) d K ⟨e, n, H⟩
 | _ => False
def Az (sh : Ba) (x : AV) : Prop := x.fits sh = true ∧ ones x.cells
def HV (sh : Ba) (l : List AV) : Prop := ∀ x ∈ l, Az sh x
theorem KZ {sh : Ba} : HV sh [] = True := by simp [HV]
theorem Iz {sh : Ba} {x : AV} {l : List AV} : HV sh (x :: l) = (Az sh x ∧ HV sh l) := by simp [HV]
theorem J3 {s : List UInt8} : Az none (.str s) = True := by simp [Az, AV.fits, ones, AV.cells, AV.one]
theorem KI {k : IntKind} {i : Int} : Az none (.int k i) = True := by simp [Az, AV.fits, ones, AV.cells, AV.one]
theorem Iq {b : Bool} : Az none (.bool b) = True := by simp [Az, AV.fits, ones, AV.cells, AV.one]
theorem IF {z : Nat} {l : List AV} {t : Tok} : Az none (.sl z l t) = True := by simp [Az, AV.fits, ones, AV.cells, AV.one]
theorem Ij {g o : Nat} : Az none (.ptr g o) = True := by simp [Az, AV.fits, ones, AV.cells, AV.one]
theorem JE : Az none .np = True := by simp [Az, AV.fits, ones, AV.cells, AV.one]
theorem Jo {x : AV} : Az none (.ref x) = True := by simp [Az, AV.fits, ones, AV.cells, AV.one]
theorem LU {f : Nat} {a b : List AV} : Az none (.fn f a b) = True := by simp [Az, AV.fits, ones, AV.cells, AV.one]
theorem Jq : Az none .nfn = True := by simp [Az, AV.fits, ones, AV.cells, AV.one]
theorem Jv {t : Nat} {v : AV} : Az none (.ifc t v) = True := by simp [Az, AV.fits, ones, AV.cells, AV.one]
theorem K7 : Az none .nif = True := by simp [Az, AV.fits, ones, AV.cells, AV.one]
theorem Jz {s : Nat} {cs : List AV} : Az (some s) (.agg cs) = (cs.length = s ∧ ones cs) := by simp [Az, AV.fits, AV.cells]
def A0y (sh : Ba) (d : Option Nat) (K : AS → Prop) (e : AT) (n : Nat) (H : A4) (v : AV) (g o : Nat) : Option AObj → Prop
 | some (.cells t cs) => Az sh v ∧ o + v.cells.length ≤ cs.length ∧ K ⟨AP e d .any, n, upd H g (some (.cells t (splice cs o v.cells)))⟩
 | some (.grow t cs) => Az sh v ∧ o + v.cells.length ≤ cs.length ∧ K ⟨AP e d .any, n, upd H g (some (.grow t (splice cs o v.cells)))⟩
 | _ => False
theorem Kx {sh : Ba} {d : Option Nat} {K : AS → Prop} {e : AT} {n : Nat} {H : A4} {v : AV} {g o : Nat} : CS sh d K ⟨e, n, H⟩ v (.ptr g o) = A0y sh d K e n H v g o (H g) := by
 show (match H g with | some (.cells e' cs) => _ | some (.grow e' cs) => _ | _ => False) = _
 cases H g with
 | none => rfl
 | some ob => cases ob with
  | cells t cs => exact propext and_assoc.symm
  | grow t cs => exact propext and_assoc.symm
  | _ => rfl
theorem JP {sh : Ba} {d : Option Nat} {K : AS → Prop} {e : AT} {n : Nat} {H : A4} {v : AV} {g o : Nat} {t : TypeId} {cs : List AV} : A0y sh d K e n H v g o (some (.cells t cs)) = (Az sh v ∧ o + v.cells.length ≤ cs.length ∧ K ⟨AP e d .any, n, upd H g (some (.cells t (splice cs o v.cells)))⟩) := rfl
theorem JK {sh : Ba} {d : Option Nat} {K : AS → Prop} {e : AT} {n : Nat} {H : A4} {v : AV} {g o : Nat} {t : TypeId} {cs : List AV} : A0y sh d K e n H v g o (some (.grow t cs)) = (Az sh v ∧ o + v.cells.length ≤ cs.length ∧ K ⟨AP e d .any, n, upd H g (some (.grow t (splice cs o v.cells)))⟩) := rfl
theorem KD {z g m : Nat} : VA (.slg z g m) = some (.int .i64 m) := rfl
theorem Ke {sz z g m : Nat} {s : Ba} {k : IntKind} {j : Int} : D6 sz s (.slg z g m) (.int k j) = if z = sz ∧ 0 ≤ j ∧ j < m then some (.ptr g (j.toNat * sz)) else none := rfl
theorem It {z g o m : Nat} : VA (.slm z g o m) = some (.int .i64 m) := rfl
theorem Kh {sz z g o m : Nat} {s : Ba} {k : IntKind} {j : Int} : D6 sz s (.slm z g o m) (.int k j) = if z = sz ∧ 0 ≤ j ∧ j < m then some (.ptr g (o + j.toNat * sz)) else none := rfl
theorem LT : Aa [] = [] := rfl
theorem JH {x : AV} {l : List AV} : Aa (x :: l) = x.cells ++ Aa l := rfl
theorem KV {z : Nat} {l : List AV} {t : Tok} : VA (.sl z l t) = some (.int .i64 l.length) := rfl
theorem Jy {sz z : Nat} {s : Ba} {l : List AV} {t : Tok} {k : IntKind} {j : Int} : D6 sz s (.sl z l t) (.int k j) = if z = sz ∧ 0 ≤ j then (match l[j.toNat]? with | some y => if y.fits s then some (.ref y) else none | none => none) else none := rfl
theorem Ll {sz z : Nat} {l : List AV} {t : Tok} {lo hi : Option AV} : M4 sz (.sl z l t) lo hi = if z = sz ∨ l = [] then (FV lo hi l.length).map fun (a, b) => .sl sz ((l.take b).drop a) .ro else none := rfl
def WP (ob : AObj) (d : Option Nat) (K : AS → Prop) (e : AT) (n : Nat) (H : A4) : Prop := ∀ g, n ≤ g → K ⟨AP e d (.ptr g 0), g + 1, upd H g (some ob)⟩
def VE (sz : Nat) (l : List AV) (ob : AObj) (d : Option Nat) (K : AS → Prop) (e : AT) (n : Nat) (H : A4) : Prop := ∀ g, n ≤ g → K ⟨AP e d (.sl sz l (.own g)), g + 1, upd H g (some ob)⟩
def KS (o : Option AV) (d : Option Nat) (K : AS → Prop) (e : AT) (n : Nat) (H : A4) : Prop :=
 match o with
 | some v => K ⟨AP e d v, n, H⟩
 | none => False
theorem L5 {v : AV} {d : Option Nat} {K : AS → Prop} {e : AT} {n : Nat} {H : A4} : KS (some v) d K e n H = K ⟨AP e d v, n, H⟩ := rfl
theorem J4 {d : Option Nat} {K : AS → Prop} {e : AT} {n : Nat} {H : A4} : KS none d K e n H = False := rfl
section
variable {P : Program} {e : AT} {n : Nat} {H : A4} {Q : AExit → AS → Prop} {K : AS → Prop}
theorem Kz : aw P .skip Q ⟨e, n, H⟩ = Q .normal ⟨e, n, H⟩ := rfl
theorem De {ops : List AOper} : aw P (.reg ops) Q ⟨e, n, H⟩ = awOps P ops (Q .normal) ⟨e, n, H⟩ := rfl
theorem DC {a b : ACode} : aw P (.seq a b) Q ⟨e, n, H⟩ = aw P a (Bz (aw P b Q) Q) ⟨e, n, H⟩ := rfl
theorem Kv {c : Opd} {a b : ACode} : aw P (.cond c a b) Q ⟨e, n, H⟩ = EF (aw P a Q ⟨e, n, H⟩) (aw P b Q ⟨e, n, H⟩) (ev e c) := rfl
theorem Lp {id : Nat} {c : ACode} : aw P (.block id c) Q ⟨e, n, H⟩ = aw P c (Cy id Q) ⟨e, n, H⟩ := rfl
theorem Je {c : ACode} : aw P (.loop c) Q ⟨e, n, H⟩ = LoopK (fun Q s => aw P c Q s) Q ⟨e, n, H⟩ := rfl
theorem Jw {id : Nat} : aw P (.exit id) Q ⟨e, n, H⟩ = Q (.exit id) ⟨e, n, H⟩ := rfl
theorem Dj : aw P .ret Q ⟨e, n, H⟩ = Q .ret ⟨e, n, H⟩ := rfl
theorem DK : aw P .bad Q ⟨e, n, H⟩ = False := rfl
theorem Fe {ks : List Nat} {c : ACode} : aw P (.kp ks c) Q ⟨e, n, H⟩ = aw P c Q ⟨Cr e ks, n, H⟩ := rfl
theorem Fi {ks : List Nat} {c : ACode} : aw P (.ke ks c) Q ⟨e, n, H⟩ = aw P c (Oj ks Q) ⟨e, n, H⟩ := rfl
theorem KJ {ks : List Nat} : Oj ks Q .normal ⟨e, n, H⟩ = Q .normal ⟨Cr e ks, n, H⟩ := rfl
theorem JN {ks : List Nat} {i : Nat} {s : AS} : Oj ks Q (.exit i) s = Q (.exit i) s := rfl
theorem LL {ks : List Nat} {s : AS} : Oj ks Q .ret s = Q .ret s := rfl
theorem KL {l : List Seg} : aw P (.segs l) Q ⟨e, n, H⟩ = C0 P l (Q .normal) ⟨e, n, H⟩ := rfl
theorem Ig : C0 P [] K ⟨e, n, H⟩ = K ⟨e, n, H⟩ := rfl
def Zb (o : Option AV) (d : Nat) (ops : List AOper) (K : AS → Prop) (e : AT) (n : Nat) (H : A4) : Prop :=
 match o with
 | some v => K ⟨put (Ez e ops) d v, n, H⟩
 | none => False
theorem Kn {v : AV} {d : Nat} {ops : List AOper} {K : AS → Prop} {e : AT} {n : Nat} {H : A4} : Zb (some v) d ops K e n H = K ⟨put (Ez e ops) d v, n, H⟩ := rfl
theorem K6 {d : Nat} {ops : List AOper} {K : AS → Prop} {e : AT} {n : Nat} {H : A4} : Zb none d ops K e n H = False := rfl
theorem L9 {t d x : Nat} {want : Bool} {ops : List AOper} {l : List Seg} : C0 P (⟨some (t, want), ops, some (d, x)⟩ :: l) K ⟨e, n, H⟩ = Zb (RM want x (get e t) (Co ops e H)) d ops (C0 P l K) e n H := rfl
def evS (o : Option AV) (d : Option Nat) (os : List AOper) (e : AT) (H : A4) : Option AT :=
 match o with
 | some v => Co os (AP e d v) H
 | none => none
theorem K3 {v : AV} {d : Option Nat} {os : List AOper} {H : A4} : evS (some v) d os e H = Co os (AP e d v) H := rfl
theorem Ji {d : Option Nat} {os : List AOper} {H : A4} : evS none d os e H = none := rfl
theorem Kk {H : A4} : Co [] e H = some e := rfl
theorem LJ {d : Option Nat} {op : AOp} {g : Option (Nat × Bool)} {os : List AOper} {H : A4} : Co (⟨d, op, g⟩ :: os) e H = evS (pe op e H) d os e H := rfl
theorem JX {ops : List AOper} {l : List Seg} {p : Option (Nat × Nat)} : C0 P (⟨none, ops, p⟩ :: l) K ⟨e, n, H⟩ = awOps P ops (C0 P l K) ⟨e, n, H⟩ := rfl
theorem Oo {v : AV} (hv : v ≠ .any) : ∀ {e : AT} {t : Nat}, get e t = v → GQ e t v = e
 | [], t, h => absurd h.symm hv
 | (k, u) :: r, t, h => by
  simp only [get] at h
  simp only [GQ]
  split
  ·rename_i hk; rw [if_pos hk] at h; rw [h, hk]
  ·rename_i hk; rw [if_neg hk] at h; rw [Oo hv h]
def CR (want : Bool) (A B C : Prop) : AV → Prop
 | .bool b => (b = want → A) ∧ (b ≠ want → B)
 | .und => C
 | _ => False
theorem Ix {t : Nat} {want : Bool} {ops : List AOper} {l : List Seg} : C0 P (⟨some (t, want), ops, none⟩ :: l) K ⟨e, n, H⟩ = CR want (awOps P ops (C0 P l K) ⟨GQ e t (.bool want), n, H⟩) (C0 P l K ⟨F6 (GQ e t (.bool (!want))) ops, n, H⟩) (C0 P l K ⟨F6 e ops, n, H⟩) (get e t) := by
 show guardK want _ (C0 P l K ⟨F6 e ops, n, H⟩) _ = _
 generalize hg : get e t = v
 cases v <;> try rfl
 rename_i b
 simp only [guardK, CR, eq_iff_iff]
 by_cases hb : b = want
 ·subst hb
  rw [Oo (by simp) hg]
  simp
 ·have hb' : b = !want := by cases b <;> cases want <;> simp_all
  subst hb'
  rw [Oo (by simp) hg]
  simp
theorem KK : awOps P [] K ⟨e, n, H⟩ = K ⟨e, n, H⟩ := rfl
theorem Io {d : Option Nat} {op : AOp} {os : List AOper} : awOps P (⟨d, op, none⟩ :: os) K ⟨e, n, H⟩ = AR P d op (awOps P os K) ⟨e, n, H⟩ := rfl
theorem Iu {m : Mode} {S : List Nat} {ops : List AOper} : aw P (.regD m S ops) Q ⟨e, n, H⟩ = gsK P m (Uk e S) ops (Q .normal) ⟨e, n, H⟩ := rfl
theorem JW {m : Mode} {gs : List Nat} {ops : List AOper} {s : AS} : gsK P m (some gs) ops K s = gsM P m gs ops K s := rfl
theorem A3 {m : Mode} {gs : List Nat} {ops : List AOper} (h : AD P m n gs ops K ⟨e, n, H⟩) : gsM P m gs ops K ⟨e, n, H⟩ := ⟨[], h⟩
theorem NA {m : Mode} {gs : List Nat} {ops : List AOper} (ms : List Nat) (h : AD P m n (ms ++ gs) ops K ⟨e, n, H⟩) : gsM P m gs ops K ⟨e, n, H⟩ := ⟨ms, h⟩
theorem Ir : Uk e [] = some [] := rfl
theorem L7 {t : Nat} {ts : List Nat} : Uk e (t :: ts) = gsC (get e t) (Uk e ts) := rfl
theorem Jx {g o : Nat} {gs : List Nat} : gsC (.ptr g o) (some gs) = some (g :: gs) := rfl
def UE (ob : AObj) (d : Option Nat) (K : AS → Prop) (e : AT) (n : Nat) (H : A4) : Prop := ∀ g, n ≤ g → H g = none → K ⟨AP e d (.ptr g 0), g + 1, upd H g (some ob)⟩
theorem A2 {ob : AObj} {d : Option Nat} {H : A4} (h : WP ob d K e n H) : UE ob d K e n H := fun g hg _ => h g hg
def U3 (sz : Nat) (l : List AV) (ob : AObj) (d : Option Nat) (K : AS → Prop) (e : AT) (n : Nat) (H : A4) : Prop := ∀ g, n ≤ g → H g = none → K ⟨AP e d (.sl sz l (.own g)), g + 1, upd H g (some ob)⟩
theorem A6 {sz : Nat} {l : List AV} {ob : AObj} {d : Option Nat} {H : A4} (h : VE sz l ob d K e n H) : U3 sz l ob d K e n H := fun g hg _ => h g hg
theorem LH {md : Mode} {lw : Nat} {gs : List Nat} : AD P md lw gs [] K ⟨e, n, H⟩ = K ⟨e, n, H⟩ := rfl
theorem J5 {md : Mode} {lw : Nat} {gs : List Nat} {d : Option Nat} {sh : Ba} {x : Opd} {os : List AOper} : AD P md lw gs (⟨d, .load sh x, none⟩ :: os) K ⟨e, n, H⟩ = KS (BZ (Bf gs H) sh (ev e x)) d (AD P md lw gs os K) e n H := rfl
def Tz (md : Mode) (lo : Nat) (ob : AObj) (d : Option Nat) (K : AS → Prop) (e : AT) (n : Nat) (H : A4) : Prop := newK md lo ⟨e, n, H⟩ fun g n' => K ⟨AP e d (.ptr g 0), n', upd H g (some ob)⟩
def U9 (md : Mode) (lo : Nat) (sz : Nat) (l : List AV) (ob : AObj) (d : Option Nat) (K : AS → Prop) (e : AT) (n : Nat) (H : A4) : Prop := newK md lo ⟨e, n, H⟩ fun g n' => K ⟨AP e d (.sl sz l (.own g)), n', upd H g (some ob)⟩
theorem L2 {lo : Nat} {ob : AObj} {d : Option Nat} {H : A4} : Tz .plain lo ob d K e n H = UE ob d K e n H := rfl
theorem M1 {lo : Nat} {ob : AObj} {d : Option Nat} {H : A4} : Tz .late lo ob d K e n H = UE ob d K e n H := rfl
theorem LM {q lo : Nat} {ob : AObj} {d : Option Nat} {H : A4} : Tz (.last q) lo ob d K e n H = UE ob d K e n H := rfl
theorem Lr {lo : Nat} {sz : Nat} {l : List AV} {ob : AObj} {d : Option Nat} {H : A4} : U9 .plain lo sz l ob d K e n H = U3 sz l ob d K e n H := rfl
theorem KG {lo : Nat} {sz : Nat} {l : List AV} {ob : AObj} {d : Option Nat} {H : A4} : U9 .late lo sz l ob d K e n H = U3 sz l ob d K e n H := rfl
theorem Iv {q lo : Nat} {sz : Nat} {l : List AV} {ob : AObj} {d : Option Nat} {H : A4} : U9 (.last q) lo sz l ob d K e n H = U3 sz l ob d K e n H := rfl
theorem L8 {md : Mode} {lw : Nat} {gs : List Nat} {d : Option Nat} {t : TypeId} {z : List AV} {os : List AOper} : AD P md lw gs (⟨d, .alloc t z, none⟩ :: os) K ⟨e, n, H⟩ = (ones z ∧ Tz md lw (.cells t z) d (AD P md lw gs os K) e n H) := rfl
theorem Is {md : Mode} {lw : Nat} {gs : List Nat} {d : Option Nat} {sh : Ba} {x v : Opd} {os : List AOper} : AD P md lw gs (⟨d, .store sh x v, none⟩ :: os) K ⟨e, n, H⟩ = (QR md lw gs x (ev e x) ∧ CS sh d (AD P md lw gs os K) ⟨e, n, H⟩ (ev e v) (ev e x)) := rfl
theorem DT {md : Mode} {lw : Nat} {gs : List Nat} {t : Nat} {want : Bool} {d : Option Nat} {x : Opd} {os : List AOper} : AD P md lw gs (⟨d, .mv x, some (t, want)⟩ :: os) K ⟨e, n, H⟩ = guardK want (AR P d (.mv x) (AD P md lw gs os K) ⟨e, n, H⟩) (AD P md lw gs os K ⟨AP e d .und, n, H⟩) (get e t) := by
 show (match get e t with | .bool b => _ | .und => _ | _ => False) = _
 cases get e t <;> rfl
theorem J0 {md : Mode} {lw : Nat} {gs : List Nat} {t : Nat} {want : Bool} {d : Option Nat} {op : BinOp} {x y : Opd} {os : List AOper} : AD P md lw gs (⟨d, .bin op x y, some (t, want)⟩ :: os) K ⟨e, n, H⟩ = guardK want (AR P d (.bin op x y) (AD P md lw gs os K) ⟨e, n, H⟩) (AD P md lw gs os K ⟨AP e d .und, n, H⟩) (get e t) := by
 show (match get e t with | .bool b => _ | .und => _ | _ => False) = _
 cases get e t <;> rfl
theorem Ju {md : Mode} {lw : Nat} {gs : List Nat} {t : Nat} {want : Bool} {d : Option Nat} {ks : List FK} {neg : Bool} {x y : Opd} {os : List AOper} : AD P md lw gs (⟨d, .eqs ks neg x y, some (t, want)⟩ :: os) K ⟨e, n, H⟩ = guardK want (AR P d (.eqs ks neg x y) (AD P md lw gs os K) ⟨e, n, H⟩) (AD P md lw gs os K ⟨AP e d .und, n, H⟩) (get e t) := by
 show (match get e t with | .bool b => _ | .und => _ | _ => False) = _
 cases get e t <;> rfl
theorem Jg {md : Mode} {lw : Nat} {gs : List Nat} {t : Nat} {want : Bool} {d : Option Nat} {neg : Bool} {x y : Opd} {os : List AOper} : AD P md lw gs (⟨d, .eqb neg x y, some (t, want)⟩ :: os) K ⟨e, n, H⟩ = guardK want (AR P d (.eqb neg x y) (AD P md lw gs os K) ⟨e, n, H⟩) (AD P md lw gs os K ⟨AP e d .und, n, H⟩) (get e t) := by
 show (match get e t with | .bool b => _ | .und => _ | _ => False) = _
 cases get e t <;> rfl
theorem Ih {md : Mode} {lw : Nat} {gs : List Nat} {t : Nat} {want : Bool} {d : Option Nat} {neg : Bool} {x : Opd} {os : List AOper} : AD P md lw gs (⟨d, .eqn neg x, some (t, want)⟩ :: os) K ⟨e, n, H⟩ = guardK want (AR P d (.eqn neg x) (AD P md lw gs os K) ⟨e, n, H⟩) (AD P md lw gs os K ⟨AP e d .und, n, H⟩) (get e t) := by
 show (match get e t with | .bool b => _ | .und => _ | _ => False) = _
 cases get e t <;> rfl
theorem Li {md : Mode} {lw : Nat} {gs : List Nat} {t : Nat} {want : Bool} {d : Option Nat} {neg : Bool} {x : Opd} {os : List AOper} : AD P md lw gs (⟨d, .eqp neg x, some (t, want)⟩ :: os) K ⟨e, n, H⟩ = guardK want (AR P d (.eqp neg x) (AD P md lw gs os K) ⟨e, n, H⟩) (AD P md lw gs os K ⟨AP e d .und, n, H⟩) (get e t) := by
 show (match get e t with | .bool b => _ | .und => _ | _ => False) = _
 cases get e t <;> rfl
theorem Lf {md : Mode} {lw : Nat} {gs : List Nat} {t : Nat} {want : Bool} {d : Option Nat} {neg : Bool} {x : Opd} {os : List AOper} : AD P md lw gs (⟨d, .eqi neg x, some (t, want)⟩ :: os) K ⟨e, n, H⟩ = guardK want (AR P d (.eqi neg x) (AD P md lw gs os K) ⟨e, n, H⟩) (AD P md lw gs os K ⟨AP e d .und, n, H⟩) (get e t) := by
 show (match get e t with | .bool b => _ | .und => _ | _ => False) = _
 cases get e t <;> rfl
theorem K5 {md : Mode} {lw : Nat} {gs : List Nat} {t : Nat} {want : Bool} {d : Option Nat} {x : Opd} {os : List AOper} : AD P md lw gs (⟨d, .neg x, some (t, want)⟩ :: os) K ⟨e, n, H⟩ = guardK want (AR P d (.neg x) (AD P md lw gs os K) ⟨e, n, H⟩) (AD P md lw gs os K ⟨AP e d .und, n, H⟩) (get e t) := by
 show (match get e t with | .bool b => _ | .und => _ | _ => False) = _
 cases get e t <;> rfl
theorem KN {md : Mode} {lw : Nat} {gs : List Nat} {t : Nat} {want : Bool} {d : Option Nat} {x : Opd} {os : List AOper} : AD P md lw gs (⟨d, .not x, some (t, want)⟩ :: os) K ⟨e, n, H⟩ = guardK want (AR P d (.not x) (AD P md lw gs os K) ⟨e, n, H⟩) (AD P md lw gs os K ⟨AP e d .und, n, H⟩) (get e t) := by
 show (match get e t with | .bool b => _ | .und => _ | _ => False) = _
 cases get e t <;> rfl
theorem Js {md : Mode} {lw : Nat} {gs : List Nat} {t : Nat} {want : Bool} {d : Option Nat} {k : IntKind} {x : Opd} {os : List AOper} : AD P md lw gs (⟨d, .cvi k x, some (t, want)⟩ :: os) K ⟨e, n, H⟩ = guardK want (AR P d (.cvi k x) (AD P md lw gs os K) ⟨e, n, H⟩) (AD P md lw gs os K ⟨AP e d .und, n, H⟩) (get e t) := by
 show (match get e t with | .bool b => _ | .und => _ | _ => False) = _
 cases get e t <;> rfl
theorem LO {md : Mode} {lw : Nat} {gs : List Nat} {t : Nat} {want : Bool} {d : Option Nat} {sz : Nat} {x : Opd} {lo hi : Option Opd} {os : List AOper} : AD P md lw gs (⟨d, .cut sz x lo hi, some (t, want)⟩ :: os) K ⟨e, n, H⟩ = guardK want (AR P d (.cut sz x lo hi) (AD P md lw gs os K) ⟨e, n, H⟩) (AD P md lw gs os K ⟨AP e d .und, n, H⟩) (get e t) := by
 show (match get e t with | .bool b => _ | .und => _ | _ => False) = _
 cases get e t <;> rfl
theorem Ks {md : Mode} {lw : Nat} {gs : List Nat} {t : Nat} {want : Bool} {d : Option Nat} {x : Opd} {lo hi : Option Opd} {os : List AOper} : AD P md lw gs (⟨d, .cutS x lo hi, some (t, want)⟩ :: os) K ⟨e, n, H⟩ = guardK want (AR P d (.cutS x lo hi) (AD P md lw gs os K) ⟨e, n, H⟩) (AD P md lw gs os K ⟨AP e d .und, n, H⟩) (get e t) := by
 show (match get e t with | .bool b => _ | .und => _ | _ => False) = _
 cases get e t <;> rfl
theorem LC {md : Mode} {lw : Nat} {gs : List Nat} {t : Nat} {want : Bool} {d : Option Nat} {x : Opd} {off : Nat} {s : Ba} {os : List AOper} : AD P md lw gs (⟨d, .faddr x off s, some (t, want)⟩ :: os) K ⟨e, n, H⟩ = guardK want (AR P d (.faddr x off s) (AD P md lw gs os K) ⟨e, n, H⟩) (AD P md lw gs os K ⟨AP e d .und, n, H⟩) (get e t) := by
 show (match get e t with | .bool b => _ | .und => _ | _ => False) = _
 cases get e t <;> rfl
theorem La {md : Mode} {lw : Nat} {gs : List Nat} {t : Nat} {want : Bool} {d : Option Nat} {x : Opd} {off : Nat} {s : Ba} {os : List AOper} : AD P md lw gs (⟨d, .field x off s, some (t, want)⟩ :: os) K ⟨e, n, H⟩ = guardK want (AR P d (.field x off s) (AD P md lw gs os K) ⟨e, n, H⟩) (AD P md lw gs os K ⟨AP e d .und, n, H⟩) (get e t) := by
 show (match get e t with | .bool b => _ | .und => _ | _ => False) = _
 cases get e t <;> rfl
theorem Im {md : Mode} {lw : Nat} {gs : List Nat} {t : Nat} {want : Bool} {d : Option Nat} {sz : Nat} {s : Ba} {x i : Opd} {os : List AOper} : AD P md lw gs (⟨d, .iaddr sz s x i, some (t, want)⟩ :: os) K ⟨e, n, H⟩ = guardK want (AR P d (.iaddr sz s x i) (AD P md lw gs os K) ⟨e, n, H⟩) (AD P md lw gs os K ⟨AP e d .und, n, H⟩) (get e t) := by
 show (match get e t with | .bool b => _ | .und => _ | _ => False) = _
 cases get e t <;> rfl
theorem Ip {md : Mode} {lw : Nat} {gs : List Nat} {t : Nat} {want : Bool} {d : Option Nat} {len sz : Nat} {s : Ba} {x i : Opd} {os : List AOper} : AD P md lw gs (⟨d, .aaddr len sz s x i, some (t, want)⟩ :: os) K ⟨e, n, H⟩ = guardK want (AR P d (.aaddr len sz s x i) (AD P md lw gs os K) ⟨e, n, H⟩) (AD P md lw gs os K ⟨AP e d .und, n, H⟩) (get e t) := by
 show (match get e t with | .bool b => _ | .und => _ | _ => False) = _
 cases get e t <;> rfl
theorem Ln {md : Mode} {lw : Nat} {gs : List Nat} {t : Nat} {want : Bool} {d : Option Nat} {x i : Opd} {os : List AOper} : AD P md lw gs (⟨d, .sidx x i, some (t, want)⟩ :: os) K ⟨e, n, H⟩ = guardK want (AR P d (.sidx x i) (AD P md lw gs os K) ⟨e, n, H⟩) (AD P md lw gs os K ⟨AP e d .und, n, H⟩) (get e t) := by
 show (match get e t with | .bool b => _ | .und => _ | _ => False) = _
 cases get e t <;> rfl
theorem JQ {md : Mode} {lw : Nat} {gs : List Nat} {t : Nat} {want : Bool} {d : Option Nat} {len sz : Nat} {s : Ba} {x i : Opd} {os : List AOper} : AD P md lw gs (⟨d, .aidx len sz s x i, some (t, want)⟩ :: os) K ⟨e, n, H⟩ = guardK want (AR P d (.aidx len sz s x i) (AD P md lw gs os K) ⟨e, n, H⟩) (AD P md lw gs os K ⟨AP e d .und, n, H⟩) (get e t) := by
 show (match get e t with | .bool b => _ | .und => _ | _ => False) = _
 cases get e t <;> rfl
theorem Kt {md : Mode} {lw : Nat} {gs : List Nat} {t : Nat} {want : Bool} {d : Option Nat} {x : Opd} {os : List AOper} : AD P md lw gs (⟨d, .len x, some (t, want)⟩ :: os) K ⟨e, n, H⟩ = guardK want (AR P d (.len x) (AD P md lw gs os K) ⟨e, n, H⟩) (AD P md lw gs os K ⟨AP e d .und, n, H⟩) (get e t) := by
 show (match get e t with | .bool b => _ | .und => _ | _ => False) = _
 cases get e t <;> rfl
theorem Jt {md : Mode} {lw : Nat} {gs : List Nat} {t : Nat} {want : Bool} {d : Option Nat} {x : Opd} {os : List AOper} : AD P md lw gs (⟨d, .lenS x, some (t, want)⟩ :: os) K ⟨e, n, H⟩ = guardK want (AR P d (.lenS x) (AD P md lw gs os K) ⟨e, n, H⟩) (AD P md lw gs os K ⟨AP e d .und, n, H⟩) (get e t) := by
 show (match get e t with | .bool b => _ | .und => _ | _ => False) = _
 cases get e t <;> rfl
theorem JF {md : Mode} {lw : Nat} {gs : List Nat} {t : Nat} {want : Bool} {d : Option Nat} {x : Opd} {i : Nat} {os : List AOper} : AD P md lw gs (⟨d, .extr x i, some (t, want)⟩ :: os) K ⟨e, n, H⟩ = guardK want (AR P d (.extr x i) (AD P md lw gs os K) ⟨e, n, H⟩) (AD P md lw gs os K ⟨AP e d .und, n, H⟩) (get e t) := by
 show (match get e t with | .bool b => _ | .und => _ | _ => False) = _
 cases get e t <;> rfl
theorem L4 {md : Mode} {lw : Nat} {gs : List Nat} {t : Nat} {want : Bool} {d : Option Nat} {z : List AV} {ps : List (Nat × Ba × Opd)} {os : List AOper} : AD P md lw gs (⟨d, .build z ps, some (t, want)⟩ :: os) K ⟨e, n, H⟩ = guardK want (AR P d (.build z ps) (AD P md lw gs os K) ⟨e, n, H⟩) (AD P md lw gs os K ⟨AP e d .und, n, H⟩) (get e t) := by
 show (match get e t with | .bool b => _ | .und => _ | _ => False) = _
 cases get e t <;> rfl
theorem DG {md : Mode} {lw : Nat} {gs : List Nat} {t : Nat} {want : Bool} {d : Option Nat} {mx : Bool} {x y : Opd} {os : List AOper} : AD P md lw gs (⟨d, .mm mx x y, some (t, want)⟩ :: os) K ⟨e, n, H⟩ = guardK want (AR P d (.mm mx x y) (AD P md lw gs os K) ⟨e, n, H⟩) (AD P md lw gs os K ⟨AP e d .und, n, H⟩) (get e t) := by
 show (match get e t with | .bool b => _ | .und => _ | _ => False) = _
 cases get e t <;> rfl
theorem Lv {md : Mode} {lw : Nat} {gs : List Nat} {t : Nat} {want : Bool} {d : Option Nat} {sh : Ba} {x : Opd} {os : List AOper} : AD P md lw gs (⟨d, .load sh x, some (t, want)⟩ :: os) K ⟨e, n, H⟩ = guardK want (KS (BZ (Bf gs H) sh (ev e x)) d (AD P md lw gs os K) e n H) (AD P md lw gs os K ⟨AP e d .und, n, H⟩) (get e t) := by
 show K1 (Vn gs sh x (some (t, want)) e H) _ = _
 unfold Vn
 simp only
 cases get e t <;> try rfl
 rename_i b
 simp only [guardK, eq_iff_iff]
 by_cases hb : b = want
 ·rw [if_pos hb]
  exact ⟨fun h => ⟨fun _ => h, fun hne => absurd hb hne⟩, fun h => h.1 hb⟩
 ·rw [if_neg hb]
  exact ⟨fun h => ⟨fun he => absurd he hb, fun _ => h⟩, fun h => h.2 hb⟩
theorem DY {md : Mode} {lw : Nat} {gs : List Nat} {d : Option Nat} {x : Opd} {os : List AOper} : AD P md lw gs (⟨d, .mv x, none⟩ :: os) K ⟨e, n, H⟩ = AR P d (.mv x) (AD P md lw gs os K) ⟨e, n, H⟩ := rfl
theorem Kq {md : Mode} {lw : Nat} {gs : List Nat} {d : Option Nat} {c a b : Opd} {os : List AOper} : AD P md lw gs (⟨d, .pick c a b, none⟩ :: os) K ⟨e, n, H⟩ = AR P d (.pick c a b) (AD P md lw gs os K) ⟨e, n, H⟩ := rfl
theorem JZ {md : Mode} {lw : Nat} {gs : List Nat} {d : Option Nat} {op : BinOp} {x y : Opd} {os : List AOper} : AD P md lw gs (⟨d, .bin op x y, none⟩ :: os) K ⟨e, n, H⟩ = AR P d (.bin op x y) (AD P md lw gs os K) ⟨e, n, H⟩ := rfl
theorem Ky {md : Mode} {lw : Nat} {gs : List Nat} {d : Option Nat} {ks : List FK} {neg : Bool} {x y : Opd} {os : List AOper} : AD P md lw gs (⟨d, .eqs ks neg x y, none⟩ :: os) K ⟨e, n, H⟩ = AR P d (.eqs ks neg x y) (AD P md lw gs os K) ⟨e, n, H⟩ := rfl
theorem LB {md : Mode} {lw : Nat} {gs : List Nat} {d : Option Nat} {neg : Bool} {x y : Opd} {os : List AOper} : AD P md lw gs (⟨d, .eqb neg x y, none⟩ :: os) K ⟨e, n, H⟩ = AR P d (.eqb neg x y) (AD P md lw gs os K) ⟨e, n, H⟩ := rfl
theorem LG {md : Mode} {lw : Nat} {gs : List Nat} {d : Option Nat} {neg : Bool} {x : Opd} {os : List AOper} : AD P md lw gs (⟨d, .eqn neg x, none⟩ :: os) K ⟨e, n, H⟩ = AR P d (.eqn neg x) (AD P md lw gs os K) ⟨e, n, H⟩ := rfl
theorem Lk {md : Mode} {lw : Nat} {gs : List Nat} {d : Option Nat} {neg : Bool} {x : Opd} {os : List AOper} : AD P md lw gs (⟨d, .eqp neg x, none⟩ :: os) K ⟨e, n, H⟩ = AR P d (.eqp neg x) (AD P md lw gs os K) ⟨e, n, H⟩ := rfl
theorem KH {md : Mode} {lw : Nat} {gs : List Nat} {d : Option Nat} {neg : Bool} {x : Opd} {os : List AOper} : AD P md lw gs (⟨d, .eqi neg x, none⟩ :: os) K ⟨e, n, H⟩ = AR P d (.eqi neg x) (AD P md lw gs os K) ⟨e, n, H⟩ := rfl
theorem JM {md : Mode} {lw : Nat} {gs : List Nat} {d : Option Nat} {x : Opd} {os : List AOper} : AD P md lw gs (⟨d, .neg x, none⟩ :: os) K ⟨e, n, H⟩ = AR P d (.neg x) (AD P md lw gs os K) ⟨e, n, H⟩ := rfl
theorem LE {md : Mode} {lw : Nat} {gs : List Nat} {d : Option Nat} {x : Opd} {os : List AOper} : AD P md lw gs (⟨d, .not x, none⟩ :: os) K ⟨e, n, H⟩ = AR P d (.not x) (AD P md lw gs os K) ⟨e, n, H⟩ := rfl
theorem Jr {md : Mode} {lw : Nat} {gs : List Nat} {d : Option Nat} {k : IntKind} {x : Opd} {os : List AOper} : AD P md lw gs (⟨d, .cvi k x, none⟩ :: os) K ⟨e, n, H⟩ = AR P d (.cvi k x) (AD P md lw gs os K) ⟨e, n, H⟩ := rfl
theorem LF {md : Mode} {lw : Nat} {gs : List Nat} {d : Option Nat} {f : Nat} {fst cap : List Opd} {os : List AOper} : AD P md lw gs (⟨d, .mkfn f fst cap, none⟩ :: os) K ⟨e, n, H⟩ = AR P d (.mkfn f fst cap) (AD P md lw gs os K) ⟨e, n, H⟩ := rfl
theorem KA {md : Mode} {lw : Nat} {gs : List Nat} {d : Option Nat} {sz : Nat} {x : Opd} {lo hi : Option Opd} {os : List AOper} : AD P md lw gs (⟨d, .cut sz x lo hi, none⟩ :: os) K ⟨e, n, H⟩ = AR P d (.cut sz x lo hi) (AD P md lw gs os K) ⟨e, n, H⟩ := rfl
theorem JU {md : Mode} {lw : Nat} {gs : List Nat} {d : Option Nat} {x : Opd} {lo hi : Option Opd} {os : List AOper} : AD P md lw gs (⟨d, .cutS x lo hi, none⟩ :: os) K ⟨e, n, H⟩ = AR P d (.cutS x lo hi) (AD P md lw gs os K) ⟨e, n, H⟩ := rfl
theorem L0 {md : Mode} {lw : Nat} {gs : List Nat} {d : Option Nat} {x : Opd} {off : Nat} {s : Ba} {os : List AOper} : AD P md lw gs (⟨d, .faddr x off s, none⟩ :: os) K ⟨e, n, H⟩ = AR P d (.faddr x off s) (AD P md lw gs os K) ⟨e, n, H⟩ := rfl
theorem JY {md : Mode} {lw : Nat} {gs : List Nat} {d : Option Nat} {x : Opd} {off : Nat} {s : Ba} {os : List AOper} : AD P md lw gs (⟨d, .field x off s, none⟩ :: os) K ⟨e, n, H⟩ = AR P d (.field x off s) (AD P md lw gs os K) ⟨e, n, H⟩ := rfl
theorem JB {md : Mode} {lw : Nat} {gs : List Nat} {d : Option Nat} {sz : Nat} {s : Ba} {x i : Opd} {os : List AOper} : AD P md lw gs (⟨d, .iaddr sz s x i, none⟩ :: os) K ⟨e, n, H⟩ = AR P d (.iaddr sz s x i) (AD P md lw gs os K) ⟨e, n, H⟩ := rfl
theorem Lo {md : Mode} {lw : Nat} {gs : List Nat} {d : Option Nat} {len sz : Nat} {s : Ba} {x i : Opd} {os : List AOper} : AD P md lw gs (⟨d, .aaddr len sz s x i, none⟩ :: os) K ⟨e, n, H⟩ = AR P d (.aaddr len sz s x i) (AD P md lw gs os K) ⟨e, n, H⟩ := rfl
theorem JJ {md : Mode} {lw : Nat} {gs : List Nat} {d : Option Nat} {x i : Opd} {os : List AOper} : AD P md lw gs (⟨d, .sidx x i, none⟩ :: os) K ⟨e, n, H⟩ = AR P d (.sidx x i) (AD P md lw gs os K) ⟨e, n, H⟩ := rfl
theorem Ly {md : Mode} {lw : Nat} {gs : List Nat} {d : Option Nat} {len sz : Nat} {s : Ba} {x i : Opd} {os : List AOper} : AD P md lw gs (⟨d, .aidx len sz s x i, none⟩ :: os) K ⟨e, n, H⟩ = AR P d (.aidx len sz s x i) (AD P md lw gs os K) ⟨e, n, H⟩ := rfl
theorem Jl {md : Mode} {lw : Nat} {gs : List Nat} {d : Option Nat} {x : Opd} {os : List AOper} : AD P md lw gs (⟨d, .len x, none⟩ :: os) K ⟨e, n, H⟩ = AR P d (.len x) (AD P md lw gs os K) ⟨e, n, H⟩ := rfl
theorem Lm {md : Mode} {lw : Nat} {gs : List Nat} {d : Option Nat} {x : Opd} {os : List AOper} : AD P md lw gs (⟨d, .lenS x, none⟩ :: os) K ⟨e, n, H⟩ = AR P d (.lenS x) (AD P md lw gs os K) ⟨e, n, H⟩ := rfl
theorem Ik {md : Mode} {lw : Nat} {gs : List Nat} {d : Option Nat} {j : Nat} {os : List AOper} : AD P md lw gs (⟨d, .clen j, none⟩ :: os) K ⟨e, n, H⟩ = AR P d (.clen j) (AD P md lw gs os K) ⟨e, n, H⟩ := rfl
theorem Jm {md : Mode} {lw : Nat} {gs : List Nat} {d : Option Nat} {x : Opd} {i : Nat} {os : List AOper} : AD P md lw gs (⟨d, .extr x i, none⟩ :: os) K ⟨e, n, H⟩ = AR P d (.extr x i) (AD P md lw gs os K) ⟨e, n, H⟩ := rfl
theorem Jf {md : Mode} {lw : Nat} {gs : List Nat} {d : Option Nat} {x : Opd} {os : List AOper} : AD P md lw gs (⟨d, .nilck x, none⟩ :: os) K ⟨e, n, H⟩ = AR P d (.nilck x) (AD P md lw gs os K) ⟨e, n, H⟩ := rfl
theorem Kw {md : Mode} {lw : Nat} {gs : List Nat} {d : Option Nat} {z : List AV} {ps : List (Nat × Ba × Opd)} {os : List AOper} : AD P md lw gs (⟨d, .build z ps, none⟩ :: os) K ⟨e, n, H⟩ = AR P d (.build z ps) (AD P md lw gs os K) ⟨e, n, H⟩ := rfl
theorem DJ {md : Mode} {lw : Nat} {gs : List Nat} {d : Option Nat} {mx : Bool} {x y : Opd} {os : List AOper} : AD P md lw gs (⟨d, .mm mx x y, none⟩ :: os) K ⟨e, n, H⟩ = AR P d (.mm mx x y) (AD P md lw gs os K) ⟨e, n, H⟩ := rfl
theorem KO {md : Mode} {lw : Nat} {gs : List Nat} {d : Option Nat} {x : Opd} {os : List AOper} : AD P md lw gs (⟨d, .b2s x, none⟩ :: os) K ⟨e, n, H⟩ = AR P d (.b2s x) (AD P md lw gs os K) ⟨e, n, H⟩ := rfl
theorem Lj {md : Mode} {lw : Nat} {gs : List Nat} {d : Option Nat} {x : Opd} {os : List AOper} : AD P md lw gs (⟨d, .r2s x, none⟩ :: os) K ⟨e, n, H⟩ = AR P d (.r2s x) (AD P md lw gs os K) ⟨e, n, H⟩ := rfl
theorem JG {md : Mode} {lw : Nat} {gs : List Nat} {d : Option Nat} {x : Opd} {os : List AOper} : AD P md lw gs (⟨d, .upc x, none⟩ :: os) K ⟨e, n, H⟩ = AR P d (.upc x) (AD P md lw gs os K) ⟨e, n, H⟩ := rfl
theorem Ld {md : Mode} {lw : Nat} {gs : List Nat} {d : Option Nat} {neg : Bool} {x y : Opd} {os : List AOper} : AD P md lw gs (⟨d, .eqpp neg x y, none⟩ :: os) K ⟨e, n, H⟩ = AR P d (.eqpp neg x y) (AD P md lw gs os K) ⟨e, n, H⟩ := rfl
theorem Jn {md : Mode} {lw : Nat} {gs : List Nat} {d : Option Nat} {u : TypeId} {x : Opd} {os : List AOper} : AD P md lw gs (⟨d, .updn u x, none⟩ :: os) K ⟨e, n, H⟩ = AR P d (.updn u x) (AD P md lw gs os K) ⟨e, n, H⟩ := rfl
theorem Lh {md : Mode} {lw : Nat} {gs : List Nat} {d : Option Nat} {el : TypeId} {x : Opd} {os : List AOper} : AD P md lw gs (⟨d, .usd el x, none⟩ :: os) K ⟨e, n, H⟩ = AR P d (.usd el x) (AD P md lw gs os K) ⟨e, n, H⟩ := rfl
theorem Kj {md : Mode} {lw : Nat} {gs : List Nat} {d : Option Nat} {el : TypeId} {x j : Opd} {os : List AOper} : AD P md lw gs (⟨d, .ust el x j, none⟩ :: os) K ⟨e, n, H⟩ = AR P d (.ust el x j) (AD P md lw gs os K) ⟨e, n, H⟩ := rfl
theorem J9 {md : Mode} {lw : Nat} {gs : List Nat} {d : Option Nat} {el : TypeId} {s : Ba} {x : Opd} {os : List AOper} : AD P md lw gs (⟨d, .box el s x, none⟩ :: os) K ⟨e, n, H⟩ = AR P d (.box el s x) (AD P md lw gs os K) ⟨e, n, H⟩ := rfl
theorem Kp {md : Mode} {lw : Nat} {gs : List Nat} {d : Option Nat} {el : TypeId} {s : Ba} {xs : List Opd} {os : List AOper} : AD P md lw gs (⟨d, .bsl el s xs, none⟩ :: os) K ⟨e, n, H⟩ = (HV s (xs.map (ev e)) ∧ U9 md lw (BY s) (xs.map (ev e)) (.row el xs.length) d (AD P md lw gs os K) e n H) := by
 have h : HV s (xs.map (ev e)) = (∀ x ∈ xs, (ev e x).fits s = true ∧ ones (ev e x).cells) := by simp [HV, Az]
 rw [h]; rfl
theorem Kb {md : Mode} {lw : Nat} {gs : List Nat} {d : Option Nat} {el sz by_ : Nat} {x y : Opd} {os : List AOper} : AD P md lw gs (⟨d, .app el sz by_ x y, none⟩ :: os) K ⟨e, n, H⟩ = (SX gs (ev e x) ∧ appKS el sz by_ d (KM gs H (AD P md lw gs os K)) ⟨e, n, H⟩ (ev e x) (ev e y)) := rfl
theorem KM.of {gs : List Nat} {H : A4} {s : AS} (h : K s) : KM gs H K s := fun _ => h
theorem KC.of {gs : List Nat} {H : A4} {s : AS} (h : KeepM gs H s.H) (h' : K s) : KC gs H K s := ⟨h, h'⟩
theorem JI {gs : List Nat} {z : Nat} {l : List AV} {t : Tok} : SX gs (.sl z l t) = True := rfl
theorem Kf {gs : List Nat} {z g k : Nat} : SX gs (.slg z g k) = (g ∈ gs) := rfl
theorem Lc {md : Mode} {lw : Nat} {gs : List Nat} {d : Option Nat} {el by_ : Nat} {x y : Opd} {os : List AOper} : AD P md lw gs (⟨d, .appB el by_ x y, none⟩ :: os) K ⟨e, n, H⟩ = AR P d (.appB el by_ x y) (AD P md lw gs os K) ⟨e, n, H⟩ := rfl
theorem K2 {md : Mode} {lw : Nat} {gs : List Nat} {d : Option Nat} {el : TypeId} {x : Opd} {os : List AOper} : AD P md lw gs (⟨d, .s2b el x, none⟩ :: os) K ⟨e, n, H⟩ = AR P d (.s2b el x) (AD P md lw gs os K) ⟨e, n, H⟩ := rfl
theorem KE {md : Mode} {lw : Nat} {gs : List Nat} {d : Option Nat} {x : Opd} {os : List AOper} : AD P md lw gs (⟨d, .s2s x, none⟩ :: os) K ⟨e, n, H⟩ = AR P d (.s2s x) (AD P md lw gs os K) ⟨e, n, H⟩ := rfl
theorem LR {md : Mode} {lw : Nat} {gs : List Nat} {d : Option Nat} {kk : Option IntKind} {os : List AOper} : AD P md lw gs (⟨d, .mkmap kk, none⟩ :: os) K ⟨e, n, H⟩ = AR P d (.mkmap kk) (AD P md lw gs os K) ⟨e, n, H⟩ := rfl
theorem Il {md : Mode} {lw : Nat} {gs : List Nat} {d : Option Nat} {kk : Option IntKind} {m k v : Opd} {os : List AOper} : AD P md lw gs (⟨d, .mset kk m k v, none⟩ :: os) K ⟨e, n, H⟩ = AR P d (.mset kk m k v) (AD P md lw gs os K) ⟨e, n, H⟩ := rfl
theorem Lq {md : Mode} {lw : Nat} {gs : List Nat} {d : Option Nat} {kk : Option IntKind} {z : AV} {ok : Bool} {m k : Opd} {os : List AOper} : AD P md lw gs (⟨d, .mget kk z ok m k, none⟩ :: os) K ⟨e, n, H⟩ = KS (D4 (Bf gs H) kk z ok (ev e m) (ev e k)) d (AD P md lw gs os K) e n H := rfl
theorem JC {md : Mode} {lw : Nat} {gs : List Nat} {d : Option Nat} {f : Nat} {xs : List Opd} {os : List AOper} : AD P md lw gs (⟨d, .call f xs, none⟩ :: os) K ⟨e, n, H⟩ = CallK P f (xs.map (ev e)) d (KC gs H (AD P md lw gs os K)) ⟨e, n, H⟩ := rfl
theorem L3 {md : Mode} {lw : Nat} {gs : List Nat} {d : Option Nat} {f : Nat} {xs : List Opd} {os : List AOper} : AD P md lw gs (⟨d, .callp f xs, none⟩ :: os) K ⟨e, n, H⟩ = AR P d (.callp f xs) (AD P md lw gs os K) ⟨e, n, H⟩ := rfl
theorem Km {md : Mode} {lw : Nat} {gs : List Nat} {d : Option Nat} {f : Opd} {xs : List Opd} {os : List AOper} : AD P md lw gs (⟨d, .callv f xs, none⟩ :: os) K ⟨e, n, H⟩ = AR P d (.callv f xs) (AD P md lw gs os K) ⟨e, n, H⟩ := rfl
theorem JR {lo : Nat} {gs : List Nat} {x : Opd} {v : AV} : QR .plain lo gs x v = True := rfl
theorem Jd {lo : Nat} {gs : List Nat} {x : Opd} {v : AV} : QR .free lo gs x v = True := rfl
theorem Lz {lo : Nat} {gs : List Nat} {x : Opd} {v : AV} : QR .late lo gs x v = Tn gs v := rfl
theorem LN {lo : Nat} {gs : List Nat} {q i : Nat} {v : AV} : QR (.last q) lo gs (.t i) v = ((i = q → So lo gs v) ∧ (i ≠ q → TE lo gs v)) := rfl
theorem LY {lo : Nat} {gs : List Nat} {g o : Nat} : So lo gs (.ptr g o) = (g < lo ∧ g ∉ gs) := rfl
theorem JD {lo : Nat} {gs : List Nat} {g o : Nat} : TE lo gs (.ptr g o) = (lo ≤ g ∨ g ∈ gs) := rfl
theorem JO {gs : List Nat} {g o : Nat} : Tn gs (.ptr g o) = (g ∈ gs) := rfl
theorem L1 {a : Nat} {gs : List Nat} {H : A4} {k : Nat} : Bf (a :: gs) H k = if k = a then none else Bf gs H k := rfl
theorem LK {H : A4} {k : Nat} : Bf [] H k = H k := rfl
theorem Fa {d : Option Nat} {x : Opd} : AR P d (.mv x) K ⟨e, n, H⟩ = KS (some (ev e x)) d K e n H := rfl
theorem Lx {d : Option Nat} {c a b : Opd} : AR P d (.pick c a b) K ⟨e, n, H⟩ = KS (match ev e c with | .bool t => some (if t then ev e a else ev e b) | _ => none) d K e n H := rfl
theorem DX {d : Option Nat} {o : BinOp} {x y : Opd} : AR P d (.bin o x y) K ⟨e, n, H⟩ = KS (EL o (ev e x) (ev e y)) d K e n H := rfl
theorem DF {d : Option Nat} {ks : List FK} {ng : Bool} {x y : Opd} : AR P d (.eqs ks ng x y) K ⟨e, n, H⟩ = KS (IR ks ng (ev e x) (ev e y)) d K e n H := rfl
theorem DL {d : Option Nat} {ng : Bool} {x y : Opd} : AR P d (.eqb ng x y) K ⟨e, n, H⟩ = KS (IV ng (ev e x) (ev e y)) d K e n H := rfl
theorem Dd {d : Option Nat} {ng : Bool} {x : Opd} : AR P d (.eqn ng x) K ⟨e, n, H⟩ = KS (Gt ng (ev e x)) d K e n H := rfl
theorem DP {d : Option Nat} {ng : Bool} {x : Opd} : AR P d (.eqp ng x) K ⟨e, n, H⟩ = KS ((CA (ev e x)).map (RL ng)) d K e n H := rfl
theorem DM {d : Option Nat} {ng : Bool} {x : Opd} : AR P d (.eqi ng x) K ⟨e, n, H⟩ = KS ((CG (ev e x)).map (RL ng)) d K e n H := rfl
theorem DN {d : Option Nat} {x : Opd} : AR P d (.neg x) K ⟨e, n, H⟩ = KS (IN (ev e x)) d K e n H := rfl
theorem Dh {d : Option Nat} {x : Opd} : AR P d (.not x) K ⟨e, n, H⟩ = KS (IS (ev e x)) d K e n H := rfl
theorem D9 {d : Option Nat} {k : IntKind} {x : Opd} : AR P d (.cvi k x) K ⟨e, n, H⟩ = KS (IL k (ev e x)) d K e n H := rfl
theorem M0 {d : Option Nat} {f : Nat} {a b : List Opd} : AR P d (.mkfn f a b) K ⟨e, n, H⟩ = KS (some (.fn f (a.map (ev e)) (b.map (ev e)))) d K e n H := rfl
theorem Ki {d : Option Nat} {x : Opd} {lo hi : Option Opd} : AR P d (.cutS x lo hi) K ⟨e, n, H⟩ = KS (ES (ev e x) (lo.map (ev e)) (hi.map (ev e))) d K e n H := rfl
theorem Dg {d : Option Nat} {sz : Nat} {x : Opd} {lo hi : Option Opd} : AR P d (.cut sz x lo hi) K ⟨e, n, H⟩ = KS (M4 sz (ev e x) (lo.map (ev e)) (hi.map (ev e))) d K e n H := rfl
theorem KF {d : Option Nat} {x : Opd} {o : Nat} {s : Ba} : AR P d (.faddr x o s) K ⟨e, n, H⟩ = KS (HA (ev e x) o s) d K e n H := rfl
theorem LP {d : Option Nat} {x : Opd} {o : Nat} {s : Ba} : AR P d (.field x o s) K ⟨e, n, H⟩ = KS (Cx (ev e x) o s) d K e n H := rfl
theorem JV {d : Option Nat} {sz : Nat} {s : Ba} {x i : Opd} : AR P d (.iaddr sz s x i) K ⟨e, n, H⟩ = KS (D6 sz s (ev e x) (ev e i)) d K e n H := rfl
theorem Jp {d : Option Nat} {l sz : Nat} {s : Ba} {x i : Opd} : AR P d (.aaddr l sz s x i) K ⟨e, n, H⟩ = KS (Gx l sz s (ev e x) (ev e i)) d K e n H := rfl
theorem Kc {d : Option Nat} {x i : Opd} : AR P d (.sidx x i) K ⟨e, n, H⟩ = KS (FB (ev e x) (ev e i)) d K e n H := rfl
theorem K8 {d : Option Nat} {l sz : Nat} {s : Ba} {x i : Opd} : AR P d (.aidx l sz s x i) K ⟨e, n, H⟩ = KS (FA l sz s (ev e x) (ev e i)) d K e n H := rfl
theorem DR {d : Option Nat} {x : Opd} : AR P d (.len x) K ⟨e, n, H⟩ = KS (VA (ev e x)) d K e n H := rfl
theorem KX {d : Option Nat} {x : Opd} : AR P d (.lenS x) K ⟨e, n, H⟩ = KS (FC (ev e x)) d K e n H := rfl
theorem LV {d : Option Nat} {m : Nat} : AR P d (.clen m) K ⟨e, n, H⟩ = KS (some (.int .i64 m)) d K e n H := rfl
theorem J1 {d : Option Nat} {x : Opd} {i : Nat} : AR P d (.extr x i) K ⟨e, n, H⟩ = KS (F8 i (ev e x)) d K e n H := rfl
theorem JA {d : Option Nat} {x : Opd} : AR P d (.nilck x) K ⟨e, n, H⟩ = KS (Cv (ev e x)) d K e n H := rfl
theorem LW {d : Option Nat} {s : Ba} {x : Opd} : AR P d (.load s x) K ⟨e, n, H⟩ = KS (BZ H s (ev e x)) d K e n H := rfl
theorem LQ {d : Option Nat} {z : List AV} {ps : List (Nat × Ba × Opd)} : AR P d (.build z ps) K ⟨e, n, H⟩ = KS (CY z (ps.map fun (o, s, x) => (o, s, ev e x))) d K e n H := by
 have h : (ps.map fun (o, _, x) => (o, ev e x)) = (ps.map fun (o, s, x) => (o, s, ev e x)).map fun (o, _, x) => (o, x) := by rw [List.map_map]; rfl
 show K1 (if _ then some (.agg (Fy z _)) else none) _ = _
 rw [h]; unfold KS CY; split <;> rfl
theorem Fj {d : Option Nat} {mx : Bool} {x y : Opd} : AR P d (.mm mx x y) K ⟨e, n, H⟩ = KS (Sc mx (ev e x) (ev e y)) d K e n H := rfl
theorem DQ {d : Option Nat} {x : Opd} : AR P d (.b2s x) K ⟨e, n, H⟩ = KS (IH (ev e x)) d K e n H := rfl
theorem DS {d : Option Nat} {x : Opd} : AR P d (.r2s x) K ⟨e, n, H⟩ = KS (II (ev e x)) d K e n H := rfl
theorem DH {d : Option Nat} {x : Opd} : AR P d (.upc x) K ⟨e, n, H⟩ = KS (EK H (ev e x)) d K e n H := rfl
theorem DA {d : Option Nat} {el : TypeId} {x : Opd} : AR P d (.usd el x) K ⟨e, n, H⟩ = KS (EE H el (ev e x)) d K e n H := rfl
theorem Lw {d : Option Nat} {ng : Bool} {x y : Opd} : AR P d (.eqpp ng x y) K ⟨e, n, H⟩ = KS (F9 ng (ev e x) (ev e y)) d K e n H := rfl
theorem Ja {d : Option Nat} {u : TypeId} {x : Opd} : AR P d (.updn u x) K ⟨e, n, H⟩ = KS (CD P H u (ev e x)) d K e n H := rfl
theorem DW {d : Option Nat} {t : TypeId} {x m : Opd} : AR P d (.ust t x m) K ⟨e, n, H⟩ = KS (E2 t (ev e x) (ev e m)) d K e n H := rfl
theorem Ii {d : Option Nat} {t : TypeId} {z : List AV} : AR P d (.alloc t z) K ⟨e, n, H⟩ = (ones z ∧ WP (.cells t z) d K e n H) := rfl
theorem DD {d : Option Nat} {t : TypeId} {sh : Ba} {x : Opd} : AR P d (.box t sh x) K ⟨e, n, H⟩ = ((Az sh (ev e x) ∧ WP (.cells t (ev e x).cells) d K e n H)) := propext and_assoc.symm
theorem L6 {d : Option Nat} {sh : Ba} {x v : Opd} : AR P d (.store sh x v) K ⟨e, n, H⟩ = CS sh d K ⟨e, n, H⟩ (ev e v) (ev e x) := rfl
def newB (el sz : Nat) (l : List AV) (d : Option Nat) (K : AS → Prop) (e : AT) (n : Nat) (H : A4) : Prop := VE sz l (.row el l.length) d K e n H ∨ ∀ g, n ≤ g → K ⟨AP e d (.slm sz g 0 l.length), g + 1, upd H g (some (.cells el (Aa l)))⟩
theorem AA {el sz : Nat} {l : List AV} {d : Option Nat} (h : VE sz l (.row el l.length) d K e n H) : newB el sz l d K e n H := .inl h
theorem Db {d : Option Nat} {t : TypeId} {sh : Ba} {xs : List Opd} : AR P d (.bsl t sh xs) K ⟨e, n, H⟩ = (HV sh (xs.map (ev e)) ∧ newB t (BY sh) (xs.map (ev e)) d K e n H) := by
 have h : HV sh (xs.map (ev e)) = (∀ x ∈ xs, (ev e x).fits sh = true ∧ ones (ev e x).cells) := by simp [HV, Az]
 rw [h]
 unfold newB VE
 rw [List.length_map]; rfl
theorem DE {d : Option Nat} {t sz b : Nat} {x y : Opd} : AR P d (.app t sz b x y) K ⟨e, n, H⟩ = appKS t sz b d K ⟨e, n, H⟩ (ev e x) (ev e y) := rfl
theorem Ku {d : Option Nat} {t b : Nat} {x y : Opd} : AR P d (.appB t b x y) K ⟨e, n, H⟩ = SZ t b d K ⟨e, n, H⟩ (ev e x) (ev e y) := rfl
theorem DO {d : Option Nat} {t : TypeId} {x : Opd} : AR P d (.s2b t x) K ⟨e, n, H⟩ = IK d K e n H (ev e x) := rfl
theorem DU {d : Option Nat} {x : Opd} : AR P d (.s2s x) K ⟨e, n, H⟩ = IT d K e n H (ev e x) := rfl
theorem LZ {d : Option Nat} {kk : Option IntKind} : AR P d (.mkmap kk) K ⟨e, n, H⟩ = A2x kk d K e n H := rfl
theorem LD {d : Option Nat} {kk : Option IntKind} {m k v : Opd} : AR P d (.mset kk m k v) K ⟨e, n, H⟩ = D0 kk d K ⟨e, n, H⟩ (ev e k) (ev e v) (ev e m) := rfl
def A24 (m : Nat) (o : Option AObj) (d : Option Nat) (K : AS → Prop) (e : AT) (n : Nat) (H : A4) : Prop := match o with
 | some (.map _ es) => ∀ g, n ≤ g → K ⟨AP e d (.ptr g 0), g + 1, upd H g (some (.iter m es.length (List.range es.length) none))⟩
 | _ => False
def A1p (g m len : Nat) (left : List Nat) (o : Option AObj) (d : Option Nat) (K : AS → Prop) (e : AT) (n : Nat) (H : A4) : Prop := match o with
 | some (.map _ es) => es.length = len ∧ (left = [] → K ⟨AP e d (.tup [.bool false]), n, H⟩) ∧ ∀ j ∈ left, ∀ k v, es[j]? = some (k, v) → K ⟨AP e d (.tup [.bool true, k, v]), n, upd H g (some (.iter m len (left.erase j) (some j)))⟩
 | _ => False
def A2r (g : Nat) (o : Option AObj) (d : Option Nat) (K : AS → Prop) (e : AT) (n : Nat) (H : A4) : Prop := match o with
 | some (.iter m len left _) => A1p g m len left (H m) d K e n H
 | _ => False
theorem Ls {g m len : Nat} {left : List Nat} {cur d : Option Nat} : A2r g (some (.iter m len left cur)) d K e n H = A1p g m len left (H m) d K e n H := rfl
theorem J8 {m : Nat} {d : Option Nat} : TB d K ⟨e, n, H⟩ (.mp m) = A24 m (H m) d K e n H := rfl
theorem Kg {g : Nat} {d : Option Nat} : Sl d K ⟨e, n, H⟩ (.ptr g 0) = A2r g (H g) d K e n H := propext ⟨fun h => h.2, fun h => ⟨rfl, h⟩⟩
theorem C4 {m : Nat} {kk : Option IntKind} {es : List (AV × AV)} {d : Option Nat} (h : ∀ g, n ≤ g → K ⟨AP e d (.ptr g 0), g + 1, upd H g (some (.iter m es.length (List.range es.length) none))⟩) : A24 m (some (.map kk es)) d K e n H := h
theorem YS {g m len : Nat} {left : List Nat} {kk : Option IntKind} {es : List (AV × AV)} {d : Option Nat} (hl : es.length = len) (h0 : left = [] → K ⟨AP e d (.tup [.bool false]), n, H⟩)
  (h1 : ∀ j ∈ left, ∀ k v, es[j]? = some (k, v) → K ⟨AP e d (.tup [.bool true, k, v]), n, upd H g (some (.iter m len (left.erase j) (some j)))⟩) : A1p g m len left (some (.map kk es)) d K e n H := ⟨hl, h0, h1⟩
def A3e (el : TypeId) (z : AV) (m : Nat) (d : Option Nat) (K : AS → Prop) (e : AT) (n : Nat) (H : A4) : Prop := ∀ g, n ≤ g → K ⟨AP e d (.slm 1 g 0 m), g + 1, upd H g (some (.cells el (List.replicate m z)))⟩
theorem Iw {el : TypeId} {b : Nat} {z : AV} {d : Option Nat} {k k' : IntKind} {p q : Int} : On el b z d K ⟨e, n, H⟩ (.int k p) (.int k' q) = (p = q ∧ 0 ≤ p ∧ (b : Int) * p ≤ 281474976710656 ∧ p ≤ maxLen ∧ A3e el z p.toNat d K e n H) := rfl
theorem Lu {d : Option Nat} {el : TypeId} {b : Nat} {z : AV} {x y : Opd} : AR P d (.mksl el b z x y) K ⟨e, n, H⟩ = On el b z d K ⟨e, n, H⟩ (ev e x) (ev e y) := rfl
theorem Dc {d : Option Nat} {x : Opd} : AR P d (.rng x) K ⟨e, n, H⟩ = TB d K ⟨e, n, H⟩ (ev e x) := rfl
theorem Df {d : Option Nat} {x : Opd} : AR P d (.nxt x) K ⟨e, n, H⟩ = Sl d K ⟨e, n, H⟩ (ev e x) := rfl
theorem Di {d : Option Nat} {x : Opd} : AR P d (.ent x) K ⟨e, n, H⟩ = KS (H9 H (ev e x)) d K e n H := rfl
theorem KR {d : Option Nat} {kk : Option IntKind} {z : AV} {ok : Bool} {m k : Opd} : AR P d (.mget kk z ok m k) K ⟨e, n, H⟩ = KS (D4 H kk z ok (ev e m) (ev e k)) d K e n H := rfl
theorem Lg {d : Option Nat} {f : Nat} {xs : List Opd} : AR P d (.call f xs) K ⟨e, n, H⟩ = CallK P f (xs.map (ev e)) d K ⟨e, n, H⟩ := rfl
theorem Kl {d : Option Nat} {f : Nat} {xs : List Opd} : AR P d (.callp f xs) K ⟨e, n, H⟩ = CallP P f (xs.map (ev e)) d K ⟨e, n, H⟩ := rfl
theorem J7 {d : Option Nat} {x : Opd} {xs : List Opd} : AR P d (.callv x xs) K ⟨e, n, H⟩ = Ar P d K e n H (xs.map (ev e)) (ev e x) := rfl
theorem XA {el sz by_ z z' : Nat} {d : Option Nat} {m m' : List AV} {t : Tok} (hz : z' = sz ∨ m = []) (hs : AC m m') (hm : m ≠ []) (hb : m.length * by_ ≤ 140737488355328) (hx : m.length ≤ maxLen) (h : ∀ g, n ≤ g → K ⟨AP e d (.sl sz m' (.own g)), g + 1, upd H g (some (.row el m'.length))⟩) : appKS el sz by_ d K ⟨e, n, H⟩ (.sl z [] .nil) (.sl z' m t) := by
 have hl := CX hs
 exact ⟨hz, m', hs, by simpa [hl] using hb, by simpa [hl] using hx, fun h' => absurd h' (fun e => hm (List.length_eq_zero_iff.1 (by rw [hl, e]; rfl))), fun _ => .inl h⟩
theorem QI {el sz by_ z z' : Nat} {d : Option Nat} {m m' : List AV} {t : Tok} (hz : z' = sz ∨ m = []) (hs : AC m m') (hm : m ≠ []) (hb : m.length * by_ ≤ 140737488355328) (hx : m.length ≤ maxLen) (h : ∀ g, n ≤ g → K ⟨AP e d (.slg sz g m'.length), g + 1, upd H g (some (.grow el (Aa m')))⟩) : appKS el sz by_ d K ⟨e, n, H⟩ (.sl z [] .nil) (.sl z' m t) := by
 have hl := CX hs
 exact ⟨hz, m', hs, by simpa [hl] using hb, by simpa [hl] using hx, fun h' => absurd h' (fun e => hm (List.length_eq_zero_iff.1 (by rw [hl, e]; rfl))), fun _ => .inr h⟩
theorem QB {el sz by_ g0 k z' : Nat} {d : Option Nat} {m m' cs : List AV} {t : Tok} (hz : z' = sz ∨ m = []) (hs : AC m m') (hr : H g0 = some (.grow el cs)) (hc : cs.length = k * sz) (hb : (k + m.length) * by_ ≤ 140737488355328) (hx : k + m.length ≤ maxLen) (h : ∀ g n', (g = g0 ∨ n ≤ g) → n ≤ n' → g < n' → K ⟨AP e d (.slg sz g (k + m'.length)), n', upd (upd H g0 none) g (some (.grow el (cs ++ Aa m')))⟩) : appKS el sz by_ d K ⟨e, n, H⟩ (.slg sz g0 k) (.sl z' m t) := by
 have hl := CX hs
 refine ⟨hz, m', hs, rfl, by rw [← hl]; exact hb, by rw [← hl]; exact hx, ?_⟩
 show Pn el sz by_ d K ⟨e, n, H⟩ g0 k m' (H g0)
 rw [hr]
 exact ⟨rfl, hc, h⟩
theorem WU {el sz by_ g0 z' : Nat} {d : Option Nat} {l m m' : List AV} {t : Tok} (hz : z' = sz ∨ m = []) (hs : AC m m') (hr : H g0 = some (.row el l.length)) (hb : (l.length + m.length) * by_ ≤ 140737488355328) (hx : l.length + m.length ≤ maxLen) (h : ∀ g n', (g = g0 ∨ n ≤ g) → n ≤ n' → g < n' → K ⟨AP e d (.sl sz (l ++ m') (.own g)), n', upd (upd H g0 none) g (some (.row el (l.length + m'.length)))⟩) : appKS el sz by_ d K ⟨e, n, H⟩ (.sl sz l (.own g0)) (.sl z' m t) := by
 have hl := CX hs
 exact ⟨hz, m', hs, by rw [← hl]; exact hb, by rw [← hl]; exact hx, rfl, hr, h⟩
theorem Jc {X : AS → Prop} {s : AS} : Bz X Q .normal s = X s := rfl
theorem K4 {X : AS → Prop} {s : AS} {i : Nat} : Bz X Q (.exit i) s = Q (.exit i) s := rfl
theorem Kd {X : AS → Prop} {s : AS} : Bz X Q .ret s = Q .ret s := rfl
theorem LI {id : Nat} {s : AS} : Cy id Q .normal s = Q .normal s := rfl
theorem JT {id i : Nat} {s : AS} : Cy id Q (.exit i) s = if i = id then Q .normal s else Q (.exit i) s := rfl
theorem Jh {id : Nat} {s : AS} : Cy id Q .ret s = Q .ret s := rfl
end
/-! ### simp looks at what is known, not into what follows -/
section
variable {P : Program} {K : AS → Prop} {Q : AExit → AS → Prop} {d : Option Nat} {n : Nat}
end
abbrev zM (d s : Nat) : AOper := ⟨some d, .mv (.t s), none⟩
abbrev zL (d s : Nat) : AOper := ⟨some d, .load none (.t s), none⟩
abbrev zF (d s k : Nat) : AOper := ⟨some d, .faddr (.t s) k none, none⟩
abbrev zG (d k s : Nat) : AOper := ⟨some d, .load (some k) (.t s), none⟩
abbrev zX (d s k : Nat) : AOper := ⟨some d, .extr (.t s) k, none⟩
abbrev zI (d : Nat) (k : Int) : AOper := ⟨some d, .mv (.c (.int .i64 k)), none⟩
abbrev zB (d : Nat) (b : Bool) : AOper := ⟨some d, .mv (.c (.bool b)), none⟩
abbrev zS (k a b : Nat) : AOper := ⟨none, .store (some k) (.t a) (.t b), none⟩
abbrev zU (a b : Nat) : AOper := ⟨none, .store none (.t a) (.t b), none⟩
abbrev zP (d a b : Nat) : AOper := ⟨some d, .pick (.t a) (.t b) (.c (.bool false)), none⟩
abbrev zO (d a b : Nat) : AOper := ⟨some d, .pick (.t a) (.c (.bool true)) (.t b), none⟩
abbrev zV (d f a : Nat) : AOper := ⟨some d, .callp f [.t a], none⟩
abbrev zW (d f a b : Nat) : AOper := ⟨some d, .callp f [.t a, .t b], none⟩
abbrev zN (d s : Nat) : AOper := ⟨some d, .not (.t s), none⟩
abbrev zY (d s : Nat) : AOper := ⟨some d, .len (.t s), none⟩
abbrev zZ (d s : Nat) : AOper := ⟨some d, .nilck (.t s), none⟩
abbrev zH (d e k s : Nat) : AOper := ⟨some d, .box e (some k) (.t s), none⟩
abbrev zJ (d k a b : Nat) : AOper := ⟨some d, .iaddr k none (.t a) (.t b), none⟩
abbrev zD (d : Nat) (o : BinOp) (a b : Nat) : AOper := ⟨some d, .bin o (.t a) (.t b), none⟩
abbrev zE (d : Nat) (o : BinOp) (a : Nat) (k : Int) : AOper := ⟨some d, .bin o (.t a) (.c (.int .i64 k)), none⟩
end Go.Proofs.YtjdccdelcnmocaaGreatDoor
