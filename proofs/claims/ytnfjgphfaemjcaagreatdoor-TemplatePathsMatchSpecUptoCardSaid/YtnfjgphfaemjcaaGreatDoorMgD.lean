/- What is asked at a function's end, and how a function's contract comes of its code; no condition. -/
import Derived.Test.YtnfjgphfaemjcaaGreatDoorMgC
set_option linter.all false
set_option linter.unusedSimpArgs false
set_option linter.unusedVariables false
namespace Go.Proofs.YtnfjgphfaemjcaaGreatDoor
def FZ (s : AS) : ARes → Option AV
 | .tmp t => some (get s.e t)
 | .cell t sh => B0 s.H sh (get s.e t)
def Cx (s : AS) : List ARes → Option (List AV)
 | [] => some []
 | r :: rs => match FZ s r, Cx s rs with | some x, some xs => some (x :: xs) | _, _ => none
def Bd (s : AS) (rs : List ARes) : Option AV :=
 match Cx s rs with
 | some [x] => some x
 | some xs => some (.tup xs)
 | none => none
def SameB (n : Nat) (H H' : A4) : Prop := ∀ k, k < n → H' k = H k
def Kt (v : AV) (n : Nat) (H : A4) (res : List ARes) : AExit → AS → Prop
 | .normal, s | .ret, s => (∃ x, Bd s res = some x ∧ A8 x v) ∧ n ≤ s.n ∧ SameB n H s.H
 | _, _ => False
def fin (R : Et) (n : Nat) (res : List ARes) : AExit → AS → Prop
 | .normal, s | .ret, s => ∃ r n' H', (∃ x, Bd s res = some x ∧ A8 x r) ∧ n ≤ n' ∧ n' ≤ s.n ∧ (∀ k, n' ≤ k → H' k = none) ∧ SameB n' H' s.H ∧ R r n' H'
 | _, _ => False
theorem SameB.rfl_ (n : Nat) (H : A4) : SameB n H H := fun _ _ => rfl
theorem Hx {R : Et} {n m : Nat} {res : List ARes} {e : AL} {H : A4} {r : AV} (h1 : Bd ⟨e, m, H⟩ res = some r) (h2 : n ≤ m) (h3 : ∀ k, m ≤ k → H k = none) (h4 : R r m H) : fin R n res .ret ⟨e, m, H⟩ :=
 ⟨r, m, H, ⟨r, h1, A1 _⟩, h2, Nat.le_refl _, h3, SameB.rfl_ _ _, h4⟩
theorem WZ {R : Et} {n m : Nat} {res : List ARes} {e : AL} {H : A4} {r : AV} (h1 : Bd ⟨e, m, H⟩ res = some r) (h2 : n ≤ m) (h3 : ∀ k, m ≤ k → H k = none) (h4 : R r m H) : fin R n res .normal ⟨e, m, H⟩ :=
 ⟨r, m, H, ⟨r, h1, A1 _⟩, h2, Nat.le_refl _, h3, SameB.rfl_ _ _, h4⟩
theorem SameB.upd {n : Nat} {H H' : A4} (h : SameB n H H') {g : Nat} (hg : n ≤ g) (x : Option AObj) : SameB n H (upd H' g x) := fun k hk => by
 unfold Go.Proofs.YtnfjgphfaemjcaaGreatDoor.upd; rw [if_neg (by omega)]; exact h k hk
theorem AY (H : A4) (g : Nat) (x : Option AObj) : upd H g x g = x := by simp [upd]
theorem upd_ne {H : A4} {g k : Nat} {x : Option AObj} (h : k ≠ g) : upd H g x k = H k := by simp [upd, h]
theorem Cq (H : A4) (g : Nat) (x y : Option AObj) : upd (upd H g x) g y = upd H g y := by funext k; simp only [upd]; split <;> rfl
def Qz (ng t : Bool) : AV := .bool (if ng then !t else t)
def IN (ks : List FK) (ng : Bool) : AV → AV → Option AV
 | .agg a, .agg b => (CY ks a b).map (Qz ng)
 | _, _ => none
def IH (ng : Bool) : AV → AV → Option AV
 | .bool a, .bool b => some (.bool (if ng then !(a == b) else a == b))
 | _, _ => none
def IP : AV → Option AV | .int k n => some (.int k (k.wrap (0 - n))) | _ => none
def ID : AV → Option AV | .bool b => some (.bool (!b)) | _ => none
def II (k : IntKind) : AV → Option AV | .int _ n => some (.int k (k.wrap n)) | _ => none
def Dt (x : AV) (o : Nat) (s : BE) : Option AV := match x with | .agg cs => part cs o s | _ => none
def Eu : AV → AV → Option AV
 | .str s, .int _ j => if 0 ≤ j then (s[j.toNat]?).map fun b => .int .u8 b.toNat else none
 | _, _ => none
def Ev (len sz : Nat) (s : BE) : AV → AV → Option AV
 | .agg cs, .int _ j => if 0 ≤ j ∧ j < len then part cs (j.toNat * sz) s else none
 | _, _ => none
def Qx : AV → Option AV | .sl _ l _ => some (.int .i64 l.length) | .slm _ _ _ n => some (.int .i64 n) | .slg _ _ n => some (.int .i64 n) | _ => none
def Ey : AV → Option AV | .str s => some (.int .i64 s.length) | _ => none
def Es (i : Nat) : AV → Option AV | .tup vs => vs[i]? | _ => none
def Dv : AV → Option AV | .ptr g o => some (.ptr g o) | .ref x => some (.ref x) | .fn f a b => if a.isEmpty then some (.fn f a b) else none | _ => none
def Db (z : List AV) (ps : List (Nat × BE × AV)) : Option AV := if Ec z.length ps then some (.agg (Ek z (ps.map fun (o, _, x) => (o, x)))) else none
def Su (mx : Bool) : AV → AV → Option AV
 | .int k a, .int k' b => if k = k' then some (.int k (if mx then max a b else min a b)) else none
 | _, _ => none
def IF : AV → Option AV | .sl _ l _ => (bytesOf l).map .str | _ => none
def IY : AV → Option AV | .int _ n => some (.str (Utf8.encode n).data.toList) | _ => none
def Ez (ng : Bool) : AV → AV → Option AV
 | .ptr g o, .ptr g' o' => if g = g' then some (.bool (if ng then !(decide (o = o')) else decide (o = o'))) else none
 | _, _ => none
def IG (d : Option Nat) (K : AS → Prop) (e : AL) (n : Nat) (H : A4) : AV → Prop
 | .str b => b.length ≤ maxLen ∧ ∀ n', n ≤ n' → K ⟨AG e d (.sl 1 (b.map fun u => .int .u8 u.toNat) .ro), n', H⟩
 | _ => False
def Hu (d : Option Nat) (K : AS → Prop) (e : AL) (n : Nat) (H : A4) : AV → Prop
 | .sl sz l (.own g) => l ≠ [] ∧ K ⟨AG e d (.sl sz l .ro), n, upd H g none⟩
 | _ => False
def Zb (kk : Option IntKind) (d : Option Nat) (K : AS → Prop) (e : AL) (n : Nat) (H : A4) : Prop := ∀ g, n ≤ g → K ⟨AG e d (.mp g), g + 1, upd H g (some (.map kk []))⟩
def Cd (P : Program) (d : Option Nat) (K : AS → Prop) (e : AL) (n : Nat) (H : A4) (xs : List AV) : AV → Prop
 | .fn f a b => DR P f = true ∧ CallK P f (a ++ xs ++ b) d K ⟨e, n, H⟩
 | _ => False
def Bk (sh : BE) (x : AV) : Prop := x.fits sh = true ∧ ones x.cells
def GW (sh : BE) (l : List AV) : Prop := ∀ x ∈ l, Bk sh x
theorem JO {sh : BE} : GW sh [] = True := by simp [GW]
theorem K8 {sh : BE} {x : AV} {l : List AV} : GW sh (x :: l) = (Bk sh x ∧ GW sh l) := by simp [GW]
theorem Jx {s : List UInt8} : Bk none (.str s) = True := by simp [Bk, AV.fits, ones, AV.cells, AV.one]
theorem KA {k : IntKind} {i : Int} : Bk none (.int k i) = True := by simp [Bk, AV.fits, ones, AV.cells, AV.one]
theorem Is {b : Bool} : Bk none (.bool b) = True := by simp [Bk, AV.fits, ones, AV.cells, AV.one]
theorem Kr {z : Nat} {l : List AV} {t : Tok} : Bk none (.sl z l t) = True := by simp [Bk, AV.fits, ones, AV.cells, AV.one]
theorem KP {g o : Nat} : Bk none (.ptr g o) = True := by simp [Bk, AV.fits, ones, AV.cells, AV.one]
theorem KQ : Bk none .np = True := by simp [Bk, AV.fits, ones, AV.cells, AV.one]
theorem JW {x : AV} : Bk none (.ref x) = True := by simp [Bk, AV.fits, ones, AV.cells, AV.one]
theorem KR {f : Nat} {a b : List AV} : Bk none (.fn f a b) = True := by simp [Bk, AV.fits, ones, AV.cells, AV.one]
theorem KN : Bk none .nfn = True := by simp [Bk, AV.fits, ones, AV.cells, AV.one]
theorem Kl {t : Nat} {v : AV} : Bk none (.ifc t v) = True := by simp [Bk, AV.fits, ones, AV.cells, AV.one]
theorem Jr : Bk none .nif = True := by simp [Bk, AV.fits, ones, AV.cells, AV.one]
theorem JY {s : Nat} {cs : List AV} : Bk (some s) (.agg cs) = (cs.length = s ∧ ones cs) := by simp [Bk, AV.fits, AV.cells]
def YP (sh : BE) (d : Option Nat) (K : AS → Prop) (e : AL) (n : Nat) (H : A4) (v : AV) (g o : Nat) : Option AObj → Prop
 | some (.cells t cs) => Bk sh v ∧ o + v.cells.length ≤ cs.length ∧ K ⟨AG e d .any, n, upd H g (some (.cells t (splice cs o v.cells)))⟩
 | some (.grow t cs) => Bk sh v ∧ o + v.cells.length ≤ cs.length ∧ K ⟨AG e d .any, n, upd H g (some (.grow t (splice cs o v.cells)))⟩
 | _ => False
theorem Ih {sh : BE} {d : Option Nat} {K : AS → Prop} {e : AL} {n : Nat} {H : A4} {v : AV} {g o : Nat} : Cc sh d K ⟨e, n, H⟩ v (.ptr g o) = YP sh d K e n H v g o (H g) := by
 show (match H g with | some (.cells e' cs) => _ | some (.grow e' cs) => _ | _ => False) = _
 cases H g with
 | none => rfl
 | some ob => cases ob with
  | cells t cs => exact propext and_assoc.symm
  | grow t cs => exact propext and_assoc.symm
  | _ => rfl
theorem Jb {sh : BE} {d : Option Nat} {K : AS → Prop} {e : AL} {n : Nat} {H : A4} {v : AV} {g o : Nat} {t : TypeId} {cs : List AV} : YP sh d K e n H v g o (some (.cells t cs)) = (Bk sh v ∧ o + v.cells.length ≤ cs.length ∧ K ⟨AG e d .any, n, upd H g (some (.cells t (splice cs o v.cells)))⟩) := rfl
theorem KU {sh : BE} {d : Option Nat} {K : AS → Prop} {e : AL} {n : Nat} {H : A4} {v : AV} {g o : Nat} {t : TypeId} {cs : List AV} : YP sh d K e n H v g o (some (.grow t cs)) = (Bk sh v ∧ o + v.cells.length ≤ cs.length ∧ K ⟨AG e d .any, n, upd H g (some (.grow t (splice cs o v.cells)))⟩) := rfl
theorem Kn {z g m : Nat} : Qx (.slg z g m) = some (.int .i64 m) := rfl
theorem Kg {sz z g m : Nat} {s : BE} {k : IntKind} {j : Int} : CZ sz s (.slg z g m) (.int k j) = if z = sz ∧ 0 ≤ j ∧ j < m then some (.ptr g (j.toNat * sz)) else none := rfl
theorem Jf {z g o m : Nat} : Qx (.slm z g o m) = some (.int .i64 m) := rfl
theorem JV {sz z g o m : Nat} {s : BE} {k : IntKind} {j : Int} : CZ sz s (.slm z g o m) (.int k j) = if z = sz ∧ 0 ≤ j ∧ j < m then some (.ptr g (o + j.toNat * sz)) else none := rfl
theorem KK : AQ [] = [] := rfl
theorem Jh {x : AV} {l : List AV} : AQ (x :: l) = x.cells ++ AQ l := rfl
theorem KZ {z : Nat} {l : List AV} {t : Tok} : Qx (.sl z l t) = some (.int .i64 l.length) := rfl
theorem KB {sz z : Nat} {s : BE} {l : List AV} {t : Tok} {k : IntKind} {j : Int} : CZ sz s (.sl z l t) (.int k j) = if z = sz ∧ 0 ≤ j then (match l[j.toNat]? with | some y => if y.fits s then some (.ref y) else none | none => none) else none := rfl
theorem Ir {sz z : Nat} {l : List AV} {t : Tok} {lo hi : Option AV} : G6 sz (.sl z l t) lo hi = if z = sz ∨ l = [] then (Dy lo hi l.length).map fun (a, b) => .sl sz ((l.take b).drop a) .ro else none := rfl
theorem KI {sz z g n : Nat} {lo hi : Option AV} : G6 sz (.slg z g n) lo hi = if z = sz then (Dy lo hi n).bind fun (a, b) => if a = 0 then some (.slg sz g b) else none else none := rfl
def We (ob : AObj) (d : Option Nat) (K : AS → Prop) (e : AL) (n : Nat) (H : A4) : Prop := ∀ g, n ≤ g → K ⟨AG e d (.ptr g 0), g + 1, upd H g (some ob)⟩
def U6 (sz : Nat) (l : List AV) (ob : AObj) (d : Option Nat) (K : AS → Prop) (e : AL) (n : Nat) (H : A4) : Prop := ∀ g, n ≤ g → K ⟨AG e d (.sl sz l (.own g)), g + 1, upd H g (some ob)⟩
def KS (o : Option AV) (d : Option Nat) (K : AS → Prop) (e : AL) (n : Nat) (H : A4) : Prop :=
 match o with
 | some v => K ⟨AG e d v, n, H⟩
 | none => False
theorem Jl {v : AV} {d : Option Nat} {K : AS → Prop} {e : AL} {n : Nat} {H : A4} : KS (some v) d K e n H = K ⟨AG e d v, n, H⟩ := rfl
theorem Ko {d : Option Nat} {K : AS → Prop} {e : AL} {n : Nat} {H : A4} : KS none d K e n H = False := rfl
section
variable {P : Program} {e : AL} {n : Nat} {H : A4} {Q : AExit → AS → Prop} {K : AS → Prop}
theorem Iz : aw P .skip Q ⟨e, n, H⟩ = Q .normal ⟨e, n, H⟩ := rfl
theorem E8 {ops : List AOper} : aw P (.reg ops) Q ⟨e, n, H⟩ = awOps P ops (Q .normal) ⟨e, n, H⟩ := rfl
theorem E9 {a b : ACode} : aw P (.seq a b) Q ⟨e, n, H⟩ = aw P a (E4 (aw P b Q) Q) ⟨e, n, H⟩ := rfl
theorem JB {c : Opd} {a b : ACode} : aw P (.cond c a b) Q ⟨e, n, H⟩ = E5 (aw P a Q ⟨e, n, H⟩) (aw P b Q ⟨e, n, H⟩) (ev e c) := rfl
theorem Kv {id : Nat} {c : ACode} : aw P (.block id c) Q ⟨e, n, H⟩ = aw P c (EY id Q) ⟨e, n, H⟩ := rfl
theorem JT {c : ACode} : aw P (.loop c) Q ⟨e, n, H⟩ = LoopK (fun Q s => aw P c Q s) Q ⟨e, n, H⟩ := rfl
theorem Jv {id : Nat} : aw P (.exit id) Q ⟨e, n, H⟩ = Q (.exit id) ⟨e, n, H⟩ := rfl
theorem EA : aw P .ret Q ⟨e, n, H⟩ = Q .ret ⟨e, n, H⟩ := rfl
theorem E7 : aw P .bad Q ⟨e, n, H⟩ = False := rfl
theorem Ff {ks : List Nat} {c : ACode} : aw P (.kp ks c) Q ⟨e, n, H⟩ = aw P c Q ⟨DQ e ks, n, H⟩ := rfl
theorem GB {ks : List Nat} {c : ACode} : aw P (.ke ks c) Q ⟨e, n, H⟩ = aw P c (Lh ks Q) ⟨e, n, H⟩ := rfl
theorem Jc {ks : List Nat} : Lh ks Q .normal ⟨e, n, H⟩ = Q .normal ⟨DQ e ks, n, H⟩ := rfl
theorem Ip {ks : List Nat} {i : Nat} {s : AS} : Lh ks Q (.exit i) s = Q (.exit i) s := rfl
theorem JS {ks : List Nat} {s : AS} : Lh ks Q .ret s = Q .ret s := rfl
theorem Jt {l : List Seg} : aw P (.segs l) Q ⟨e, n, H⟩ = AZ P l (Q .normal) ⟨e, n, H⟩ := rfl
theorem Iw : AZ P [] K ⟨e, n, H⟩ = K ⟨e, n, H⟩ := rfl
def Xg (o : Option AV) (d : Nat) (ops : List AOper) (K : AS → Prop) (e : AL) (n : Nat) (H : A4) : Prop :=
 match o with
 | some v => K ⟨put (EN e ops) d v, n, H⟩
 | none => False
theorem KH {v : AV} {d : Nat} {ops : List AOper} {K : AS → Prop} {e : AL} {n : Nat} {H : A4} : Xg (some v) d ops K e n H = K ⟨put (EN e ops) d v, n, H⟩ := rfl
theorem Io {d : Nat} {ops : List AOper} {K : AS → Prop} {e : AL} {n : Nat} {H : A4} : Xg none d ops K e n H = False := rfl
theorem IS {t d x : Nat} {want : Bool} {ops : List AOper} {l : List Seg} : AZ P (⟨some (t, want), ops, some (d, x)⟩ :: l) K ⟨e, n, H⟩ = Xg (Pa want x (get e t) (Ct ops e H)) d ops (AZ P l K) e n H := rfl
def evS (o : Option AV) (d : Option Nat) (os : List AOper) (e : AL) (H : A4) : Option AL :=
 match o with
 | some v => Ct os (AG e d v) H
 | none => none
theorem JH {v : AV} {d : Option Nat} {os : List AOper} {H : A4} : evS (some v) d os e H = Ct os (AG e d v) H := rfl
theorem JF {d : Option Nat} {os : List AOper} {H : A4} : evS none d os e H = none := rfl
theorem JE {H : A4} : Ct [] e H = some e := rfl
theorem Ix {d : Option Nat} {op : AOp} {g : Option (Nat × Bool)} {os : List AOper} {H : A4} : Ct (⟨d, op, g⟩ :: os) e H = evS (pe op e H) d os e H := rfl
theorem Ho {ops : List AOper} {l : List Seg} {p : Option (Nat × Nat)} : AZ P (⟨none, ops, p⟩ :: l) K ⟨e, n, H⟩ = awOps P ops (AZ P l K) ⟨e, n, H⟩ := rfl
theorem M4 {v : AV} (hv : v ≠ .any) : ∀ {e : AL} {t : Nat}, get e t = v → Dz e t v = e
 | [], t, h => absurd h.symm hv
 | (k, u) :: r, t, h => by
  simp only [get] at h
  simp only [Dz]
  split
  ·rename_i hk; rw [if_pos hk] at h; rw [h, hk]
  ·rename_i hk; rw [if_neg hk] at h; rw [M4 hv h]
def DY (want : Bool) (A B C : Prop) : AV → Prop
 | .bool b => (b = want → A) ∧ (b ≠ want → B)
 | .und => C
 | _ => False
theorem I0 {t : Nat} {want : Bool} {ops : List AOper} {l : List Seg} : AZ P (⟨some (t, want), ops, none⟩ :: l) K ⟨e, n, H⟩ = DY want (awOps P ops (AZ P l K) ⟨Dz e t (.bool want), n, H⟩) (AZ P l K ⟨EV (Dz e t (.bool (!want))) ops, n, H⟩) (AZ P l K ⟨EV e ops, n, H⟩) (get e t) := by
 show guardK want _ (AZ P l K ⟨EV e ops, n, H⟩) _ = _
 generalize hg : get e t = v
 cases v <;> try rfl
 rename_i b
 simp only [guardK, DY, eq_iff_iff]
 by_cases hb : b = want
 ·subst hb
  rw [M4 (by simp) hg]
  simp
 ·have hb' : b = !want := by cases b <;> cases want <;> simp_all
  subst hb'
  rw [M4 (by simp) hg]
  simp
theorem Kd : awOps P [] K ⟨e, n, H⟩ = K ⟨e, n, H⟩ := rfl
theorem J9 {d : Option Nat} {op : AOp} {os : List AOper} : awOps P (⟨d, op, none⟩ :: os) K ⟨e, n, H⟩ = AK P d op (awOps P os K) ⟨e, n, H⟩ := rfl
theorem Jz {m : Mode} {S : List Nat} {ops : List AOper} : aw P (.regD m S ops) Q ⟨e, n, H⟩ = gsK P m (P7 e S) ops (Q .normal) ⟨e, n, H⟩ := rfl
theorem KY {m : Mode} {gs : List Nat} {ops : List AOper} {s : AS} : gsK P m (some gs) ops K s = Yu P m gs ops K s := rfl
theorem A2 {m : Mode} {gs : List Nat} {ops : List AOper} (h : A7 P m n gs ops K ⟨e, n, H⟩) : Yu P m gs ops K ⟨e, n, H⟩ := ⟨[], Gg h fun _ h => .of h⟩
theorem JU : P7 e [] = some [] := rfl
theorem Ie {t : Nat} {ts : List Nat} : P7 e (t :: ts) = Zo (get e t) (P7 e ts) := rfl
theorem JR {g o : Nat} {gs : List Nat} : Zo (.ptr g o) (some gs) = some (g :: gs) := rfl
def Pn (ob : AObj) (d : Option Nat) (K : AS → Prop) (e : AL) (n : Nat) (H : A4) : Prop := ∀ g, n ≤ g → H g = none → K ⟨AG e d (.ptr g 0), g + 1, upd H g (some ob)⟩
theorem A3 {ob : AObj} {d : Option Nat} {H : A4} (h : We ob d K e n H) : Pn ob d K e n H := fun g hg _ => h g hg
def Sc (sz : Nat) (l : List AV) (ob : AObj) (d : Option Nat) (K : AS → Prop) (e : AL) (n : Nat) (H : A4) : Prop := ∀ g, n ≤ g → H g = none → K ⟨AG e d (.sl sz l (.own g)), g + 1, upd H g (some ob)⟩
theorem AI {sz : Nat} {l : List AV} {ob : AObj} {d : Option Nat} {H : A4} (h : U6 sz l ob d K e n H) : Sc sz l ob d K e n H := fun g hg _ => h g hg
theorem Ju {md : Mode} {lw : Nat} {gs : List Nat} : A7 P md lw gs [] K ⟨e, n, H⟩ = K ⟨e, n, H⟩ := rfl
theorem KJ {md : Mode} {lw : Nat} {gs : List Nat} {d : Option Nat} {sh : BE} {x : Opd} {os : List AOper} : A7 P md lw gs (⟨d, .load sh x, none⟩ :: os) K ⟨e, n, H⟩ = KS (B0 (Aa gs (hM md H)) sh (ev e x)) d (A7 P md lw gs os K) e n H := rfl
def OL (md : Mode) (lo : Nat) (ob : AObj) (d : Option Nat) (K : AS → Prop) (e : AL) (n : Nat) (H : A4) : Prop := newK md lo ⟨e, n, H⟩ fun g n' => K ⟨AG e d (.ptr g 0), n', upd H g (some ob)⟩
def Ob (md : Mode) (lo : Nat) (sz : Nat) (l : List AV) (ob : AObj) (d : Option Nat) (K : AS → Prop) (e : AL) (n : Nat) (H : A4) : Prop := newK md lo ⟨e, n, H⟩ fun g n' => K ⟨AG e d (.sl sz l (.own g)), n', upd H g (some ob)⟩
theorem K9 {lo : Nat} {ob : AObj} {d : Option Nat} {H : A4} : OL .plain lo ob d K e n H = Pn ob d K e n H := rfl
theorem Id {lo : Nat} {ob : AObj} {d : Option Nat} {H : A4} : OL .late lo ob d K e n H = Pn ob d K e n H := rfl
theorem KE {q lo : Nat} {ob : AObj} {d : Option Nat} {H : A4} : OL (.last q) lo ob d K e n H = Pn ob d K e n H := rfl
theorem Ii {lo : Nat} {sz : Nat} {l : List AV} {ob : AObj} {d : Option Nat} {H : A4} : Ob .plain lo sz l ob d K e n H = Sc sz l ob d K e n H := rfl
theorem KT {lo : Nat} {sz : Nat} {l : List AV} {ob : AObj} {d : Option Nat} {H : A4} : Ob .late lo sz l ob d K e n H = Sc sz l ob d K e n H := rfl
theorem JG {q lo : Nat} {sz : Nat} {l : List AV} {ob : AObj} {d : Option Nat} {H : A4} : Ob (.last q) lo sz l ob d K e n H = Sc sz l ob d K e n H := rfl
theorem Kj {H : A4} : hM .plain H = H := rfl
theorem Im {H : A4} : hM .late H = H := rfl
theorem K4 {q : Nat} {H : A4} : hM (.last q) H = H := rfl
theorem Jg {H : A4} : hM .free H = H := rfl
theorem JK {H : A4} : hM .early H = H := rfl
theorem Ka {H : A4} : hM .refs H = fun _ => none := rfl
theorem Kh {lo : Nat} {ob : AObj} {d : Option Nat} {H : A4} : OL .early lo ob d K e n H = Pn ob d K e n H := rfl
theorem Lx {lo : Nat} {sz : Nat} {l : List AV} {ob : AObj} {d : Option Nat} {H : A4} (hlo : lo ≤ n) (hex : FreeH H) (h : ∀ g n', lo ≤ g → H g = none → n ≤ n' → g < n' → K ⟨AG e d (.sl sz l (.own g)), n', upd H g (some ob)⟩) : Ob .free lo sz l ob d K e n H := ⟨hlo, hex, h⟩
theorem Rb {lo : Nat} {sz : Nat} {l : List AV} {ob : AObj} {d : Option Nat} {H : A4} (hlo : lo ≤ n) (hex : FreeH H) (h : ∀ g n', lo ≤ g → H g = none → n ≤ n' → g < n' → K ⟨AG e d (.sl sz l (.own g)), n', upd H g (some ob)⟩) : Ob .copy lo sz l ob d K e n H := ⟨hlo, hex, h⟩
theorem Wb {H : A4} : hM .copy H = H := rfl
theorem Il {md : Mode} {lw : Nat} {gs : List Nat} {d : Option Nat} {t : TypeId} {z : List AV} {os : List AOper} : A7 P md lw gs (⟨d, .alloc t z, none⟩ :: os) K ⟨e, n, H⟩ = (ones z ∧ OL md lw (.cells t z) d (A7 P md lw gs os K) e n H) := rfl
theorem JZ {md : Mode} {lw : Nat} {gs : List Nat} {d : Option Nat} {sh : BE} {x v : Opd} {os : List AOper} : A7 P md lw gs (⟨d, .store sh x v, none⟩ :: os) K ⟨e, n, H⟩ = (HH md lw gs x (ev e x) ∧ Cc sh d (A7 P md lw gs os K) ⟨e, n, H⟩ (ev e v) (ev e x)) := rfl
theorem FJ {md : Mode} {lw : Nat} {gs : List Nat} {t : Nat} {want : Bool} {d : Option Nat} {x : Opd} {os : List AOper} : A7 P md lw gs (⟨d, .mv x, some (t, want)⟩ :: os) K ⟨e, n, H⟩ = guardK want (AK P d (.mv x) (A7 P md lw gs os K) ⟨e, n, H⟩) (A7 P md lw gs os K ⟨AG e d .und, n, H⟩) (get e t) := by
 show (match get e t with | .bool b => _ | .und => _ | _ => False) = _
 cases get e t <;> rfl
theorem Mm {md : Mode} {lw : Nat} {gs : List Nat} {t : Nat} {want : Bool} {d : Option Nat} {op : BinOp} {x y : Opd} {os : List AOper} : A7 P md lw gs (⟨d, .bin op x y, some (t, want)⟩ :: os) K ⟨e, n, H⟩ = guardK want (AK P d (.bin op x y) (A7 P md lw gs os K) ⟨e, n, H⟩) (A7 P md lw gs os K ⟨AG e d .und, n, H⟩) (get e t) := by
 show (match get e t with | .bool b => _ | .und => _ | _ => False) = _
 cases get e t <;> rfl
theorem MP {md : Mode} {lw : Nat} {gs : List Nat} {t : Nat} {want : Bool} {d : Option Nat} {ks : List FK} {neg : Bool} {x y : Opd} {os : List AOper} : A7 P md lw gs (⟨d, .eqs ks neg x y, some (t, want)⟩ :: os) K ⟨e, n, H⟩ = guardK want (AK P d (.eqs ks neg x y) (A7 P md lw gs os K) ⟨e, n, H⟩) (A7 P md lw gs os K ⟨AG e d .und, n, H⟩) (get e t) := by
 show (match get e t with | .bool b => _ | .und => _ | _ => False) = _
 cases get e t <;> rfl
theorem MS {md : Mode} {lw : Nat} {gs : List Nat} {t : Nat} {want : Bool} {d : Option Nat} {neg : Bool} {x y : Opd} {os : List AOper} : A7 P md lw gs (⟨d, .eqb neg x y, some (t, want)⟩ :: os) K ⟨e, n, H⟩ = guardK want (AK P d (.eqb neg x y) (A7 P md lw gs os K) ⟨e, n, H⟩) (A7 P md lw gs os K ⟨AG e d .und, n, H⟩) (get e t) := by
 show (match get e t with | .bool b => _ | .und => _ | _ => False) = _
 cases get e t <;> rfl
theorem Mx {md : Mode} {lw : Nat} {gs : List Nat} {t : Nat} {want : Bool} {d : Option Nat} {neg : Bool} {x : Opd} {os : List AOper} : A7 P md lw gs (⟨d, .eqn neg x, some (t, want)⟩ :: os) K ⟨e, n, H⟩ = guardK want (AK P d (.eqn neg x) (A7 P md lw gs os K) ⟨e, n, H⟩) (A7 P md lw gs os K ⟨AG e d .und, n, H⟩) (get e t) := by
 show (match get e t with | .bool b => _ | .und => _ | _ => False) = _
 cases get e t <;> rfl
theorem Mj {md : Mode} {lw : Nat} {gs : List Nat} {t : Nat} {want : Bool} {d : Option Nat} {neg : Bool} {x : Opd} {os : List AOper} : A7 P md lw gs (⟨d, .eqp neg x, some (t, want)⟩ :: os) K ⟨e, n, H⟩ = guardK want (AK P d (.eqp neg x) (A7 P md lw gs os K) ⟨e, n, H⟩) (A7 P md lw gs os K ⟨AG e d .und, n, H⟩) (get e t) := by
 show (match get e t with | .bool b => _ | .und => _ | _ => False) = _
 cases get e t <;> rfl
theorem Nv {md : Mode} {lw : Nat} {gs : List Nat} {t : Nat} {want : Bool} {d : Option Nat} {neg : Bool} {x : Opd} {os : List AOper} : A7 P md lw gs (⟨d, .eqi neg x, some (t, want)⟩ :: os) K ⟨e, n, H⟩ = guardK want (AK P d (.eqi neg x) (A7 P md lw gs os K) ⟨e, n, H⟩) (A7 P md lw gs os K ⟨AG e d .und, n, H⟩) (get e t) := by
 show (match get e t with | .bool b => _ | .und => _ | _ => False) = _
 cases get e t <;> rfl
theorem Ny {md : Mode} {lw : Nat} {gs : List Nat} {t : Nat} {want : Bool} {d : Option Nat} {x : Opd} {os : List AOper} : A7 P md lw gs (⟨d, .neg x, some (t, want)⟩ :: os) K ⟨e, n, H⟩ = guardK want (AK P d (.neg x) (A7 P md lw gs os K) ⟨e, n, H⟩) (A7 P md lw gs os K ⟨AG e d .und, n, H⟩) (get e t) := by
 show (match get e t with | .bool b => _ | .und => _ | _ => False) = _
 cases get e t <;> rfl
theorem NZ {md : Mode} {lw : Nat} {gs : List Nat} {t : Nat} {want : Bool} {d : Option Nat} {x : Opd} {os : List AOper} : A7 P md lw gs (⟨d, .not x, some (t, want)⟩ :: os) K ⟨e, n, H⟩ = guardK want (AK P d (.not x) (A7 P md lw gs os K) ⟨e, n, H⟩) (A7 P md lw gs os K ⟨AG e d .und, n, H⟩) (get e t) := by
 show (match get e t with | .bool b => _ | .und => _ | _ => False) = _
 cases get e t <;> rfl
theorem Mr {md : Mode} {lw : Nat} {gs : List Nat} {t : Nat} {want : Bool} {d : Option Nat} {k : IntKind} {x : Opd} {os : List AOper} : A7 P md lw gs (⟨d, .cvi k x, some (t, want)⟩ :: os) K ⟨e, n, H⟩ = guardK want (AK P d (.cvi k x) (A7 P md lw gs os K) ⟨e, n, H⟩) (A7 P md lw gs os K ⟨AG e d .und, n, H⟩) (get e t) := by
 show (match get e t with | .bool b => _ | .und => _ | _ => False) = _
 cases get e t <;> rfl
theorem Mq {md : Mode} {lw : Nat} {gs : List Nat} {t : Nat} {want : Bool} {d : Option Nat} {sz : Nat} {x : Opd} {lo hi : Option Opd} {os : List AOper} : A7 P md lw gs (⟨d, .cut sz x lo hi, some (t, want)⟩ :: os) K ⟨e, n, H⟩ = guardK want (AK P d (.cut sz x lo hi) (A7 P md lw gs os K) ⟨e, n, H⟩) (A7 P md lw gs os K ⟨AG e d .und, n, H⟩) (get e t) := by
 show (match get e t with | .bool b => _ | .und => _ | _ => False) = _
 cases get e t <;> rfl
theorem Ml {md : Mode} {lw : Nat} {gs : List Nat} {t : Nat} {want : Bool} {d : Option Nat} {x : Opd} {lo hi : Option Opd} {os : List AOper} : A7 P md lw gs (⟨d, .cutS x lo hi, some (t, want)⟩ :: os) K ⟨e, n, H⟩ = guardK want (AK P d (.cutS x lo hi) (A7 P md lw gs os K) ⟨e, n, H⟩) (A7 P md lw gs os K ⟨AG e d .und, n, H⟩) (get e t) := by
 show (match get e t with | .bool b => _ | .und => _ | _ => False) = _
 cases get e t <;> rfl
theorem Nr {md : Mode} {lw : Nat} {gs : List Nat} {t : Nat} {want : Bool} {d : Option Nat} {x : Opd} {off : Nat} {s : BE} {os : List AOper} : A7 P md lw gs (⟨d, .faddr x off s, some (t, want)⟩ :: os) K ⟨e, n, H⟩ = guardK want (AK P d (.faddr x off s) (A7 P md lw gs os K) ⟨e, n, H⟩) (A7 P md lw gs os K ⟨AG e d .und, n, H⟩) (get e t) := by
 show (match get e t with | .bool b => _ | .und => _ | _ => False) = _
 cases get e t <;> rfl
theorem MM {md : Mode} {lw : Nat} {gs : List Nat} {t : Nat} {want : Bool} {d : Option Nat} {x : Opd} {off : Nat} {s : BE} {os : List AOper} : A7 P md lw gs (⟨d, .field x off s, some (t, want)⟩ :: os) K ⟨e, n, H⟩ = guardK want (AK P d (.field x off s) (A7 P md lw gs os K) ⟨e, n, H⟩) (A7 P md lw gs os K ⟨AG e d .und, n, H⟩) (get e t) := by
 show (match get e t with | .bool b => _ | .und => _ | _ => False) = _
 cases get e t <;> rfl
theorem No {md : Mode} {lw : Nat} {gs : List Nat} {t : Nat} {want : Bool} {d : Option Nat} {sz : Nat} {s : BE} {x i : Opd} {os : List AOper} : A7 P md lw gs (⟨d, .iaddr sz s x i, some (t, want)⟩ :: os) K ⟨e, n, H⟩ = guardK want (AK P d (.iaddr sz s x i) (A7 P md lw gs os K) ⟨e, n, H⟩) (A7 P md lw gs os K ⟨AG e d .und, n, H⟩) (get e t) := by
 show (match get e t with | .bool b => _ | .und => _ | _ => False) = _
 cases get e t <;> rfl
theorem Mz {md : Mode} {lw : Nat} {gs : List Nat} {t : Nat} {want : Bool} {d : Option Nat} {len sz : Nat} {s : BE} {x i : Opd} {os : List AOper} : A7 P md lw gs (⟨d, .aaddr len sz s x i, some (t, want)⟩ :: os) K ⟨e, n, H⟩ = guardK want (AK P d (.aaddr len sz s x i) (A7 P md lw gs os K) ⟨e, n, H⟩) (A7 P md lw gs os K ⟨AG e d .und, n, H⟩) (get e t) := by
 show (match get e t with | .bool b => _ | .und => _ | _ => False) = _
 cases get e t <;> rfl
theorem NL {md : Mode} {lw : Nat} {gs : List Nat} {t : Nat} {want : Bool} {d : Option Nat} {x i : Opd} {os : List AOper} : A7 P md lw gs (⟨d, .sidx x i, some (t, want)⟩ :: os) K ⟨e, n, H⟩ = guardK want (AK P d (.sidx x i) (A7 P md lw gs os K) ⟨e, n, H⟩) (A7 P md lw gs os K ⟨AG e d .und, n, H⟩) (get e t) := by
 show (match get e t with | .bool b => _ | .und => _ | _ => False) = _
 cases get e t <;> rfl
theorem NX {md : Mode} {lw : Nat} {gs : List Nat} {t : Nat} {want : Bool} {d : Option Nat} {len sz : Nat} {s : BE} {x i : Opd} {os : List AOper} : A7 P md lw gs (⟨d, .aidx len sz s x i, some (t, want)⟩ :: os) K ⟨e, n, H⟩ = guardK want (AK P d (.aidx len sz s x i) (A7 P md lw gs os K) ⟨e, n, H⟩) (A7 P md lw gs os K ⟨AG e d .und, n, H⟩) (get e t) := by
 show (match get e t with | .bool b => _ | .und => _ | _ => False) = _
 cases get e t <;> rfl
theorem Mv {md : Mode} {lw : Nat} {gs : List Nat} {t : Nat} {want : Bool} {d : Option Nat} {x : Opd} {os : List AOper} : A7 P md lw gs (⟨d, .len x, some (t, want)⟩ :: os) K ⟨e, n, H⟩ = guardK want (AK P d (.len x) (A7 P md lw gs os K) ⟨e, n, H⟩) (A7 P md lw gs os K ⟨AG e d .und, n, H⟩) (get e t) := by
 show (match get e t with | .bool b => _ | .und => _ | _ => False) = _
 cases get e t <;> rfl
theorem Mt {md : Mode} {lw : Nat} {gs : List Nat} {t : Nat} {want : Bool} {d : Option Nat} {x : Opd} {os : List AOper} : A7 P md lw gs (⟨d, .lenS x, some (t, want)⟩ :: os) K ⟨e, n, H⟩ = guardK want (AK P d (.lenS x) (A7 P md lw gs os K) ⟨e, n, H⟩) (A7 P md lw gs os K ⟨AG e d .und, n, H⟩) (get e t) := by
 show (match get e t with | .bool b => _ | .und => _ | _ => False) = _
 cases get e t <;> rfl
theorem NB {md : Mode} {lw : Nat} {gs : List Nat} {t : Nat} {want : Bool} {d : Option Nat} {x : Opd} {i : Nat} {os : List AOper} : A7 P md lw gs (⟨d, .extr x i, some (t, want)⟩ :: os) K ⟨e, n, H⟩ = guardK want (AK P d (.extr x i) (A7 P md lw gs os K) ⟨e, n, H⟩) (A7 P md lw gs os K ⟨AG e d .und, n, H⟩) (get e t) := by
 show (match get e t with | .bool b => _ | .und => _ | _ => False) = _
 cases get e t <;> rfl
theorem NV {md : Mode} {lw : Nat} {gs : List Nat} {t : Nat} {want : Bool} {d : Option Nat} {z : List AV} {ps : List (Nat × BE × Opd)} {os : List AOper} : A7 P md lw gs (⟨d, .build z ps, some (t, want)⟩ :: os) K ⟨e, n, H⟩ = guardK want (AK P d (.build z ps) (A7 P md lw gs os K) ⟨e, n, H⟩) (A7 P md lw gs os K ⟨AG e d .und, n, H⟩) (get e t) := by
 show (match get e t with | .bool b => _ | .und => _ | _ => False) = _
 cases get e t <;> rfl
theorem FS {md : Mode} {lw : Nat} {gs : List Nat} {t : Nat} {want : Bool} {d : Option Nat} {mx : Bool} {x y : Opd} {os : List AOper} : A7 P md lw gs (⟨d, .mm mx x y, some (t, want)⟩ :: os) K ⟨e, n, H⟩ = guardK want (AK P d (.mm mx x y) (A7 P md lw gs os K) ⟨e, n, H⟩) (A7 P md lw gs os K ⟨AG e d .und, n, H⟩) (get e t) := by
 show (match get e t with | .bool b => _ | .und => _ | _ => False) = _
 cases get e t <;> rfl
theorem N6 {md : Mode} {lw : Nat} {gs : List Nat} {t : Nat} {want : Bool} {d : Option Nat} {sh : BE} {x : Opd} {os : List AOper} : A7 P md lw gs (⟨d, .load sh x, some (t, want)⟩ :: os) K ⟨e, n, H⟩ = guardK want (KS (B0 (Aa gs (hM md H)) sh (ev e x)) d (A7 P md lw gs os K) e n H) (A7 P md lw gs os K ⟨AG e d .und, n, H⟩) (get e t) := by
 show K1 (LK gs sh x (some (t, want)) e (hM md H)) _ = _
 unfold LK
 simp only
 cases get e t <;> try rfl
 rename_i b
 simp only [guardK, eq_iff_iff]
 by_cases hb : b = want
 ·rw [if_pos hb]
  exact ⟨fun h => ⟨fun _ => h, fun hne => absurd hb hne⟩, fun h => h.1 hb⟩
 ·rw [if_neg hb]
  exact ⟨fun h => ⟨fun he => absurd he hb, fun _ => h⟩, fun h => h.2 hb⟩
theorem FG {md : Mode} {lw : Nat} {gs : List Nat} {d : Option Nat} {x : Opd} {os : List AOper} : A7 P md lw gs (⟨d, .mv x, none⟩ :: os) K ⟨e, n, H⟩ = AK P d (.mv x) (A7 P md lw gs os K) ⟨e, n, H⟩ := rfl
theorem My {md : Mode} {lw : Nat} {gs : List Nat} {d : Option Nat} {c a b : Opd} {os : List AOper} : A7 P md lw gs (⟨d, .pick c a b, none⟩ :: os) K ⟨e, n, H⟩ = AK P d (.pick c a b) (A7 P md lw gs os K) ⟨e, n, H⟩ := rfl
theorem Np {md : Mode} {lw : Nat} {gs : List Nat} {d : Option Nat} {op : BinOp} {x y : Opd} {os : List AOper} : A7 P md lw gs (⟨d, .bin op x y, none⟩ :: os) K ⟨e, n, H⟩ = AK P d (.bin op x y) (A7 P md lw gs os K) ⟨e, n, H⟩ := rfl
theorem Na {md : Mode} {lw : Nat} {gs : List Nat} {d : Option Nat} {ks : List FK} {neg : Bool} {x y : Opd} {os : List AOper} : A7 P md lw gs (⟨d, .eqs ks neg x y, none⟩ :: os) K ⟨e, n, H⟩ = AK P d (.eqs ks neg x y) (A7 P md lw gs os K) ⟨e, n, H⟩ := rfl
theorem Mp {md : Mode} {lw : Nat} {gs : List Nat} {d : Option Nat} {neg : Bool} {x y : Opd} {os : List AOper} : A7 P md lw gs (⟨d, .eqb neg x y, none⟩ :: os) K ⟨e, n, H⟩ = AK P d (.eqb neg x y) (A7 P md lw gs os K) ⟨e, n, H⟩ := rfl
theorem Ms {md : Mode} {lw : Nat} {gs : List Nat} {d : Option Nat} {neg : Bool} {x : Opd} {os : List AOper} : A7 P md lw gs (⟨d, .eqn neg x, none⟩ :: os) K ⟨e, n, H⟩ = AK P d (.eqn neg x) (A7 P md lw gs os K) ⟨e, n, H⟩ := rfl
theorem Mo {md : Mode} {lw : Nat} {gs : List Nat} {d : Option Nat} {neg : Bool} {x : Opd} {os : List AOper} : A7 P md lw gs (⟨d, .eqp neg x, none⟩ :: os) K ⟨e, n, H⟩ = AK P d (.eqp neg x) (A7 P md lw gs os K) ⟨e, n, H⟩ := rfl
theorem Mc {md : Mode} {lw : Nat} {gs : List Nat} {d : Option Nat} {neg : Bool} {x : Opd} {os : List AOper} : A7 P md lw gs (⟨d, .eqi neg x, none⟩ :: os) K ⟨e, n, H⟩ = AK P d (.eqi neg x) (A7 P md lw gs os K) ⟨e, n, H⟩ := rfl
theorem Nn {md : Mode} {lw : Nat} {gs : List Nat} {d : Option Nat} {x : Opd} {os : List AOper} : A7 P md lw gs (⟨d, .neg x, none⟩ :: os) K ⟨e, n, H⟩ = AK P d (.neg x) (A7 P md lw gs os K) ⟨e, n, H⟩ := rfl
theorem N7 {md : Mode} {lw : Nat} {gs : List Nat} {d : Option Nat} {x : Opd} {os : List AOper} : A7 P md lw gs (⟨d, .not x, none⟩ :: os) K ⟨e, n, H⟩ = AK P d (.not x) (A7 P md lw gs os K) ⟨e, n, H⟩ := rfl
theorem Mb {md : Mode} {lw : Nat} {gs : List Nat} {d : Option Nat} {k : IntKind} {x : Opd} {os : List AOper} : A7 P md lw gs (⟨d, .cvi k x, none⟩ :: os) K ⟨e, n, H⟩ = AK P d (.cvi k x) (A7 P md lw gs os K) ⟨e, n, H⟩ := rfl
theorem NJ {md : Mode} {lw : Nat} {gs : List Nat} {d : Option Nat} {f : Nat} {fst cap : List Opd} {os : List AOper} : A7 P md lw gs (⟨d, .mkfn f fst cap, none⟩ :: os) K ⟨e, n, H⟩ = AK P d (.mkfn f fst cap) (A7 P md lw gs os K) ⟨e, n, H⟩ := rfl
theorem MW {md : Mode} {lw : Nat} {gs : List Nat} {d : Option Nat} {sz : Nat} {x : Opd} {lo hi : Option Opd} {os : List AOper} : A7 P md lw gs (⟨d, .cut sz x lo hi, none⟩ :: os) K ⟨e, n, H⟩ = AK P d (.cut sz x lo hi) (A7 P md lw gs os K) ⟨e, n, H⟩ := rfl
theorem MU {md : Mode} {lw : Nat} {gs : List Nat} {d : Option Nat} {x : Opd} {lo hi : Option Opd} {os : List AOper} : A7 P md lw gs (⟨d, .cutS x lo hi, none⟩ :: os) K ⟨e, n, H⟩ = AK P d (.cutS x lo hi) (A7 P md lw gs os K) ⟨e, n, H⟩ := rfl
theorem Mf {md : Mode} {lw : Nat} {gs : List Nat} {d : Option Nat} {x : Opd} {off : Nat} {s : BE} {os : List AOper} : A7 P md lw gs (⟨d, .faddr x off s, none⟩ :: os) K ⟨e, n, H⟩ = AK P d (.faddr x off s) (A7 P md lw gs os K) ⟨e, n, H⟩ := rfl
theorem NP {md : Mode} {lw : Nat} {gs : List Nat} {d : Option Nat} {x : Opd} {off : Nat} {s : BE} {os : List AOper} : A7 P md lw gs (⟨d, .field x off s, none⟩ :: os) K ⟨e, n, H⟩ = AK P d (.field x off s) (A7 P md lw gs os K) ⟨e, n, H⟩ := rfl
theorem O4 {md : Mode} {lw : Nat} {gs : List Nat} {d : Option Nat} {sz : Nat} {s : BE} {x i : Opd} {os : List AOper} : A7 P md lw gs (⟨d, .iaddr sz s x i, none⟩ :: os) K ⟨e, n, H⟩ = AK P d (.iaddr sz s x i) (A7 P md lw gs os K) ⟨e, n, H⟩ := rfl
theorem Mu {md : Mode} {lw : Nat} {gs : List Nat} {d : Option Nat} {len sz : Nat} {s : BE} {x i : Opd} {os : List AOper} : A7 P md lw gs (⟨d, .aaddr len sz s x i, none⟩ :: os) K ⟨e, n, H⟩ = AK P d (.aaddr len sz s x i) (A7 P md lw gs os K) ⟨e, n, H⟩ := rfl
theorem Nc {md : Mode} {lw : Nat} {gs : List Nat} {d : Option Nat} {x i : Opd} {os : List AOper} : A7 P md lw gs (⟨d, .sidx x i, none⟩ :: os) K ⟨e, n, H⟩ = AK P d (.sidx x i) (A7 P md lw gs os K) ⟨e, n, H⟩ := rfl
theorem Nm {md : Mode} {lw : Nat} {gs : List Nat} {d : Option Nat} {len sz : Nat} {s : BE} {x i : Opd} {os : List AOper} : A7 P md lw gs (⟨d, .aidx len sz s x i, none⟩ :: os) K ⟨e, n, H⟩ = AK P d (.aidx len sz s x i) (A7 P md lw gs os K) ⟨e, n, H⟩ := rfl
theorem NQ {md : Mode} {lw : Nat} {gs : List Nat} {d : Option Nat} {x : Opd} {os : List AOper} : A7 P md lw gs (⟨d, .len x, none⟩ :: os) K ⟨e, n, H⟩ = AK P d (.len x) (A7 P md lw gs os K) ⟨e, n, H⟩ := rfl
theorem NM {md : Mode} {lw : Nat} {gs : List Nat} {d : Option Nat} {x : Opd} {os : List AOper} : A7 P md lw gs (⟨d, .lenS x, none⟩ :: os) K ⟨e, n, H⟩ = AK P d (.lenS x) (A7 P md lw gs os K) ⟨e, n, H⟩ := rfl
theorem N3 {md : Mode} {lw : Nat} {gs : List Nat} {d : Option Nat} {j : Nat} {os : List AOper} : A7 P md lw gs (⟨d, .clen j, none⟩ :: os) K ⟨e, n, H⟩ = AK P d (.clen j) (A7 P md lw gs os K) ⟨e, n, H⟩ := rfl
theorem NC {md : Mode} {lw : Nat} {gs : List Nat} {d : Option Nat} {x : Opd} {i : Nat} {os : List AOper} : A7 P md lw gs (⟨d, .extr x i, none⟩ :: os) K ⟨e, n, H⟩ = AK P d (.extr x i) (A7 P md lw gs os K) ⟨e, n, H⟩ := rfl
theorem MV {md : Mode} {lw : Nat} {gs : List Nat} {d : Option Nat} {x : Opd} {os : List AOper} : A7 P md lw gs (⟨d, .nilck x, none⟩ :: os) K ⟨e, n, H⟩ = AK P d (.nilck x) (A7 P md lw gs os K) ⟨e, n, H⟩ := rfl
theorem N0 {md : Mode} {lw : Nat} {gs : List Nat} {d : Option Nat} {z : List AV} {ps : List (Nat × BE × Opd)} {os : List AOper} : A7 P md lw gs (⟨d, .build z ps, none⟩ :: os) K ⟨e, n, H⟩ = AK P d (.build z ps) (A7 P md lw gs os K) ⟨e, n, H⟩ := rfl
theorem FN {md : Mode} {lw : Nat} {gs : List Nat} {d : Option Nat} {mx : Bool} {x y : Opd} {os : List AOper} : A7 P md lw gs (⟨d, .mm mx x y, none⟩ :: os) K ⟨e, n, H⟩ = AK P d (.mm mx x y) (A7 P md lw gs os K) ⟨e, n, H⟩ := rfl
theorem O2 {md : Mode} {lw : Nat} {gs : List Nat} {d : Option Nat} {x : Opd} {os : List AOper} : A7 P md lw gs (⟨d, .b2s x, none⟩ :: os) K ⟨e, n, H⟩ = AK P d (.b2s x) (A7 P md lw gs os K) ⟨e, n, H⟩ := rfl
theorem NE {md : Mode} {lw : Nat} {gs : List Nat} {d : Option Nat} {x : Opd} {os : List AOper} : A7 P md lw gs (⟨d, .r2s x, none⟩ :: os) K ⟨e, n, H⟩ = AK P d (.r2s x) (A7 P md lw gs os K) ⟨e, n, H⟩ := rfl
theorem Nx {md : Mode} {lw : Nat} {gs : List Nat} {d : Option Nat} {x : Opd} {os : List AOper} : A7 P md lw gs (⟨d, .upc x, none⟩ :: os) K ⟨e, n, H⟩ = AK P d (.upc x) (A7 P md lw gs os K) ⟨e, n, H⟩ := rfl
theorem NR {md : Mode} {lw : Nat} {gs : List Nat} {d : Option Nat} {neg : Bool} {x y : Opd} {os : List AOper} : A7 P md lw gs (⟨d, .eqpp neg x y, none⟩ :: os) K ⟨e, n, H⟩ = AK P d (.eqpp neg x y) (A7 P md lw gs os K) ⟨e, n, H⟩ := rfl
theorem Mw {md : Mode} {lw : Nat} {gs : List Nat} {d : Option Nat} {u : TypeId} {x : Opd} {os : List AOper} : A7 P md lw gs (⟨d, .updn u x, none⟩ :: os) K ⟨e, n, H⟩ = AK P d (.updn u x) (A7 P md lw gs os K) ⟨e, n, H⟩ := rfl
theorem Ns {md : Mode} {lw : Nat} {gs : List Nat} {d : Option Nat} {el : TypeId} {x : Opd} {os : List AOper} : A7 P md lw gs (⟨d, .usd el x, none⟩ :: os) K ⟨e, n, H⟩ = AK P d (.usd el x) (A7 P md lw gs os K) ⟨e, n, H⟩ := rfl
theorem O1 {md : Mode} {lw : Nat} {gs : List Nat} {d : Option Nat} {el : TypeId} {x j : Opd} {os : List AOper} : A7 P md lw gs (⟨d, .ust el x j, none⟩ :: os) K ⟨e, n, H⟩ = AK P d (.ust el x j) (A7 P md lw gs os K) ⟨e, n, H⟩ := rfl
theorem NO {md : Mode} {lw : Nat} {gs : List Nat} {d : Option Nat} {el : TypeId} {sh : BE} {x : Opd} {os : List AOper} : A7 P md lw gs (⟨d, .box el sh x, none⟩ :: os) K ⟨e, n, H⟩ = ((ev e x).fits sh = true ∧ ones (ev e x).cells ∧ OL md lw (.cells el (ev e x).cells) d (A7 P md lw gs os K) e n H) := rfl
theorem Nj {md : Mode} {lw : Nat} {gs : List Nat} {d : Option Nat} {el : TypeId} {s : BE} {xs : List Opd} {os : List AOper} : A7 P md lw gs (⟨d, .bsl el s xs, none⟩ :: os) K ⟨e, n, H⟩ = (GW s (xs.map (ev e)) ∧ Ob md lw (B3 s) (xs.map (ev e)) (.row el xs.length) d (A7 P md lw gs os K) e n H) := by
 have h : GW s (xs.map (ev e)) = (∀ x ∈ xs, (ev e x).fits s = true ∧ ones (ev e x).cells) := by simp [GW, Bk]
 rw [h]; rfl
theorem Nb {md : Mode} {lw : Nat} {gs : List Nat} {d : Option Nat} {el sz by_ : Nat} {x y : Opd} {os : List AOper} : A7 P md lw gs (⟨d, .app el sz by_ x y, none⟩ :: os) K ⟨e, n, H⟩ = freeM md lw ⟨e, n, H⟩ (GZ gs (ev e x) ∧ appKS el sz by_ d (KM gs H (A7 P md lw gs os K)) ⟨e, n, H⟩ (ev e x) (ev e y)) := rfl
theorem Ij {lo : Nat} {s : AS} {A : Prop} : freeM .plain lo s A = A := rfl
theorem Jo {lo : Nat} {s : AS} {A : Prop} : freeM .late lo s A = A := rfl
theorem It {q lo : Nat} {s : AS} {A : Prop} : freeM (.last q) lo s A = A := rfl
theorem QV {lo : Nat} {A : Prop} (hlo : lo ≤ n) (hex : FreeH H) (h : A) : freeM .free lo ⟨e, n, H⟩ A := ⟨⟨hlo, hex⟩, h⟩
theorem KM.of {gs : List Nat} {H : A4} {s : AS} (h : K s) : KM gs H K s := fun _ => h
theorem KC.of {gs : List Nat} {H : A4} {s : AS} (h : KeepM gs H s.H) (h' : K s) : KC gs H K s := ⟨h, h'⟩
theorem J7 {gs : List Nat} {z : Nat} {l : List AV} {t : Tok} : GZ gs (.sl z l t) = True := rfl
theorem Jy {gs : List Nat} {z g k : Nat} : GZ gs (.slg z g k) = (g ∈ gs) := rfl
theorem O0 {md : Mode} {lw : Nat} {gs : List Nat} {d : Option Nat} {el by_ : Nat} {x y : Opd} {os : List AOper} : A7 P md lw gs (⟨d, .appB el by_ x y, none⟩ :: os) K ⟨e, n, H⟩ = AK P d (.appB el by_ x y) (A7 P md lw gs os K) ⟨e, n, H⟩ := rfl
theorem Mh {md : Mode} {lw : Nat} {gs : List Nat} {d : Option Nat} {el : TypeId} {x : Opd} {os : List AOper} : A7 P md lw gs (⟨d, .s2b el x, none⟩ :: os) K ⟨e, n, H⟩ = AK P d (.s2b el x) (A7 P md lw gs os K) ⟨e, n, H⟩ := rfl
theorem ND {md : Mode} {lw : Nat} {gs : List Nat} {d : Option Nat} {x : Opd} {os : List AOper} : A7 P md lw gs (⟨d, .s2s x, none⟩ :: os) K ⟨e, n, H⟩ = AK P d (.s2s x) (A7 P md lw gs os K) ⟨e, n, H⟩ := rfl
theorem Nh {md : Mode} {lw : Nat} {gs : List Nat} {d : Option Nat} {kk : Option IntKind} {os : List AOper} : A7 P md lw gs (⟨d, .mkmap kk, none⟩ :: os) K ⟨e, n, H⟩ = AK P d (.mkmap kk) (A7 P md lw gs os K) ⟨e, n, H⟩ := rfl
theorem Ma {md : Mode} {lw : Nat} {gs : List Nat} {d : Option Nat} {kk : Option IntKind} {m k v : Opd} {os : List AOper} : A7 P md lw gs (⟨d, .mset kk m k v, none⟩ :: os) K ⟨e, n, H⟩ = AK P d (.mset kk m k v) (A7 P md lw gs os K) ⟨e, n, H⟩ := rfl
theorem NY {md : Mode} {lw : Nat} {gs : List Nat} {d : Option Nat} {kk : Option IntKind} {z : AV} {ok : Bool} {m k : Opd} {os : List AOper} : A7 P md lw gs (⟨d, .mget kk z ok m k, none⟩ :: os) K ⟨e, n, H⟩ = KS (DK (Aa gs H) kk z ok (ev e m) (ev e k)) d (A7 P md lw gs os K) e n H := rfl
theorem MQ {md : Mode} {lw : Nat} {gs : List Nat} {d : Option Nat} {f : Nat} {xs : List Opd} {os : List AOper} : A7 P md lw gs (⟨d, .call f xs, none⟩ :: os) K ⟨e, n, H⟩ = exM P md lw gs d f (xs.map (ev e)) (A7 P md lw gs os K) ⟨e, n, H⟩ (CallK P f (xs.map (ev e)) d (KC gs H (A7 P md lw gs os K)) ⟨e, n, H⟩) := rfl
theorem KL {lo : Nat} {f : Nat} {args : List AV} {gs : List Nat} {d : Option Nat} {s : AS} {A : Prop} : exM P .plain lo gs d f args K s A = A := rfl
theorem J1 {lo : Nat} {f : Nat} {args : List AV} {gs : List Nat} {d : Option Nat} {s : AS} {A : Prop} : exM P .late lo gs d f args K s A = A := rfl
theorem K2 {q : Nat} {lo : Nat} {f : Nat} {args : List AV} {gs : List Nat} {d : Option Nat} {s : AS} {A : Prop} : exM P (.last q) lo gs d f args K s A = A := rfl
theorem KV {lo : Nat} {f : Nat} {args : List AV} {gs : List Nat} {d : Option Nat} {s : AS} {A : Prop} : exM P .free lo gs d f args K s A = A := rfl
theorem Rl {lo : Nat} {s : AS} {A : Prop} (h : A) : freeM .copy lo s A := h
theorem UM {lo : Nat} {f : Nat} {args : List AV} {gs : List Nat} {d : Option Nat} {s : AS} {A : Prop} (h : cpyK P lo d f args K s) : exM P .copy lo gs d f args K s A := h
theorem MR {md : Mode} {lw : Nat} {gs : List Nat} {d : Option Nat} {f : Nat} {xs : List Opd} {os : List AOper} : A7 P md lw gs (⟨d, .callp f xs, none⟩ :: os) K ⟨e, n, H⟩ = AK P d (.callp f xs) (A7 P md lw gs os K) ⟨e, n, H⟩ := rfl
theorem NH {md : Mode} {lw : Nat} {gs : List Nat} {d : Option Nat} {f : Opd} {xs : List Opd} {os : List AOper} : A7 P md lw gs (⟨d, .callv f xs, none⟩ :: os) K ⟨e, n, H⟩ = AK P d (.callv f xs) (A7 P md lw gs os K) ⟨e, n, H⟩ := rfl
theorem Ku {lo : Nat} {gs : List Nat} {x : Opd} {v : AV} : HH .plain lo gs x v = True := rfl
theorem Ki {lo : Nat} {gs : List Nat} {x : Opd} {v : AV} : HH .free lo gs x v = True := rfl
theorem JI {lo : Nat} {gs : List Nat} {x : Opd} {v : AV} : HH .refs lo gs x v = True := rfl
theorem K6 {lo : Nat} {gs : List Nat} {x : Opd} {v : AV} : HH .early lo gs x v = True := rfl
theorem JA {lo : Nat} {gs : List Nat} {x : Opd} {v : AV} : HH .late lo gs x v = SA gs v := rfl
theorem Ke {lo : Nat} {gs : List Nat} {q i : Nat} {v : AV} : HH (.last q) lo gs (.t i) v = ((i = q → R9 lo gs v) ∧ (i ≠ q → RV lo gs v)) := rfl
theorem Je {lo : Nat} {gs : List Nat} {g o : Nat} : R9 lo gs (.ptr g o) = (g < lo ∧ g ∉ gs) := rfl
theorem Jq {lo : Nat} {gs : List Nat} {g o : Nat} : RV lo gs (.ptr g o) = (lo ≤ g ∨ g ∈ gs) := rfl
theorem Ji {gs : List Nat} {g o : Nat} : SA gs (.ptr g o) = (g ∈ gs) := rfl
theorem Hf {a : Nat} {gs : List Nat} {H : A4} {k : Nat} : Aa (a :: gs) H k = if k = a then none else Aa gs H k := rfl
theorem Jn {H : A4} {k : Nat} : Aa [] H k = H k := rfl
theorem Fh {d : Option Nat} {x : Opd} : AK P d (.mv x) K ⟨e, n, H⟩ = KS (some (ev e x)) d K e n H := rfl
theorem Me {d : Option Nat} {c a b : Opd} : AK P d (.pick c a b) K ⟨e, n, H⟩ = KS (match ev e c with | .bool t => some (if t then ev e a else ev e b) | _ => none) d K e n H := rfl
theorem FE {d : Option Nat} {o : BinOp} {x y : Opd} : AK P d (.bin o x y) K ⟨e, n, H⟩ = KS (DU o (ev e x) (ev e y)) d K e n H := rfl
theorem F9 {d : Option Nat} {ks : List FK} {ng : Bool} {x y : Opd} : AK P d (.eqs ks ng x y) K ⟨e, n, H⟩ = KS (IN ks ng (ev e x) (ev e y)) d K e n H := rfl
theorem FT {d : Option Nat} {ng : Bool} {x y : Opd} : AK P d (.eqb ng x y) K ⟨e, n, H⟩ = KS (IH ng (ev e x) (ev e y)) d K e n H := rfl
theorem FO {d : Option Nat} {ng : Bool} {x : Opd} : AK P d (.eqn ng x) K ⟨e, n, H⟩ = KS (GU ng (ev e x)) d K e n H := rfl
theorem FC {d : Option Nat} {ng : Bool} {x : Opd} : AK P d (.eqp ng x) K ⟨e, n, H⟩ = KS ((Cs (ev e x)).map (Qz ng)) d K e n H := rfl
theorem F4 {d : Option Nat} {ng : Bool} {x : Opd} : AK P d (.eqi ng x) K ⟨e, n, H⟩ = KS ((D3 (ev e x)).map (Qz ng)) d K e n H := rfl
theorem FY {d : Option Nat} {x : Opd} : AK P d (.neg x) K ⟨e, n, H⟩ = KS (IP (ev e x)) d K e n H := rfl
theorem FL {d : Option Nat} {x : Opd} : AK P d (.not x) K ⟨e, n, H⟩ = KS (ID (ev e x)) d K e n H := rfl
theorem FW {d : Option Nat} {k : IntKind} {x : Opd} : AK P d (.cvi k x) K ⟨e, n, H⟩ = KS (II k (ev e x)) d K e n H := rfl
theorem Mi {d : Option Nat} {f : Nat} {a b : List Opd} : AK P d (.mkfn f a b) K ⟨e, n, H⟩ = KS (some (.fn f (a.map (ev e)) (b.map (ev e)))) d K e n H := rfl
theorem NW {d : Option Nat} {x : Opd} {lo hi : Option Opd} : AK P d (.cutS x lo hi) K ⟨e, n, H⟩ = KS (E3 (ev e x) (lo.map (ev e)) (hi.map (ev e))) d K e n H := rfl
theorem F3 {d : Option Nat} {sz : Nat} {x : Opd} {lo hi : Option Opd} : AK P d (.cut sz x lo hi) K ⟨e, n, H⟩ = KS (G6 sz (ev e x) (lo.map (ev e)) (hi.map (ev e))) d K e n H := rfl
theorem KG {d : Option Nat} {x : Opd} {o : Nat} {s : BE} : AK P d (.faddr x o s) K ⟨e, n, H⟩ = KS (GL (ev e x) o s) d K e n H := rfl
theorem N4 {d : Option Nat} {x : Opd} {o : Nat} {s : BE} : AK P d (.field x o s) K ⟨e, n, H⟩ = KS (Dt (ev e x) o s) d K e n H := rfl
theorem NN {d : Option Nat} {sz : Nat} {s : BE} {x i : Opd} : AK P d (.iaddr sz s x i) K ⟨e, n, H⟩ = KS (CZ sz s (ev e x) (ev e i)) d K e n H := rfl
theorem MN {d : Option Nat} {l sz : Nat} {s : BE} {x i : Opd} : AK P d (.aaddr l sz s x i) K ⟨e, n, H⟩ = KS (Fg l sz s (ev e x) (ev e i)) d K e n H := rfl
theorem NK {d : Option Nat} {x i : Opd} : AK P d (.sidx x i) K ⟨e, n, H⟩ = KS (Eu (ev e x) (ev e i)) d K e n H := rfl
theorem NS {d : Option Nat} {l sz : Nat} {s : BE} {x i : Opd} : AK P d (.aidx l sz s x i) K ⟨e, n, H⟩ = KS (Ev l sz s (ev e x) (ev e i)) d K e n H := rfl
theorem F2 {d : Option Nat} {x : Opd} : AK P d (.len x) K ⟨e, n, H⟩ = KS (Qx (ev e x)) d K e n H := rfl
theorem J0 {d : Option Nat} {x : Opd} : AK P d (.lenS x) K ⟨e, n, H⟩ = KS (Ey (ev e x)) d K e n H := rfl
theorem Nk {d : Option Nat} {m : Nat} : AK P d (.clen m) K ⟨e, n, H⟩ = KS (some (.int .i64 m)) d K e n H := rfl
theorem NF {d : Option Nat} {x : Opd} {i : Nat} : AK P d (.extr x i) K ⟨e, n, H⟩ = KS (Es i (ev e x)) d K e n H := rfl
theorem Ja {d : Option Nat} {x : Opd} : AK P d (.nilck x) K ⟨e, n, H⟩ = KS (Dv (ev e x)) d K e n H := rfl
theorem KX {d : Option Nat} {s : BE} {x : Opd} : AK P d (.load s x) K ⟨e, n, H⟩ = KS (B0 H s (ev e x)) d K e n H := rfl
theorem Nq {d : Option Nat} {z : List AV} {ps : List (Nat × BE × Opd)} : AK P d (.build z ps) K ⟨e, n, H⟩ = KS (Db z (ps.map fun (o, s, x) => (o, s, ev e x))) d K e n H := by
 have h : (ps.map fun (o, _, x) => (o, ev e x)) = (ps.map fun (o, s, x) => (o, s, ev e x)).map fun (o, _, x) => (o, x) := by rw [List.map_map]; rfl
 show K1 (if _ then some (.agg (Ek z _)) else none) _ = _
 rw [h]; unfold KS Db; split <;> rfl
theorem HM {d : Option Nat} {mx : Bool} {x y : Opd} : AK P d (.mm mx x y) K ⟨e, n, H⟩ = KS (Su mx (ev e x) (ev e y)) d K e n H := rfl
theorem FB {d : Option Nat} {x : Opd} : AK P d (.b2s x) K ⟨e, n, H⟩ = KS (IF (ev e x)) d K e n H := rfl
theorem FR {d : Option Nat} {x : Opd} : AK P d (.r2s x) K ⟨e, n, H⟩ = KS (IY (ev e x)) d K e n H := rfl
theorem Fa {d : Option Nat} {x : Opd} : AK P d (.upc x) K ⟨e, n, H⟩ = KS (Dq H (ev e x)) d K e n H := rfl
theorem FX {d : Option Nat} {el : TypeId} {x : Opd} : AK P d (.usd el x) K ⟨e, n, H⟩ = KS (Dp H el (ev e x)) d K e n H := rfl
theorem Nz {d : Option Nat} {ng : Bool} {x y : Opd} : AK P d (.eqpp ng x y) K ⟨e, n, H⟩ = KS (Ez ng (ev e x) (ev e y)) d K e n H := rfl
theorem Nu {d : Option Nat} {u : TypeId} {x : Opd} : AK P d (.updn u x) K ⟨e, n, H⟩ = KS (Bt P H u (ev e x)) d K e n H := rfl
theorem F6 {d : Option Nat} {t : TypeId} {x m : Opd} : AK P d (.ust t x m) K ⟨e, n, H⟩ = KS (DF t (ev e x) (ev e m)) d K e n H := rfl
theorem O3 {d : Option Nat} {t : TypeId} {z : List AV} : AK P d (.alloc t z) K ⟨e, n, H⟩ = (ones z ∧ We (.cells t z) d K e n H) := rfl
theorem F1 {d : Option Nat} {t : TypeId} {sh : BE} {x : Opd} : AK P d (.box t sh x) K ⟨e, n, H⟩ = ((Bk sh (ev e x) ∧ We (.cells t (ev e x).cells) d K e n H)) := propext and_assoc.symm
theorem K0 {d : Option Nat} {sh : BE} {x v : Opd} : AK P d (.store sh x v) K ⟨e, n, H⟩ = Cc sh d K ⟨e, n, H⟩ (ev e v) (ev e x) := rfl
def YR (el sz : Nat) (l : List AV) (d : Option Nat) (K : AS → Prop) (e : AL) (n : Nat) (H : A4) : Prop := U6 sz l (.row el l.length) d K e n H ∨ ∀ g, n ≤ g → K ⟨AG e d (.slm sz g 0 l.length), g + 1, upd H g (some (.cells el (AQ l)))⟩
theorem AJ {el sz : Nat} {l : List AV} {d : Option Nat} (h : U6 sz l (.row el l.length) d K e n H) : YR el sz l d K e n H := .inl h
theorem FM {d : Option Nat} {t : TypeId} {sh : BE} {xs : List Opd} : AK P d (.bsl t sh xs) K ⟨e, n, H⟩ = (GW sh (xs.map (ev e)) ∧ YR t (B3 sh) (xs.map (ev e)) d K e n H) := by
 have h : GW sh (xs.map (ev e)) = (∀ x ∈ xs, (ev e x).fits sh = true ∧ ones (ev e x).cells) := by simp [GW, Bk]
 rw [h]
 unfold YR U6
 rw [List.length_map]; rfl
theorem FD {d : Option Nat} {t sz b : Nat} {x y : Opd} : AK P d (.app t sz b x y) K ⟨e, n, H⟩ = appKS t sz b d K ⟨e, n, H⟩ (ev e x) (ev e y) := rfl
theorem JN {d : Option Nat} {t b : Nat} {x y : Opd} : AK P d (.appB t b x y) K ⟨e, n, H⟩ = LP t b d K ⟨e, n, H⟩ (ev e x) (ev e y) := rfl
theorem F8 {d : Option Nat} {t : TypeId} {x : Opd} : AK P d (.s2b t x) K ⟨e, n, H⟩ = IG d K e n H (ev e x) := rfl
theorem F7 {d : Option Nat} {x : Opd} : AK P d (.s2s x) K ⟨e, n, H⟩ = Hu d K e n H (ev e x) := rfl
theorem N8 {d : Option Nat} {kk : Option IntKind} : AK P d (.mkmap kk) K ⟨e, n, H⟩ = Zb kk d K e n H := rfl
theorem Mk {d : Option Nat} {kk : Option IntKind} {m k v : Opd} : AK P d (.mset kk m k v) K ⟨e, n, H⟩ = DT kk d K ⟨e, n, H⟩ (ev e k) (ev e v) (ev e m) := rfl
def Zw (m : Nat) (o : Option AObj) (d : Option Nat) (K : AS → Prop) (e : AL) (n : Nat) (H : A4) : Prop := match o with
 | some (.map _ es) => ∀ g, n ≤ g → K ⟨AG e d (.ptr g 0), g + 1, upd H g (some (.iter m es.length (List.range es.length) none))⟩
 | _ => False
def Z0 (g m len : Nat) (left : List Nat) (o : Option AObj) (d : Option Nat) (K : AS → Prop) (e : AL) (n : Nat) (H : A4) : Prop := match o with
 | some (.map _ es) => es.length = len ∧ (left = [] → K ⟨AG e d (.tup [.bool false]), n, H⟩) ∧ ∀ j ∈ left, ∀ k v, es[j]? = some (k, v) → K ⟨AG e d (.tup [.bool true, k, v]), n, upd H g (some (.iter m len (left.erase j) (some j)))⟩
 | _ => False
def Yt (g : Nat) (o : Option AObj) (d : Option Nat) (K : AS → Prop) (e : AL) (n : Nat) (H : A4) : Prop := match o with
 | some (.iter m len left _) => Z0 g m len left (H m) d K e n H
 | _ => False
theorem Iq {g m len : Nat} {left : List Nat} {cur d : Option Nat} : Yt g (some (.iter m len left cur)) d K e n H = Z0 g m len left (H m) d K e n H := rfl
theorem Kb {m : Nat} {d : Option Nat} : On d K ⟨e, n, H⟩ (.mp m) = Zw m (H m) d K e n H := rfl
theorem JM {g : Nat} {d : Option Nat} : Oz d K ⟨e, n, H⟩ (.ptr g 0) = Yt g (H g) d K e n H := propext ⟨fun h => h.2, fun h => ⟨rfl, h⟩⟩
def Zx (el : TypeId) (z : AV) (m : Nat) (d : Option Nat) (K : AS → Prop) (e : AL) (n : Nat) (H : A4) : Prop := ∀ g, n ≤ g → K ⟨AG e d (.slm 1 g 0 m), g + 1, upd H g (some (.cells el (List.replicate m z)))⟩
theorem JJ {el : TypeId} {b : Nat} {z : AV} {d : Option Nat} {k k' : IntKind} {p q : Int} : LF el b z d K ⟨e, n, H⟩ (.int k p) (.int k' q) = (p = q ∧ 0 ≤ p ∧ (b : Int) * p ≤ 281474976710656 ∧ p ≤ maxLen ∧ Zx el z p.toNat d K e n H) := rfl
theorem Ni {d : Option Nat} {el : TypeId} {b : Nat} {z : AV} {x y : Opd} : AK P d (.mksl el b z x y) K ⟨e, n, H⟩ = LF el b z d K ⟨e, n, H⟩ (ev e x) (ev e y) := rfl
theorem FQ {d : Option Nat} {x : Opd} : AK P d (.rng x) K ⟨e, n, H⟩ = On d K ⟨e, n, H⟩ (ev e x) := rfl
theorem FH {d : Option Nat} {x : Opd} : AK P d (.nxt x) K ⟨e, n, H⟩ = Oz d K ⟨e, n, H⟩ (ev e x) := rfl
theorem FU {d : Option Nat} {x : Opd} : AK P d (.ent x) K ⟨e, n, H⟩ = KS (GI H (ev e x)) d K e n H := rfl
theorem N9 {d : Option Nat} {kk : Option IntKind} {z : AV} {ok : Bool} {m k : Opd} : AK P d (.mget kk z ok m k) K ⟨e, n, H⟩ = KS (DK H kk z ok (ev e m) (ev e k)) d K e n H := rfl
theorem J8 {d : Option Nat} {f : Nat} {xs : List Opd} : AK P d (.call f xs) K ⟨e, n, H⟩ = CallK P f (xs.map (ev e)) d K ⟨e, n, H⟩ := rfl
theorem Ng {d : Option Nat} {f : Nat} {xs : List Opd} : AK P d (.callp f xs) K ⟨e, n, H⟩ = CallP P f (xs.map (ev e)) d K ⟨e, n, H⟩ := rfl
theorem MT {d : Option Nat} {x : Opd} {xs : List Opd} : AK P d (.callv x xs) K ⟨e, n, H⟩ = Cd P d K e n H (xs.map (ev e)) (ev e x) := rfl
theorem V2 {el sz by_ z z' : Nat} {d : Option Nat} {m m' : List AV} {t : Tok} (hz : z' = sz ∨ m = []) (hs : AA m m') (hm : m ≠ []) (hb : m.length * by_ ≤ 140737488355328) (hx : m.length ≤ maxLen) (h : ∀ g, n ≤ g → K ⟨AG e d (.sl sz m' (.own g)), g + 1, upd H g (some (.row el m'.length))⟩) : appKS el sz by_ d K ⟨e, n, H⟩ (.sl z [] .nil) (.sl z' m t) := by
 have hl := Dr hs
 exact ⟨hz, m', hs, by simpa [hl] using hb, by simpa [hl] using hx, fun h' => absurd h' (fun e => hm (List.length_eq_zero_iff.1 (by rw [hl, e]; rfl))), fun _ => .inl h⟩
theorem VA {el sz by_ g0 z' : Nat} {d : Option Nat} {l m m' : List AV} {t : Tok} (hz : z' = sz ∨ m = []) (hs : AA m m') (hr : H g0 = some (.row el l.length)) (hb : (l.length + m.length) * by_ ≤ 140737488355328) (hx : l.length + m.length ≤ maxLen) (h : ∀ g n', (g = g0 ∨ n ≤ g) → n ≤ n' → g < n' → K ⟨AG e d (.sl sz (l ++ m') (.own g)), n', upd (upd H g0 none) g (some (.row el (l.length + m'.length)))⟩) : appKS el sz by_ d K ⟨e, n, H⟩ (.sl sz l (.own g0)) (.sl z' m t) := by
 have hl := Dr hs
 exact ⟨hz, m', hs, by rw [← hl]; exact hb, by rw [← hl]; exact hx, rfl, hr, h⟩
theorem JC {X : AS → Prop} {s : AS} : E4 X Q .normal s = X s := rfl
theorem Ic {X : AS → Prop} {s : AS} {i : Nat} : E4 X Q (.exit i) s = Q (.exit i) s := rfl
theorem Iy {X : AS → Prop} {s : AS} : E4 X Q .ret s = Q .ret s := rfl
theorem Jp {id : Nat} {s : AS} : EY id Q .normal s = Q .normal s := rfl
theorem IC {id i : Nat} {s : AS} : EY id Q (.exit i) s = if i = id then Q .normal s else Q (.exit i) s := rfl
theorem J6 {id : Nat} {s : AS} : EY id Q .ret s = Q .ret s := rfl
end
/-! ### simp looks at what is known, not into what follows -/
section
variable {P : Program} {K : AS → Prop} {Q : AExit → AS → Prop} {d : Option Nat} {n : Nat}
end
abbrev zM (d s : Nat) : AOper := ⟨some d, .mv (.t s), none⟩
abbrev zL (d s : Nat) : AOper := ⟨some d, .load none (.t s), none⟩
abbrev zF (d s k : Nat) : AOper := ⟨some d, .faddr (.t s) k none, none⟩
abbrev zG (d k s : Nat) : AOper := ⟨some d, .load (some k) (.t s), none⟩
abbrev zX (d s k : Nat) : AOper := ⟨some d, .extr (.t s) k, none⟩
abbrev zI (d : Nat) (k : Int) : AOper := ⟨some d, .mv (.c (.int .i64 k)), none⟩
abbrev zB (d : Nat) (b : Bool) : AOper := ⟨some d, .mv (.c (.bool b)), none⟩
abbrev zS (k a b : Nat) : AOper := ⟨none, .store (some k) (.t a) (.t b), none⟩
abbrev zU (a b : Nat) : AOper := ⟨none, .store none (.t a) (.t b), none⟩
abbrev zP (d a b : Nat) : AOper := ⟨some d, .pick (.t a) (.t b) (.c (.bool false)), none⟩
abbrev zO (d a b : Nat) : AOper := ⟨some d, .pick (.t a) (.c (.bool true)) (.t b), none⟩
abbrev zV (d f a : Nat) : AOper := ⟨some d, .callp f [.t a], none⟩
abbrev zW (d f a b : Nat) : AOper := ⟨some d, .callp f [.t a, .t b], none⟩
abbrev zN (d s : Nat) : AOper := ⟨some d, .not (.t s), none⟩
abbrev zY (d s : Nat) : AOper := ⟨some d, .len (.t s), none⟩
abbrev zZ (d s : Nat) : AOper := ⟨some d, .nilck (.t s), none⟩
abbrev zH (d e k s : Nat) : AOper := ⟨some d, .box e (some k) (.t s), none⟩
abbrev zJ (d k a b : Nat) : AOper := ⟨some d, .iaddr k none (.t a) (.t b), none⟩
abbrev zD (d : Nat) (o : BinOp) (a b : Nat) : AOper := ⟨some d, .bin o (.t a) (.t b), none⟩
abbrev zE (d : Nat) (o : BinOp) (a : Nat) (k : Int) : AOper := ⟨some d, .bin o (.t a) (.c (.int .i64 k)), none⟩
end Go.Proofs.YtnfjgphfaemjcaaGreatDoor
