/- What is asked at a function's end, and how a function's contract comes of its code; no condition. -/
import Derived.Test.YtnmkpadgogbgkaaDoorAmCmp
set_option linter.all false
set_option linter.unusedSimpArgs false
set_option linter.unusedVariables false
namespace Go.Proofs.YtnmkpadgogbgkaaDoor

def resV (s : AS) : ARes → Option AV
  | .tmp t => some (get s.e t)
  | .cell t sh => loadAV s.H sh (get s.e t)
def resVs (s : AS) : List ARes → Option (List AV)
  | [] => some []
  | r :: rs => match resV s r, resVs s rs with | some x, some xs => some (x :: xs) | _, _ => none
def resOf (s : AS) (rs : List ARes) : Option AV :=
  match resVs s rs with
  | some [x] => some x
  | some xs => some (.tup xs)
  | none => none
/-- below n the two are one -/
def SameB (n : Nat) (H H' : AHeap) : Prop := ∀ k, k < n → H' k = H k
def finP (v : AV) (n : Nat) (H : AHeap) (res : List ARes) : AExit → AS → Prop
  | .normal, s | .ret, s => (∃ x, resOf s res = some x ∧ simA x v) ∧ n ≤ s.n ∧ SameB n H s.H
  | _, _ => False
def fin (R : APost) (n : Nat) (res : List ARes) : AExit → AS → Prop
  | .normal, s | .ret, s => ∃ r n' H', (∃ x, resOf s res = some x ∧ simA x r) ∧ n ≤ n' ∧ n' ≤ s.n ∧ (∀ k, n' ≤ k → H' k = none) ∧ SameB n' H' s.H ∧ R r n' H'
  | _, _ => False
theorem SameB.rfl_ (n : Nat) (H : AHeap) : SameB n H H := fun _ _ => rfl
theorem fin_ret {R : APost} {n m : Nat} {res : List ARes} {e : AEnv} {H : AHeap} {r : AV} (h1 : resOf ⟨e, m, H⟩ res = some r) (h2 : n ≤ m) (h3 : ∀ k, m ≤ k → H k = none) (h4 : R r m H) : fin R n res .ret ⟨e, m, H⟩ :=
  ⟨r, m, H, ⟨r, h1, simA_refl _⟩, h2, Nat.le_refl _, h3, SameB.rfl_ _ _, h4⟩
theorem fin_nrm {R : APost} {n m : Nat} {res : List ARes} {e : AEnv} {H : AHeap} {r : AV} (h1 : resOf ⟨e, m, H⟩ res = some r) (h2 : n ≤ m) (h3 : ∀ k, m ≤ k → H k = none) (h4 : R r m H) : fin R n res .normal ⟨e, m, H⟩ :=
  ⟨r, m, H, ⟨r, h1, simA_refl _⟩, h2, Nat.le_refl _, h3, SameB.rfl_ _ _, h4⟩
/-- what the call made is forgotten -/
theorem fin_less {R : APost} {n m : Nat} {res : List ARes} {e : AEnv} {H H0 : AHeap} {r : AV} (h1 : resOf ⟨e, m, H⟩ res = some r) (h2 : n ≤ m) (h3 : ∀ k, n ≤ k → H0 k = none) (h5 : SameB n H0 H) (h4 : R r n H0) : fin R n res .ret ⟨e, m, H⟩ :=
  ⟨r, n, H0, ⟨r, h1, simA_refl _⟩, Nat.le_refl _, h2, h3, h5, h4⟩
theorem finP_ret {v : AV} {n m : Nat} {res : List ARes} {e : AEnv} {H H0 : AHeap} (h1 : ∃ x, resOf ⟨e, m, H⟩ res = some x ∧ simA x v) (h2 : n ≤ m) (h3 : SameB n H0 H) : finP v n H0 res .ret ⟨e, m, H⟩ := ⟨h1, h2, h3⟩
theorem SameB.upd {n : Nat} {H H' : AHeap} (h : SameB n H H') {g : Nat} (hg : n ≤ g) (x : Option AObj) : SameB n H (upd H' g x) := fun k hk => by
  unfold Go.Proofs.YtnmkpadgogbgkaaDoor.upd; rw [if_neg (by omega)]; exact h k hk
theorem xz3q (H : AHeap) (g : Nat) (x : Option AObj) : upd H g x g = x := by simp [upd]
theorem upd_ne {H : AHeap} {g k : Nat} {x : Option AObj} (h : k ≠ g) : upd H g x k = H k := by simp [upd, h]
theorem upd_upd (H : AHeap) (g : Nat) (x y : Option AObj) : upd (upd H g x) g y = upd H g y := by funext k; simp only [upd]; split <;> rfl
theorem upd_none {H : AHeap} {g : Nat} (h : H g = none) (x : Option AObj) : upd (upd H g x) g none = H := by
  funext k; simp only [upd]; split
  · rename_i hk; subst hk; exact h.symm
  · rfl


def ngV (ng t : Bool) : AV := .bool (if ng then !t else t)
def eqsV (ks : List FK) (ng : Bool) : AV → AV → Option AV
  | .agg a, .agg b => (xz3p ks a b).map (ngV ng)
  | _, _ => none
def eqbV (ng : Bool) : AV → AV → Option AV
  | .bool a, .bool b => some (.bool (if ng then !(a == b) else a == b))
  | _, _ => none
def negV : AV → Option AV | .int k n => some (.int k (k.wrap (0 - n))) | _ => none
def notV : AV → Option AV | .bool b => some (.bool (!b)) | _ => none
def cviV (k : IntKind) : AV → Option AV | .int _ n => some (.int k (k.wrap n)) | _ => none
def fieldV (x : AV) (o : Nat) (s : Shp) : Option AV := match x with | .agg cs => part cs o s | _ => none
def sidxV : AV → AV → Option AV
  | .str s, .int _ j => if 0 ≤ j then (s[j.toNat]?).map fun b => .int .u8 b.toNat else none
  | _, _ => none
def aidxV (len sz : Nat) (s : Shp) : AV → AV → Option AV
  | .agg cs, .int _ j => if 0 ≤ j ∧ j < len then part cs (j.toNat * sz) s else none
  | _, _ => none
def lenV : AV → Option AV | .sl _ l _ => some (.int .i64 l.length) | _ => none
def lenSV : AV → Option AV | .str s => some (.int .i64 s.length) | _ => none
def extrV (i : Nat) : AV → Option AV | .tup vs => vs[i]? | _ => none
def nilckV : AV → Option AV | .ptr g o => some (.ptr g o) | .ref x => some (.ref x) | .fn f a b => if a.isEmpty then some (.fn f a b) else none | _ => none
def buildV (z : List AV) (ps : List (Nat × Shp × AV)) : Option AV := if xz3n z.length ps then some (.agg (xz3o z (ps.map fun (o, _, x) => (o, x)))) else none
def mmV (mx : Bool) : AV → AV → Option AV
  | .int k a, .int k' b => if k = k' then some (.int k (if mx then max a b else min a b)) else none
  | _, _ => none
def b2sV : AV → Option AV | .sl _ l _ => (bytesOf l).map .str | _ => none
def r2sV : AV → Option AV | .int _ n => some (.str (Utf8.encode n).data.toList) | _ => none
def eqppV (ng : Bool) : AV → AV → Option AV
  | .ptr g o, .ptr g' o' => if g = g' then some (.bool (if ng then !(decide (o = o')) else decide (o = o'))) else none
  | _, _ => none
def s2bK (d : Option Nat) (K : AS → Prop) (e : AEnv) (n : Nat) (H : AHeap) : AV → Prop
  | .str b => b.length ≤ maxLen ∧ ∀ n', n ≤ n' → K ⟨putO e d (.sl 1 (b.map fun u => .int .u8 u.toNat) .ro), n', H⟩
  | _ => False
def s2sK (d : Option Nat) (K : AS → Prop) (e : AEnv) (n : Nat) (H : AHeap) : AV → Prop
  | .sl sz l (.own g) => l ≠ [] ∧ K ⟨putO e d (.sl sz l .ro), n, upd H g none⟩
  | _ => False
def newM (kk : Option IntKind) (d : Option Nat) (K : AS → Prop) (e : AEnv) (n : Nat) (H : AHeap) : Prop := ∀ g, n ≤ g → K ⟨putO e d (.mp g), g + 1, upd H g (some (.map kk []))⟩
def callvK (P : Program) (d : Option Nat) (K : AS → Prop) (e : AEnv) (n : Nat) (H : AHeap) (xs : List AV) : AV → Prop
  | .fn f a b => callable P f = true ∧ CallK P f (a ++ xs ++ b) d K ⟨e, n, H⟩
  | _ => False
/-- a value that may lie in a cell, or in cells -/
def fitOk (sh : Shp) (x : AV) : Prop := x.fits sh = true ∧ ones x.cells
def bslOk (sh : Shp) (l : List AV) : Prop := ∀ x ∈ l, fitOk sh x
theorem xz3k {sh : Shp} : bslOk sh [] = True := by simp [bslOk]
theorem xz3l {sh : Shp} {x : AV} {l : List AV} : bslOk sh (x :: l) = (fitOk sh x ∧ bslOk sh l) := by simp [bslOk]
theorem xz38 {s : List UInt8} : fitOk none (.str s) = True := by simp [fitOk, AV.fits, ones, AV.cells, AV.one]
theorem xz39 {k : IntKind} {i : Int} : fitOk none (.int k i) = True := by simp [fitOk, AV.fits, ones, AV.cells, AV.one]
theorem xz3a {b : Bool} : fitOk none (.bool b) = True := by simp [fitOk, AV.fits, ones, AV.cells, AV.one]
theorem xz3b {z : Nat} {l : List AV} {t : Tok} : fitOk none (.sl z l t) = True := by simp [fitOk, AV.fits, ones, AV.cells, AV.one]
theorem xz3c {g o : Nat} : fitOk none (.ptr g o) = True := by simp [fitOk, AV.fits, ones, AV.cells, AV.one]
theorem xz3d : fitOk none .np = True := by simp [fitOk, AV.fits, ones, AV.cells, AV.one]
theorem xz3e {x : AV} : fitOk none (.ref x) = True := by simp [fitOk, AV.fits, ones, AV.cells, AV.one]
theorem xz3f {f : Nat} {a b : List AV} : fitOk none (.fn f a b) = True := by simp [fitOk, AV.fits, ones, AV.cells, AV.one]
theorem xz3g : fitOk none .nfn = True := by simp [fitOk, AV.fits, ones, AV.cells, AV.one]
theorem xz3h {t : Nat} {v : AV} : fitOk none (.ifc t v) = True := by simp [fitOk, AV.fits, ones, AV.cells, AV.one]
theorem xz3i : fitOk none .nif = True := by simp [fitOk, AV.fits, ones, AV.cells, AV.one]
theorem xz3j {s : Nat} {cs : List AV} : fitOk (some s) (.agg cs) = (cs.length = s ∧ ones cs) := by simp [fitOk, AV.fits, AV.cells]
def stoK (sh : Shp) (d : Option Nat) (K : AS → Prop) (e : AEnv) (n : Nat) (H : AHeap) (v : AV) (g o : Nat) : Option AObj → Prop
  | some (.cells t cs) => fitOk sh v ∧ o + v.cells.length ≤ cs.length ∧ K ⟨putO e d .any, n, upd H g (some (.cells t (splice cs o v.cells)))⟩
  | _ => False
theorem xz36 {sh : Shp} {d : Option Nat} {K : AS → Prop} {e : AEnv} {n : Nat} {H : AHeap} {v : AV} {g o : Nat} : storeK sh d K ⟨e, n, H⟩ v (.ptr g o) = stoK sh d K e n H v g o (H g) := by
  show (match H g with | some (.cells e' cs) => _ | _ => False) = _
  cases H g with
  | none => rfl
  | some ob => cases ob with
    | cells t cs => exact propext and_assoc.symm
    | _ => rfl
theorem xz37 {sh : Shp} {d : Option Nat} {K : AS → Prop} {e : AEnv} {n : Nat} {H : AHeap} {v : AV} {g o : Nat} {t : TypeId} {cs : List AV} : stoK sh d K e n H v g o (some (.cells t cs)) = (fitOk sh v ∧ o + v.cells.length ≤ cs.length ∧ K ⟨putO e d .any, n, upd H g (some (.cells t (splice cs o v.cells)))⟩) := rfl
theorem xz2w {z : Nat} {l : List AV} {t : Tok} : lenV (.sl z l t) = some (.int .i64 l.length) := rfl
theorem xz34 {sz z : Nat} {s : Shp} {l : List AV} {t : Tok} {k : IntKind} {j : Int} : iaddrAV sz s (.sl z l t) (.int k j) = if z = sz ∧ 0 ≤ j then (match l[j.toNat]? with | some y => if y.fits s then some (.ref y) else none | none => none) else none := rfl
theorem xz3m {sz z : Nat} {l : List AV} {t : Tok} {lo hi : Option AV} : cutAV sz (.sl z l t) lo hi = if z = sz ∨ l = [] then (cutB lo hi l.length).map fun (a, b) => .sl sz ((l.take b).drop a) .ro else none := rfl
def newP (ob : AObj) (d : Option Nat) (K : AS → Prop) (e : AEnv) (n : Nat) (H : AHeap) : Prop := ∀ g, n ≤ g → K ⟨putO e d (.ptr g 0), g + 1, upd H g (some ob)⟩
def newS (sz : Nat) (l : List AV) (ob : AObj) (d : Option Nat) (K : AS → Prop) (e : AEnv) (n : Nat) (H : AHeap) : Prop := ∀ g, n ≤ g → K ⟨putO e d (.sl sz l (.own g)), g + 1, upd H g (some ob)⟩
/-- behind a value that may be missing; what follows is not looked into -/
def KS (o : Option AV) (d : Option Nat) (K : AS → Prop) (e : AEnv) (n : Nat) (H : AHeap) : Prop :=
  match o with
  | some v => K ⟨putO e d v, n, H⟩
  | none => False
theorem xz2u {v : AV} {d : Option Nat} {K : AS → Prop} {e : AEnv} {n : Nat} {H : AHeap} : KS (some v) d K e n H = K ⟨putO e d v, n, H⟩ := rfl
theorem xz2v {d : Option Nat} {K : AS → Prop} {e : AEnv} {n : Nat} {H : AHeap} : KS none d K e n H = False := rfl

section
variable {P : Program} {e : AEnv} {n : Nat} {H : AHeap} {Q : AExit → AS → Prop} {K : AS → Prop}
theorem xz00 : aw P .skip Q ⟨e, n, H⟩ = Q .normal ⟨e, n, H⟩ := rfl
theorem aw_reg {ops : List AOper} : aw P (.reg ops) Q ⟨e, n, H⟩ = awOps P ops (Q .normal) ⟨e, n, H⟩ := rfl
theorem aw_seq {a b : ACode} : aw P (.seq a b) Q ⟨e, n, H⟩ = aw P a (thenA (aw P b Q) Q) ⟨e, n, H⟩ := rfl
theorem xz01 {c : Opd} {a b : ACode} : aw P (.cond c a b) Q ⟨e, n, H⟩ = condK (aw P a Q ⟨e, n, H⟩) (aw P b Q ⟨e, n, H⟩) (ev e c) := rfl
theorem xz02 {id : Nat} {c : ACode} : aw P (.block id c) Q ⟨e, n, H⟩ = aw P c (blockA id Q) ⟨e, n, H⟩ := rfl
theorem xz03 {c : ACode} : aw P (.loop c) Q ⟨e, n, H⟩ = LoopK (fun Q s => aw P c Q s) Q ⟨e, n, H⟩ := rfl
theorem xz04 {id : Nat} : aw P (.exit id) Q ⟨e, n, H⟩ = Q (.exit id) ⟨e, n, H⟩ := rfl
theorem aw_ret : aw P .ret Q ⟨e, n, H⟩ = Q .ret ⟨e, n, H⟩ := rfl
theorem aw_bad : aw P .bad Q ⟨e, n, H⟩ = False := rfl
theorem aw_kp {ks : List Nat} {c : ACode} : aw P (.kp ks c) Q ⟨e, n, H⟩ = aw P c Q ⟨keepE e ks, n, H⟩ := rfl
theorem aw_ke {ks : List Nat} {c : ACode} : aw P (.ke ks c) Q ⟨e, n, H⟩ = aw P c (keepQ ks Q) ⟨e, n, H⟩ := rfl
theorem xz05 {ks : List Nat} : keepQ ks Q .normal ⟨e, n, H⟩ = Q .normal ⟨keepE e ks, n, H⟩ := rfl
theorem xz06 {ks : List Nat} {i : Nat} {s : AS} : keepQ ks Q (.exit i) s = Q (.exit i) s := rfl
theorem xz07 {ks : List Nat} {s : AS} : keepQ ks Q .ret s = Q .ret s := rfl
theorem xz08 {l : List Seg} : aw P (.segs l) Q ⟨e, n, H⟩ = awSegs P l (Q .normal) ⟨e, n, H⟩ := rfl
theorem xz09 : awSegs P [] K ⟨e, n, H⟩ = K ⟨e, n, H⟩ := rfl
def segK (o : Option AV) (d : Nat) (ops : List AOper) (K : AS → Prop) (e : AEnv) (n : Nat) (H : AHeap) : Prop :=
  match o with
  | some v => K ⟨put (anyE e ops) d v, n, H⟩
  | none => False
theorem xz0d {v : AV} {d : Nat} {ops : List AOper} {K : AS → Prop} {e : AEnv} {n : Nat} {H : AHeap} : segK (some v) d ops K e n H = K ⟨put (anyE e ops) d v, n, H⟩ := rfl
theorem xz0e {d : Nat} {ops : List AOper} {K : AS → Prop} {e : AEnv} {n : Nat} {H : AHeap} : segK none d ops K e n H = False := rfl
theorem xz0c {t d x : Nat} {want : Bool} {ops : List AOper} {l : List Seg} : awSegs P (⟨some (t, want), ops, some (d, x)⟩ :: l) K ⟨e, n, H⟩ = segK (scV want x (get e t) (evalOps ops e H)) d ops (awSegs P l K) e n H := rfl
def evS (o : Option AV) (d : Option Nat) (os : List AOper) (e : AEnv) (H : AHeap) : Option AEnv :=
  match o with
  | some v => evalOps os (putO e d v) H
  | none => none
theorem xz0h {v : AV} {d : Option Nat} {os : List AOper} {H : AHeap} : evS (some v) d os e H = evalOps os (putO e d v) H := rfl
theorem xz0i {d : Option Nat} {os : List AOper} {H : AHeap} : evS none d os e H = none := rfl
theorem xz0f {H : AHeap} : evalOps [] e H = some e := rfl
theorem xz0g {d : Option Nat} {op : AOp} {g : Option (Nat × Bool)} {os : List AOper} {H : AHeap} : evalOps (⟨d, op, g⟩ :: os) e H = evS (pe op e H) d os e H := rfl
theorem xz0a {ops : List AOper} {l : List Seg} {p : Option (Nat × Nat)} : awSegs P (⟨none, ops, p⟩ :: l) K ⟨e, n, H⟩ = awOps P ops (awSegs P l K) ⟨e, n, H⟩ := rfl
theorem put_get {v : AV} (hv : v ≠ .any) : ∀ {e : AEnv} {t : Nat}, get e t = v → put e t v = e
  | [], t, h => absurd h.symm hv
  | (k, u) :: r, t, h => by
    simp only [get] at h
    simp only [put]
    split
    · rename_i hk; rw [if_pos hk] at h; rw [h, hk]
    · rename_i hk; rw [if_neg hk] at h; rw [put_get hv h]
def guardJ (want : Bool) (A B C : Prop) : AV → Prop
  | .bool b => (b = want → A) ∧ (b ≠ want → B)
  | .und => C
  | _ => False
theorem xz0b {t : Nat} {want : Bool} {ops : List AOper} {l : List Seg} : awSegs P (⟨some (t, want), ops, none⟩ :: l) K ⟨e, n, H⟩ = guardJ want (awOps P ops (awSegs P l K) ⟨put e t (.bool want), n, H⟩) (awSegs P l K ⟨undE (put e t (.bool (!want))) ops, n, H⟩) (awSegs P l K ⟨undE e ops, n, H⟩) (get e t) := by
  show guardK want _ (awSegs P l K ⟨undE e ops, n, H⟩) _ = _
  generalize hg : get e t = v
  cases v <;> try rfl
  rename_i b
  simp only [guardK, guardJ, eq_iff_iff]
  by_cases hb : b = want
  · subst hb
    rw [put_get (by simp) hg]
    simp
  · have hb' : b = !want := by cases b <;> cases want <;> simp_all
    subst hb'
    rw [put_get (by simp) hg]
    simp
theorem xz0j : awOps P [] K ⟨e, n, H⟩ = K ⟨e, n, H⟩ := rfl
theorem xz0k {d : Option Nat} {op : AOp} {os : List AOper} : awOps P (⟨d, op, none⟩ :: os) K ⟨e, n, H⟩ = awOp P d op (awOps P os K) ⟨e, n, H⟩ := rfl
theorem awOps_c1 {d : Option Nat} {op : AOp} {os : List AOper} {t : Nat} {want : Bool} : awOps P (⟨d, op, some (t, want)⟩ :: os) K ⟨e, n, H⟩ = guardK want (awOp P d op (awOps P os K) ⟨e, n, H⟩) (awOps P os K ⟨putO e d .und, n, H⟩) (get e t) := by
  show (match get e t with | .bool b => _ | .und => _ | _ => False) = _
  cases get e t <;> rfl
theorem xz0l {S : List Nat} {ops : List AOper} : aw P (.regD S ops) Q ⟨e, n, H⟩ = gsK P (gsOf e S) ops (Q .normal) ⟨e, n, H⟩ := rfl
theorem xz0m {gs : List Nat} {ops : List AOper} {s : AS} : gsK P (some gs) ops K s = awOpsM P gs ops K s := rfl
theorem xz0n : gsOf e [] = some [] := rfl
theorem xz0o {t : Nat} {ts : List Nat} : gsOf e (t :: ts) = gsC (get e t) (gsOf e ts) := rfl
theorem xz0p {g o : Nat} {gs : List Nat} : gsC (.ptr g o) (some gs) = some (g :: gs) := rfl
def newPM (ob : AObj) (d : Option Nat) (K : AS → Prop) (e : AEnv) (n : Nat) (H : AHeap) : Prop := ∀ g, n ≤ g → H g = none → K ⟨putO e d (.ptr g 0), g + 1, upd H g (some ob)⟩
theorem newPM_of {ob : AObj} {d : Option Nat} {H : AHeap} (h : newP ob d K e n H) : newPM ob d K e n H := fun g hg _ => h g hg
theorem xz0q {gs : List Nat} : awOpsM P gs [] K ⟨e, n, H⟩ = K ⟨e, n, H⟩ := rfl
theorem xz0r {gs : List Nat} {d : Option Nat} {sh : Shp} {x : Opd} {os : List AOper} : awOpsM P gs (⟨d, .load sh x, none⟩ :: os) K ⟨e, n, H⟩ = KS (loadAV (maskH gs H) sh (ev e x)) d (awOpsM P gs os K) e n H := rfl
theorem xz0s {gs : List Nat} {d : Option Nat} {t : TypeId} {z : List AV} {os : List AOper} : awOpsM P gs (⟨d, .alloc t z, none⟩ :: os) K ⟨e, n, H⟩ = (ones z ∧ newPM (.cells t z) d (awOpsM P gs os K) e n H) := rfl
theorem xz0t {gs : List Nat} {d : Option Nat} {sh : Shp} {x v : Opd} {os : List AOper} : awOpsM P gs (⟨d, .store sh x v, none⟩ :: os) K ⟨e, n, H⟩ = (blkIn gs (ev e x) ∧ storeK sh d (awOpsM P gs os K) ⟨e, n, H⟩ (ev e v) (ev e x)) := rfl
theorem spm_mv {gs : List Nat} {d : Option Nat} {x : Opd} {os : List AOper} : awOpsM P gs (⟨d, .mv x, none⟩ :: os) K ⟨e, n, H⟩ = awOp P d (.mv x) (awOpsM P gs os K) ⟨e, n, H⟩ := rfl
theorem xz0u {gs : List Nat} {d : Option Nat} {c a b : Opd} {os : List AOper} : awOpsM P gs (⟨d, .pick c a b, none⟩ :: os) K ⟨e, n, H⟩ = awOp P d (.pick c a b) (awOpsM P gs os K) ⟨e, n, H⟩ := rfl
theorem xz0v {gs : List Nat} {d : Option Nat} {op : BinOp} {x y : Opd} {os : List AOper} : awOpsM P gs (⟨d, .bin op x y, none⟩ :: os) K ⟨e, n, H⟩ = awOp P d (.bin op x y) (awOpsM P gs os K) ⟨e, n, H⟩ := rfl
theorem xz0w {gs : List Nat} {d : Option Nat} {ks : List FK} {neg : Bool} {x y : Opd} {os : List AOper} : awOpsM P gs (⟨d, .eqs ks neg x y, none⟩ :: os) K ⟨e, n, H⟩ = awOp P d (.eqs ks neg x y) (awOpsM P gs os K) ⟨e, n, H⟩ := rfl
theorem xz0x {gs : List Nat} {d : Option Nat} {neg : Bool} {x y : Opd} {os : List AOper} : awOpsM P gs (⟨d, .eqb neg x y, none⟩ :: os) K ⟨e, n, H⟩ = awOp P d (.eqb neg x y) (awOpsM P gs os K) ⟨e, n, H⟩ := rfl
theorem xz0y {gs : List Nat} {d : Option Nat} {neg : Bool} {x : Opd} {os : List AOper} : awOpsM P gs (⟨d, .eqn neg x, none⟩ :: os) K ⟨e, n, H⟩ = awOp P d (.eqn neg x) (awOpsM P gs os K) ⟨e, n, H⟩ := rfl
theorem xz0z {gs : List Nat} {d : Option Nat} {neg : Bool} {x : Opd} {os : List AOper} : awOpsM P gs (⟨d, .eqp neg x, none⟩ :: os) K ⟨e, n, H⟩ = awOp P d (.eqp neg x) (awOpsM P gs os K) ⟨e, n, H⟩ := rfl
theorem xz10 {gs : List Nat} {d : Option Nat} {x : Opd} {os : List AOper} : awOpsM P gs (⟨d, .neg x, none⟩ :: os) K ⟨e, n, H⟩ = awOp P d (.neg x) (awOpsM P gs os K) ⟨e, n, H⟩ := rfl
theorem xz11 {gs : List Nat} {d : Option Nat} {x : Opd} {os : List AOper} : awOpsM P gs (⟨d, .not x, none⟩ :: os) K ⟨e, n, H⟩ = awOp P d (.not x) (awOpsM P gs os K) ⟨e, n, H⟩ := rfl
theorem xz12 {gs : List Nat} {d : Option Nat} {k : IntKind} {x : Opd} {os : List AOper} : awOpsM P gs (⟨d, .cvi k x, none⟩ :: os) K ⟨e, n, H⟩ = awOp P d (.cvi k x) (awOpsM P gs os K) ⟨e, n, H⟩ := rfl
theorem xz13 {gs : List Nat} {d : Option Nat} {f : Nat} {fst cap : List Opd} {os : List AOper} : awOpsM P gs (⟨d, .mkfn f fst cap, none⟩ :: os) K ⟨e, n, H⟩ = awOp P d (.mkfn f fst cap) (awOpsM P gs os K) ⟨e, n, H⟩ := rfl
theorem xz14 {gs : List Nat} {d : Option Nat} {sz : Nat} {x : Opd} {lo hi : Option Opd} {os : List AOper} : awOpsM P gs (⟨d, .cut sz x lo hi, none⟩ :: os) K ⟨e, n, H⟩ = awOp P d (.cut sz x lo hi) (awOpsM P gs os K) ⟨e, n, H⟩ := rfl
theorem xz15 {gs : List Nat} {d : Option Nat} {x : Opd} {lo hi : Option Opd} {os : List AOper} : awOpsM P gs (⟨d, .cutS x lo hi, none⟩ :: os) K ⟨e, n, H⟩ = awOp P d (.cutS x lo hi) (awOpsM P gs os K) ⟨e, n, H⟩ := rfl
theorem xz16 {gs : List Nat} {d : Option Nat} {x : Opd} {off : Nat} {s : Shp} {os : List AOper} : awOpsM P gs (⟨d, .faddr x off s, none⟩ :: os) K ⟨e, n, H⟩ = awOp P d (.faddr x off s) (awOpsM P gs os K) ⟨e, n, H⟩ := rfl
theorem xz17 {gs : List Nat} {d : Option Nat} {x : Opd} {off : Nat} {s : Shp} {os : List AOper} : awOpsM P gs (⟨d, .field x off s, none⟩ :: os) K ⟨e, n, H⟩ = awOp P d (.field x off s) (awOpsM P gs os K) ⟨e, n, H⟩ := rfl
theorem xz18 {gs : List Nat} {d : Option Nat} {sz : Nat} {s : Shp} {x i : Opd} {os : List AOper} : awOpsM P gs (⟨d, .iaddr sz s x i, none⟩ :: os) K ⟨e, n, H⟩ = awOp P d (.iaddr sz s x i) (awOpsM P gs os K) ⟨e, n, H⟩ := rfl
theorem xz19 {gs : List Nat} {d : Option Nat} {len sz : Nat} {s : Shp} {x i : Opd} {os : List AOper} : awOpsM P gs (⟨d, .aaddr len sz s x i, none⟩ :: os) K ⟨e, n, H⟩ = awOp P d (.aaddr len sz s x i) (awOpsM P gs os K) ⟨e, n, H⟩ := rfl
theorem xz1a {gs : List Nat} {d : Option Nat} {x i : Opd} {os : List AOper} : awOpsM P gs (⟨d, .sidx x i, none⟩ :: os) K ⟨e, n, H⟩ = awOp P d (.sidx x i) (awOpsM P gs os K) ⟨e, n, H⟩ := rfl
theorem xz1b {gs : List Nat} {d : Option Nat} {len sz : Nat} {s : Shp} {x i : Opd} {os : List AOper} : awOpsM P gs (⟨d, .aidx len sz s x i, none⟩ :: os) K ⟨e, n, H⟩ = awOp P d (.aidx len sz s x i) (awOpsM P gs os K) ⟨e, n, H⟩ := rfl
theorem xz1c {gs : List Nat} {d : Option Nat} {x : Opd} {os : List AOper} : awOpsM P gs (⟨d, .len x, none⟩ :: os) K ⟨e, n, H⟩ = awOp P d (.len x) (awOpsM P gs os K) ⟨e, n, H⟩ := rfl
theorem xz1d {gs : List Nat} {d : Option Nat} {x : Opd} {os : List AOper} : awOpsM P gs (⟨d, .lenS x, none⟩ :: os) K ⟨e, n, H⟩ = awOp P d (.lenS x) (awOpsM P gs os K) ⟨e, n, H⟩ := rfl
theorem xz1e {gs : List Nat} {d : Option Nat} {j : Nat} {os : List AOper} : awOpsM P gs (⟨d, .clen j, none⟩ :: os) K ⟨e, n, H⟩ = awOp P d (.clen j) (awOpsM P gs os K) ⟨e, n, H⟩ := rfl
theorem xz1f {gs : List Nat} {d : Option Nat} {x : Opd} {i : Nat} {os : List AOper} : awOpsM P gs (⟨d, .extr x i, none⟩ :: os) K ⟨e, n, H⟩ = awOp P d (.extr x i) (awOpsM P gs os K) ⟨e, n, H⟩ := rfl
theorem xz1g {gs : List Nat} {d : Option Nat} {x : Opd} {os : List AOper} : awOpsM P gs (⟨d, .nilck x, none⟩ :: os) K ⟨e, n, H⟩ = awOp P d (.nilck x) (awOpsM P gs os K) ⟨e, n, H⟩ := rfl
theorem xz1h {gs : List Nat} {d : Option Nat} {z : List AV} {ps : List (Nat × Shp × Opd)} {os : List AOper} : awOpsM P gs (⟨d, .build z ps, none⟩ :: os) K ⟨e, n, H⟩ = awOp P d (.build z ps) (awOpsM P gs os K) ⟨e, n, H⟩ := rfl
theorem spm_mm {gs : List Nat} {d : Option Nat} {mx : Bool} {x y : Opd} {os : List AOper} : awOpsM P gs (⟨d, .mm mx x y, none⟩ :: os) K ⟨e, n, H⟩ = awOp P d (.mm mx x y) (awOpsM P gs os K) ⟨e, n, H⟩ := rfl
theorem xz1i {gs : List Nat} {d : Option Nat} {x : Opd} {os : List AOper} : awOpsM P gs (⟨d, .b2s x, none⟩ :: os) K ⟨e, n, H⟩ = awOp P d (.b2s x) (awOpsM P gs os K) ⟨e, n, H⟩ := rfl
theorem xz1j {gs : List Nat} {d : Option Nat} {x : Opd} {os : List AOper} : awOpsM P gs (⟨d, .r2s x, none⟩ :: os) K ⟨e, n, H⟩ = awOp P d (.r2s x) (awOpsM P gs os K) ⟨e, n, H⟩ := rfl
theorem xz1k {gs : List Nat} {d : Option Nat} {x : Opd} {os : List AOper} : awOpsM P gs (⟨d, .upc x, none⟩ :: os) K ⟨e, n, H⟩ = awOp P d (.upc x) (awOpsM P gs os K) ⟨e, n, H⟩ := rfl
theorem xz1l {gs : List Nat} {d : Option Nat} {neg : Bool} {x y : Opd} {os : List AOper} : awOpsM P gs (⟨d, .eqpp neg x y, none⟩ :: os) K ⟨e, n, H⟩ = awOp P d (.eqpp neg x y) (awOpsM P gs os K) ⟨e, n, H⟩ := rfl
theorem xz1m {gs : List Nat} {d : Option Nat} {u : TypeId} {x : Opd} {os : List AOper} : awOpsM P gs (⟨d, .updn u x, none⟩ :: os) K ⟨e, n, H⟩ = awOp P d (.updn u x) (awOpsM P gs os K) ⟨e, n, H⟩ := rfl
theorem xz1n {gs : List Nat} {d : Option Nat} {el : TypeId} {x : Opd} {os : List AOper} : awOpsM P gs (⟨d, .usd el x, none⟩ :: os) K ⟨e, n, H⟩ = awOp P d (.usd el x) (awOpsM P gs os K) ⟨e, n, H⟩ := rfl
theorem xz1o {gs : List Nat} {d : Option Nat} {el : TypeId} {x j : Opd} {os : List AOper} : awOpsM P gs (⟨d, .ust el x j, none⟩ :: os) K ⟨e, n, H⟩ = awOp P d (.ust el x j) (awOpsM P gs os K) ⟨e, n, H⟩ := rfl
theorem xz1p {gs : List Nat} {d : Option Nat} {el : TypeId} {s : Shp} {x : Opd} {os : List AOper} : awOpsM P gs (⟨d, .box el s x, none⟩ :: os) K ⟨e, n, H⟩ = awOp P d (.box el s x) (awOpsM P gs os K) ⟨e, n, H⟩ := rfl
theorem xz1q {gs : List Nat} {d : Option Nat} {el : TypeId} {s : Shp} {xs : List Opd} {os : List AOper} : awOpsM P gs (⟨d, .bsl el s xs, none⟩ :: os) K ⟨e, n, H⟩ = awOp P d (.bsl el s xs) (awOpsM P gs os K) ⟨e, n, H⟩ := rfl
theorem xz1r {gs : List Nat} {d : Option Nat} {el sz by_ : Nat} {x y : Opd} {os : List AOper} : awOpsM P gs (⟨d, .app el sz by_ x y, none⟩ :: os) K ⟨e, n, H⟩ = awOp P d (.app el sz by_ x y) (awOpsM P gs os K) ⟨e, n, H⟩ := rfl
theorem xz1s {gs : List Nat} {d : Option Nat} {el by_ : Nat} {x y : Opd} {os : List AOper} : awOpsM P gs (⟨d, .appB el by_ x y, none⟩ :: os) K ⟨e, n, H⟩ = awOp P d (.appB el by_ x y) (awOpsM P gs os K) ⟨e, n, H⟩ := rfl
theorem xz1t {gs : List Nat} {d : Option Nat} {el : TypeId} {x : Opd} {os : List AOper} : awOpsM P gs (⟨d, .s2b el x, none⟩ :: os) K ⟨e, n, H⟩ = awOp P d (.s2b el x) (awOpsM P gs os K) ⟨e, n, H⟩ := rfl
theorem xz1u {gs : List Nat} {d : Option Nat} {x : Opd} {os : List AOper} : awOpsM P gs (⟨d, .s2s x, none⟩ :: os) K ⟨e, n, H⟩ = awOp P d (.s2s x) (awOpsM P gs os K) ⟨e, n, H⟩ := rfl
theorem xz1v {gs : List Nat} {d : Option Nat} {kk : Option IntKind} {os : List AOper} : awOpsM P gs (⟨d, .mkmap kk, none⟩ :: os) K ⟨e, n, H⟩ = awOp P d (.mkmap kk) (awOpsM P gs os K) ⟨e, n, H⟩ := rfl
theorem xz1w {gs : List Nat} {d : Option Nat} {kk : Option IntKind} {m k v : Opd} {os : List AOper} : awOpsM P gs (⟨d, .mset kk m k v, none⟩ :: os) K ⟨e, n, H⟩ = awOp P d (.mset kk m k v) (awOpsM P gs os K) ⟨e, n, H⟩ := rfl
theorem xz1x {gs : List Nat} {d : Option Nat} {kk : Option IntKind} {z : AV} {ok : Bool} {m k : Opd} {os : List AOper} : awOpsM P gs (⟨d, .mget kk z ok m k, none⟩ :: os) K ⟨e, n, H⟩ = awOp P d (.mget kk z ok m k) (awOpsM P gs os K) ⟨e, n, H⟩ := rfl
theorem xz1y {gs : List Nat} {d : Option Nat} {f : Nat} {xs : List Opd} {os : List AOper} : awOpsM P gs (⟨d, .call f xs, none⟩ :: os) K ⟨e, n, H⟩ = awOp P d (.call f xs) (awOpsM P gs os K) ⟨e, n, H⟩ := rfl
theorem xz1z {gs : List Nat} {d : Option Nat} {f : Nat} {xs : List Opd} {os : List AOper} : awOpsM P gs (⟨d, .callp f xs, none⟩ :: os) K ⟨e, n, H⟩ = awOp P d (.callp f xs) (awOpsM P gs os K) ⟨e, n, H⟩ := rfl
theorem xz20 {gs : List Nat} {d : Option Nat} {f : Opd} {xs : List Opd} {os : List AOper} : awOpsM P gs (⟨d, .callv f xs, none⟩ :: os) K ⟨e, n, H⟩ = awOp P d (.callv f xs) (awOpsM P gs os K) ⟨e, n, H⟩ := rfl
theorem xz21 {gs : List Nat} {g o : Nat} : blkIn gs (.ptr g o) = (g ∈ gs) := rfl
theorem xz22 {a : Nat} {gs : List Nat} {H : AHeap} {k : Nat} : maskH (a :: gs) H k = if k = a then none else maskH gs H k := rfl
theorem xz23 {H : AHeap} {k : Nat} : maskH [] H k = H k := rfl
theorem op_mv {d : Option Nat} {x : Opd} : awOp P d (.mv x) K ⟨e, n, H⟩ = KS (some (ev e x)) d K e n H := rfl
theorem xz24 {d : Option Nat} {c a b : Opd} : awOp P d (.pick c a b) K ⟨e, n, H⟩ = KS (match ev e c with | .bool t => some (if t then ev e a else ev e b) | _ => none) d K e n H := rfl
theorem op_bin {d : Option Nat} {o : BinOp} {x y : Opd} : awOp P d (.bin o x y) K ⟨e, n, H⟩ = KS (binAV o (ev e x) (ev e y)) d K e n H := rfl
theorem op_eqs {d : Option Nat} {ks : List FK} {ng : Bool} {x y : Opd} : awOp P d (.eqs ks ng x y) K ⟨e, n, H⟩ = KS (eqsV ks ng (ev e x) (ev e y)) d K e n H := rfl
theorem op_eqb {d : Option Nat} {ng : Bool} {x y : Opd} : awOp P d (.eqb ng x y) K ⟨e, n, H⟩ = KS (eqbV ng (ev e x) (ev e y)) d K e n H := rfl
theorem op_eqn {d : Option Nat} {ng : Bool} {x : Opd} : awOp P d (.eqn ng x) K ⟨e, n, H⟩ = KS ((isNil (ev e x)).map (ngV ng)) d K e n H := rfl
theorem op_eqp {d : Option Nat} {ng : Bool} {x : Opd} : awOp P d (.eqp ng x) K ⟨e, n, H⟩ = KS ((isNilP (ev e x)).map (ngV ng)) d K e n H := rfl
theorem op_neg {d : Option Nat} {x : Opd} : awOp P d (.neg x) K ⟨e, n, H⟩ = KS (negV (ev e x)) d K e n H := rfl
theorem op_not {d : Option Nat} {x : Opd} : awOp P d (.not x) K ⟨e, n, H⟩ = KS (notV (ev e x)) d K e n H := rfl
theorem op_cvi {d : Option Nat} {k : IntKind} {x : Opd} : awOp P d (.cvi k x) K ⟨e, n, H⟩ = KS (cviV k (ev e x)) d K e n H := rfl
theorem xz25 {d : Option Nat} {f : Nat} {a b : List Opd} : awOp P d (.mkfn f a b) K ⟨e, n, H⟩ = KS (some (.fn f (a.map (ev e)) (b.map (ev e)))) d K e n H := rfl
theorem xz26 {d : Option Nat} {x : Opd} {lo hi : Option Opd} : awOp P d (.cutS x lo hi) K ⟨e, n, H⟩ = KS (cutSV (ev e x) (lo.map (ev e)) (hi.map (ev e))) d K e n H := rfl
theorem op_cut {d : Option Nat} {sz : Nat} {x : Opd} {lo hi : Option Opd} : awOp P d (.cut sz x lo hi) K ⟨e, n, H⟩ = KS (cutAV sz (ev e x) (lo.map (ev e)) (hi.map (ev e))) d K e n H := rfl
theorem xz27 {d : Option Nat} {x : Opd} {o : Nat} {s : Shp} : awOp P d (.faddr x o s) K ⟨e, n, H⟩ = KS (xz33 (ev e x) o s) d K e n H := rfl
theorem xz28 {d : Option Nat} {x : Opd} {o : Nat} {s : Shp} : awOp P d (.field x o s) K ⟨e, n, H⟩ = KS (fieldV (ev e x) o s) d K e n H := rfl
theorem xz29 {d : Option Nat} {sz : Nat} {s : Shp} {x i : Opd} : awOp P d (.iaddr sz s x i) K ⟨e, n, H⟩ = KS (iaddrAV sz s (ev e x) (ev e i)) d K e n H := rfl
theorem xz2a {d : Option Nat} {l sz : Nat} {s : Shp} {x i : Opd} : awOp P d (.aaddr l sz s x i) K ⟨e, n, H⟩ = KS (xz35 l sz s (ev e x) (ev e i)) d K e n H := rfl
theorem xz2b {d : Option Nat} {x i : Opd} : awOp P d (.sidx x i) K ⟨e, n, H⟩ = KS (sidxV (ev e x) (ev e i)) d K e n H := rfl
theorem xz2c {d : Option Nat} {l sz : Nat} {s : Shp} {x i : Opd} : awOp P d (.aidx l sz s x i) K ⟨e, n, H⟩ = KS (aidxV l sz s (ev e x) (ev e i)) d K e n H := rfl
theorem op_len {d : Option Nat} {x : Opd} : awOp P d (.len x) K ⟨e, n, H⟩ = KS (lenV (ev e x)) d K e n H := rfl
theorem xz2d {d : Option Nat} {x : Opd} : awOp P d (.lenS x) K ⟨e, n, H⟩ = KS (lenSV (ev e x)) d K e n H := rfl
theorem xz2e {d : Option Nat} {m : Nat} : awOp P d (.clen m) K ⟨e, n, H⟩ = KS (some (.int .i64 m)) d K e n H := rfl
theorem xz2f {d : Option Nat} {x : Opd} {i : Nat} : awOp P d (.extr x i) K ⟨e, n, H⟩ = KS (extrV i (ev e x)) d K e n H := rfl
theorem xz2g {d : Option Nat} {x : Opd} : awOp P d (.nilck x) K ⟨e, n, H⟩ = KS (nilckV (ev e x)) d K e n H := rfl
theorem xz2h {d : Option Nat} {s : Shp} {x : Opd} : awOp P d (.load s x) K ⟨e, n, H⟩ = KS (loadAV H s (ev e x)) d K e n H := rfl
theorem xz2i {d : Option Nat} {z : List AV} {ps : List (Nat × Shp × Opd)} : awOp P d (.build z ps) K ⟨e, n, H⟩ = KS (buildV z (ps.map fun (o, s, x) => (o, s, ev e x))) d K e n H := by
  have h : (ps.map fun (o, _, x) => (o, ev e x)) = (ps.map fun (o, s, x) => (o, s, ev e x)).map fun (o, _, x) => (o, x) := by rw [List.map_map]; rfl
  show K1 (if _ then some (.agg (xz3o z _)) else none) _ = _
  rw [h]; unfold KS buildV; split <;> rfl
theorem op_mm {d : Option Nat} {mx : Bool} {x y : Opd} : awOp P d (.mm mx x y) K ⟨e, n, H⟩ = KS (mmV mx (ev e x) (ev e y)) d K e n H := rfl
theorem op_b2s {d : Option Nat} {x : Opd} : awOp P d (.b2s x) K ⟨e, n, H⟩ = KS (b2sV (ev e x)) d K e n H := rfl
theorem op_r2s {d : Option Nat} {x : Opd} : awOp P d (.r2s x) K ⟨e, n, H⟩ = KS (r2sV (ev e x)) d K e n H := rfl
theorem op_upc {d : Option Nat} {x : Opd} : awOp P d (.upc x) K ⟨e, n, H⟩ = KS (upcAV H (ev e x)) d K e n H := rfl
theorem op_usd {d : Option Nat} {el : TypeId} {x : Opd} : awOp P d (.usd el x) K ⟨e, n, H⟩ = KS (usdAV H el (ev e x)) d K e n H := rfl
theorem xz2j {d : Option Nat} {ng : Bool} {x y : Opd} : awOp P d (.eqpp ng x y) K ⟨e, n, H⟩ = KS (eqppV ng (ev e x) (ev e y)) d K e n H := rfl
theorem xz2k {d : Option Nat} {u : TypeId} {x : Opd} : awOp P d (.updn u x) K ⟨e, n, H⟩ = KS (updnAV P H u (ev e x)) d K e n H := rfl
theorem op_ust {d : Option Nat} {t : TypeId} {x m : Opd} : awOp P d (.ust t x m) K ⟨e, n, H⟩ = KS (ustAV t (ev e x) (ev e m)) d K e n H := rfl
theorem xz2l {d : Option Nat} {t : TypeId} {z : List AV} : awOp P d (.alloc t z) K ⟨e, n, H⟩ = (ones z ∧ newP (.cells t z) d K e n H) := rfl
theorem op_box {d : Option Nat} {t : TypeId} {sh : Shp} {x : Opd} : awOp P d (.box t sh x) K ⟨e, n, H⟩ = ((fitOk sh (ev e x) ∧ newP (.cells t (ev e x).cells) d K e n H)) := propext and_assoc.symm
theorem xz2m {d : Option Nat} {sh : Shp} {x v : Opd} : awOp P d (.store sh x v) K ⟨e, n, H⟩ = storeK sh d K ⟨e, n, H⟩ (ev e v) (ev e x) := rfl
theorem op_bsl {d : Option Nat} {t : TypeId} {sh : Shp} {xs : List Opd} : awOp P d (.bsl t sh xs) K ⟨e, n, H⟩ = (bslOk sh (xs.map (ev e)) ∧ newS (shpSz sh) (xs.map (ev e)) (.row t xs.length) d K e n H) := by
  have h : bslOk sh (xs.map (ev e)) = (∀ x ∈ xs, (ev e x).fits sh = true ∧ ones (ev e x).cells) := by simp [bslOk, fitOk]
  rw [h]; rfl
theorem op_app {d : Option Nat} {t sz b : Nat} {x y : Opd} : awOp P d (.app t sz b x y) K ⟨e, n, H⟩ = appKS t sz b d K ⟨e, n, H⟩ (ev e x) (ev e y) := rfl
theorem xz2n {d : Option Nat} {t b : Nat} {x y : Opd} : awOp P d (.appB t b x y) K ⟨e, n, H⟩ = appKB t b d K ⟨e, n, H⟩ (ev e x) (ev e y) := rfl
theorem op_s2b {d : Option Nat} {t : TypeId} {x : Opd} : awOp P d (.s2b t x) K ⟨e, n, H⟩ = s2bK d K e n H (ev e x) := rfl
theorem op_s2s {d : Option Nat} {x : Opd} : awOp P d (.s2s x) K ⟨e, n, H⟩ = s2sK d K e n H (ev e x) := rfl
theorem xz2o {d : Option Nat} {kk : Option IntKind} : awOp P d (.mkmap kk) K ⟨e, n, H⟩ = newM kk d K e n H := rfl
theorem xz2p {d : Option Nat} {kk : Option IntKind} {m k v : Opd} : awOp P d (.mset kk m k v) K ⟨e, n, H⟩ = msetS kk d K ⟨e, n, H⟩ (ev e k) (ev e v) (ev e m) := rfl
theorem xz2q {d : Option Nat} {kk : Option IntKind} {z : AV} {ok : Bool} {m k : Opd} : awOp P d (.mget kk z ok m k) K ⟨e, n, H⟩ = KS (mgetV H kk z ok (ev e m) (ev e k)) d K e n H := rfl
theorem xz2r {d : Option Nat} {f : Nat} {xs : List Opd} : awOp P d (.call f xs) K ⟨e, n, H⟩ = CallK P f (xs.map (ev e)) d K ⟨e, n, H⟩ := rfl
theorem xz2s {d : Option Nat} {f : Nat} {xs : List Opd} : awOp P d (.callp f xs) K ⟨e, n, H⟩ = CallP P f (xs.map (ev e)) d K ⟨e, n, H⟩ := rfl
theorem xz2t {d : Option Nat} {x : Opd} {xs : List Opd} : awOp P d (.callv x xs) K ⟨e, n, H⟩ = callvK P d K e n H (xs.map (ev e)) (ev e x) := rfl
theorem appS_nil {el sz by_ z z' : Nat} {d : Option Nat} {m m' : List AV} {t : Tok} (hz : z' = sz ∨ m = []) (hs : simL m m') (hm : m ≠ []) (hb : m.length * by_ ≤ 140737488355328) (hx : m.length ≤ maxLen) (h : ∀ g, n ≤ g → K ⟨putO e d (.sl sz m' (.own g)), g + 1, upd H g (some (.row el m'.length))⟩) : appKS el sz by_ d K ⟨e, n, H⟩ (.sl z [] .nil) (.sl z' m t) := by
  have hl := simL_len hs
  exact ⟨hz, m', hs, by simpa [hl] using hb, by simpa [hl] using hx, fun h' => absurd h' (fun e => hm (List.length_eq_zero_iff.1 (by rw [hl, e]; rfl))), fun _ => h⟩
theorem appS_own {el sz by_ g0 z' : Nat} {d : Option Nat} {l m m' : List AV} {t : Tok} (hz : z' = sz ∨ m = []) (hs : simL m m') (hr : H g0 = some (.row el l.length)) (hb : (l.length + m.length) * by_ ≤ 140737488355328) (hx : l.length + m.length ≤ maxLen) (h : ∀ g n', (g = g0 ∨ n ≤ g) → n ≤ n' → g < n' → K ⟨putO e d (.sl sz (l ++ m') (.own g)), n', upd (upd H g0 none) g (some (.row el (l.length + m'.length)))⟩) : appKS el sz by_ d K ⟨e, n, H⟩ (.sl sz l (.own g0)) (.sl z' m t) := by
  have hl := simL_len hs
  exact ⟨hz, m', hs, by rw [← hl]; exact hb, by rw [← hl]; exact hx, rfl, hr, h⟩
theorem appB_nil {el by_ z : Nat} {d : Option Nat} {b : List UInt8} (hb : b.length * by_ ≤ 140737488355328) (hx : b.length ≤ maxLen) (h0 : b.length = 0 → K ⟨putO e d (.sl 1 [] .nil), n, H⟩) (h : b.length ≠ 0 → ∀ g, n ≤ g → K ⟨putO e d (.sl 1 (byteA b) (.own g)), g + 1, upd H g (some (.row el b.length))⟩) : appKB el by_ d K ⟨e, n, H⟩ (.sl z [] .nil) (.str b) := by
  have hl : (byteA b).length = b.length := by simp [byteA]
  refine ⟨by simpa [hl] using hb, by simpa [hl] using hx, fun h' => h0 (by rw [← hl, h']; rfl), fun h' => ?_⟩
  rw [hl]
  exact h fun e => h' (List.length_eq_zero_iff.1 (by omega))
theorem appB_own {el by_ g0 : Nat} {d : Option Nat} {l : List AV} {b : List UInt8} (hr : H g0 = some (.row el l.length)) (hb : (l.length + b.length) * by_ ≤ 140737488355328) (hx : l.length + b.length ≤ maxLen) (h : ∀ g n', (g = g0 ∨ n ≤ g) → n ≤ n' → g < n' → K ⟨putO e d (.sl 1 (l ++ byteA b) (.own g)), n', upd (upd H g0 none) g (some (.row el (l.length + b.length)))⟩) : appKB el by_ d K ⟨e, n, H⟩ (.sl 1 l (.own g0)) (.str b) := by
  have hl : (byteA b).length = b.length := by simp [byteA]
  refine ⟨by simpa [hl] using hb, by simpa [hl] using hx, rfl, hr, ?_⟩
  rw [hl]; exact h
theorem xz2x {X : AS → Prop} {s : AS} : thenA X Q .normal s = X s := rfl
theorem xz2y {X : AS → Prop} {s : AS} {i : Nat} : thenA X Q (.exit i) s = Q (.exit i) s := rfl
theorem xz2z {X : AS → Prop} {s : AS} : thenA X Q .ret s = Q .ret s := rfl
theorem xz30 {id : Nat} {s : AS} : blockA id Q .normal s = Q .normal s := rfl
theorem xz31 {id i : Nat} {s : AS} : blockA id Q (.exit i) s = if i = id then Q .normal s else Q (.exit i) s := rfl
theorem xz32 {id : Nat} {s : AS} : blockA id Q .ret s = Q .ret s := rfl
end
end Go.Proofs.YtnmkpadgogbgkaaDoor
