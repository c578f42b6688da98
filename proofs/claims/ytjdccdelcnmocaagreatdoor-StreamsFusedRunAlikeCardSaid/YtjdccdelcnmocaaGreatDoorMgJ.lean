/- Calls on constants: a program that carries them out; no condition. -/
import Derived.Test.YtjdccdelcnmocaaGreatDoorMgI
import Derived.Test.YtjdccdelcnmocaaGreatDoorMgC
import Derived.Test.YtjdccdelcnmocaaGreatDoorRows
import Derived.ProofKit
import Derived.OpenShut
import Derived.Deep.Slices
import Derived.Deep.Fields
set_option linter.all false
set_option linter.unusedSimpArgs false
set_option linter.unusedVariables false
set_option maxHeartbeats 1000000
namespace Go.Proofs.YtjdccdelcnmocaaGreatDoor
mutual
def weak : AV → AV
 | .sl z l t => .sl z (Fn l) (match t with | .own _ => .ro | t => t)
 | .agg l => .agg (Fn l)
 | .tup l => .tup (Fn l)
 | .ref x => .ref (weak x)
 | .ifc t x => .ifc t (weak x)
 | x => x
def Fn : List AV → List AV
 | [] => []
 | x :: xs => weak x :: Fn xs
end
mutual
theorem JI : ∀ x : AV, AM x (weak x)
 | .sl z l t => ⟨z, Fn l, _, rfl, by cases t <;> simp, .inl rfl, GD l⟩
 | .agg l => ⟨_, rfl, GD l⟩
 | .tup l => ⟨_, rfl, GD l⟩
 | .ref x => ⟨_, rfl, JI x⟩
 | .ifc _ x => ⟨_, rfl, JI x⟩
 | .bool _ | .int _ _ | .str _ | .ptr _ _ | .np | .fn _ _ _ | .nfn | .mp _ | .nmp | .slm _ _ _ _ | .slg _ _ _ | .ub | .nif | .dat _ _ | .any | .und => rfl
theorem GD : ∀ l : List AV, AQ l (Fn l)
 | [] => rfl
 | x :: xs => ⟨_, _, rfl, JI x, GD xs⟩
end
mutual
theorem QZ {r : List Nat} : ∀ {x y : AV}, Rn r x y → Rn r (weak x) (weak y)
 | .sl z l t, y, h => by
  simp only [Rn] at h; obtain ⟨l', t', rfl, a, b⟩ := h
  refine ⟨_, _, rfl, Ih a, ?_⟩
  cases t <;> simp only [RnT] at b
  ·subst b; rfl
  ·subst b; rfl
  ·obtain ⟨g, rfl, _⟩ := b; rfl
 | .agg _, _, h | .tup _, _, h => by simp only [Rn] at h; obtain ⟨l, rfl, a⟩ := h; exact ⟨_, rfl, Ih a⟩
 | .ref _, _, h | .ifc _ _, _, h => by simp only [Rn] at h; obtain ⟨l, rfl, a⟩ := h; exact ⟨_, rfl, QZ a⟩
 | .ptr _ _, _, h | .mp _, _, h | .slm _ _ _ _, _, h | .slg _ _ _, _, h | .dat _ _, _, h => by have k := h; simp only [Rn] at h; obtain ⟨l, rfl, a⟩ := h; exact k
 | .fn _ _ _, _, h => by have k := h; simp only [Rn] at h; obtain ⟨l, _, rfl, a⟩ := h; exact k
 | .any, _, _ => by simp only [weak, Rn]
 | .bool _, _, h | .int _ _, _, h | .str _, _, h | .np, _, h | .nfn, _, h | .nmp, _, h | .ub, _, h | .nif, _, h | .und, _, h => by simp only [Rn] at h; subst h; rfl
theorem Ih {r : List Nat} : ∀ {x y : List AV}, RnL r x y → RnL r (Fn x) (Fn y)
 | [], _, h => by simp only [RnL] at h; subst h; rfl
 | _ :: _, _, h => by simp only [RnL] at h; obtain ⟨x, l, rfl, a, b⟩ := h; exact ⟨_, _, rfl, QZ a, Ih b⟩
end
abbrev XH := List (Nat × AObj)
def Ag : XH → Nat → Option AObj
 | [], _ => none
 | x :: l, k => match Nat.beq k x.1 with | true => some x.2 | false => Ag l k
def IT : XH → Nat → AObj → XH
 | [], _, _ => []
 | x :: l, k, o => match Nat.beq k x.1 with | true => (k, o) :: l | false => x :: IT l k o
def FM : XH → Nat → XH
 | [], _ => []
 | x :: l, k => match Nat.beq k x.1 with | true => FM l k | false => x :: FM l k
theorem A0x {a b : Nat} (h : a ≠ b) : Nat.beq a b = false := Bool.eq_false_iff.2 fun e => h (Nat.eq_of_beq_eq_true e)
theorem CF (g k : Nat) (o : AObj) (l : XH) : Ag ((g, o) :: l) k = if k = g then some o else Ag l k := by
 simp only [Ag]
 by_cases h : k = g
 ·subst h; simp
 ·rw [if_neg h]; have : Nat.beq k g = false := A0x h
  rw [this]
theorem Lp {l : XH} {g : Nat} {o : AObj} {x : AObj} (h : Ag l g = some x) (k : Nat) : Ag (IT l g o) k = if k = g then some o else Ag l k := by
 induction l with
 | nil => simp [Ag] at h
 | cons y l ih =>
  obtain ⟨a, b⟩ := y
  rw [CF] at h
  simp only [IT]
  by_cases hg : g = a
  ·subst hg
   simp only [Nat.beq_refl, CF]
   split <;> rfl
  ·have : Nat.beq g a = false := A0x hg
   rw [if_neg hg] at h
   rw [this]; simp only [CF, ih h]
   by_cases hk : k = a
   ·subst hk; rw [if_pos rfl, if_neg (fun e => hg e.symm), if_pos rfl]
   ·simp only [if_neg hk]
theorem JN (l : XH) (g k : Nat) : Ag (FM l g) k = if k = g then none else Ag l k := by
 induction l with
 | nil => simp [FM, Ag]
 | cons y l ih =>
  obtain ⟨a, b⟩ := y
  simp only [FM]
  by_cases hg : g = a
  ·subst hg
   simp only [Nat.beq_refl, ih, CF]
   split
   ·rfl
   ·rfl
  ·have : Nat.beq g a = false := A0x hg
   rw [this]; simp only [CF, ih]
   by_cases hk : k = a
   ·subst hk; rw [if_pos rfl, if_neg (fun e => hg e.symm), if_pos rfl]
   ·simp only [if_neg hk]
theorem S8 {l : XH} {g : Nat} {o : AObj} (h : Ag l g = some o) : (g, o) ∈ l := by
 induction l with
 | nil => simp [Ag] at h
 | cons y l ih =>
  obtain ⟨a, b⟩ := y
  rw [CF] at h
  split at h
  ·rename_i hg; subst hg; injection h with h; subst h; exact List.mem_cons_self
  ·exact List.mem_cons_of_mem _ (ih h)
structure ES where
 e : AT
 k : Nat
 h : XH
structure XP where
 P : Program
 ef : List Nat
 mb : Nat → Bool
 mt : Nat → Bool
 orc : Nat → List AV → Option AV
 fz : Nat → Bool
abbrev XF := ACode → ES → Option (AExit × ES)
def pX (e : AT) (d : Option Nat) (v : AV) : AT := match d with | some t => Fa e t v | none => e
def Y2 (X : XP) (f : Nat) : Option AFun := match X.P.funcs[f]? with | some fn => Ah X.P X.ef fn | none => none
def YZ : Bool → Nat → List AV → AV
 | true, sz, cs => .agg (cs.take sz)
 | false, _, cs => cs.headD .any
def Ff (b : Bool) (sz : Nat) : Nat → List AV → List AV
 | 0, _ => []
 | n + 1, cs => YZ b sz cs :: Ff b sz n (cs.drop sz)
mutual
def A1u : AV → Option (Nat × Nat × Nat)
 | .slg s g k => some (s, g, k)
 | .agg l | .tup l => Zx l
 | _ => none
def Zx : List AV → Option (Nat × Nat × Nat)
 | [] => none
 | x :: xs => match A1u x with | some p => some p | none => Zx xs
end
mutual
def My (h : XH) : AV → Bool
 | .slg _ g _ => (match Ag h g with | some _ => true | none => false)
 | .agg l | .tup l => On h l
 | _ => true
def On (h : XH) : List AV → Bool
 | [] => true
 | x :: xs => My h x && On h xs
end
def WN (P : Program) (v : AV) (h : XH) : Option (AV × XH) := match A1u v with
 | none => none
 | some (sz, g, k) => match Ag h g with
  | some (.grow e cs) => match shp P e with
   | some s => match decide (Bn P e = sz) && (decide (0 < sz) && (decide (cs.length = k * sz) && ((s.isSome || decide (sz = 1)) && (cs.all AV.one && My h v)))) with
    | true => some (Fp g sz (Ff s.isSome sz k cs) v, FM h g)
    | false => none
   | none => none
  | _ => none
def W5 (P : Program) : Nat → AV → XH → AV × XH
 | 0, v, h => (v, h)
 | n + 1, v, h => match WN P v h with | some (v', h') => W5 P n v' h' | none => (v, h)
def Tj (X : XP) (ih : XF) (f : Nat) (av : List AV) (k : Nat) (h : XH) : Option (AV × Nat × XH) :=
 match Y2 X f with
 | some c => match Nat.beq av.length c.nargs with
  | true => match ih c.code ⟨Gw av, k, h⟩ with
   | some (.exit _, _) => none
   | some (_, s) => match Br ⟨s.e, 0, Ag s.h⟩ c.res with | some v => some (v, s.k, s.h) | none => none
   | none => none
  | false => none
 | none => none
def Kb (X : XP) (ih : XF) (f : Nat) (av : List AV) (k : Nat) (h : XH) : Option (AV × Nat × XH) :=
 match Tj X ih f av k h with
 | some (v, k, h) => match X.fz f with
  | true => some ((W5 X.P 9 v h).1, k, (W5 X.P 9 v h).2)
  | false => some (v, k, h)
 | none => none
def HU (s : ES) (d : Option Nat) (v : Nat → AV) (ob : AObj) : Option ES := some ⟨pX s.e d (v s.k), s.k + 1, (s.k, ob) :: s.h⟩
def M5 (l : List AV) : Bool := l.all AV.one
def Z4 (a b by_ : Nat) : Bool := decide ((a + b) * by_ ≤ 140737488355328) && decide (a + b ≤ maxLen)
def Xa (X : XP) (el sz by_ : Nat) (d : Option Nat) (s : ES) (m : List AV) : AV → Option ES
 | .sl z l t => match Z4 l.length m.length by_ with
  | true => match t with
   | .nil => match m with
    | [] => some ⟨pX s.e d (.sl sz [] .nil), s.k, s.h⟩
    | _ :: _ => match X.mt el && m.all Nl with
     | true => HU s d (fun g => .slg sz g m.length) (.grow el (AO m))
     | false => HU s d (fun g => .sl sz m (.own g)) (.row el m.length)
   | .own g0 => match Ag s.h g0 with
    | some (.row e' n) => match decide (z = sz) && (decide (e' = el) && decide (n = l.length)) with
     | true => HU ⟨s.e, s.k, FM s.h g0⟩ d (fun g => .sl sz (l ++ m) (.own g)) (.row el (l.length + m.length))
     | false => none
    | _ => none
   | .ro => none
  | false => none
 | .slg z g0 k => match Z4 k m.length by_ with
  | true => match Ag s.h g0 with
   | some (.grow e' cs) => match decide (z = sz) && (decide (e' = el) && (decide (cs.length = k * sz) && m.all Nl)) with
    | true => HU ⟨s.e, s.k, FM s.h g0⟩ d (fun g => .slg sz g (k + m.length)) (.grow el (cs ++ AO m))
    | false => none
   | _ => none
  | false => none
 | _ => none
def A15 (s : ES) (d : Option Nat) (sh : BV) (v : AV) : AV → Option ES
 | .ptr g o => match v.fits sh && M5 v.cells with
  | true => match Ag s.h g with
   | some (.cells t cs) => match decide (o + v.cells.length ≤ cs.length) with | true => some ⟨pX s.e d .any, s.k, IT s.h g (.cells t (splice cs o v.cells))⟩ | false => none
   | some (.grow t cs) => match decide (o + v.cells.length ≤ cs.length) with | true => some ⟨pX s.e d .any, s.k, IT s.h g (.grow t (splice cs o v.cells))⟩ | false => none
   | _ => none
  | false => none
 | _ => none
def SA (s : ES) (d : Option Nat) : Option AV → Option ES
 | some v => some ⟨pX s.e d v, s.k, s.h⟩
 | none => none
def GT (X : XP) (ih : XF) (d : Option Nat) (op : AOp) (s : ES) : Option ES :=
 match op with
 | .alloc t z => match M5 z with | true => HU s d (fun g => .ptr g 0) (.cells t z) | false => none
 | .box t sh x => match (ev s.e x).fits sh && M5 (ev s.e x).cells with | true => HU s d (fun g => .ptr g 0) (.cells t (ev s.e x).cells) | false => none
 | .store sh x v => A15 s d sh (ev s.e v) (ev s.e x)
 | .bsl t sh xs => match (xs.map (ev s.e)).all fun x => x.fits sh && M5 x.cells with
  | true => match X.mb t with
   | true => HU s d (fun g => .slm (Bq sh) g 0 xs.length) (.cells t (AO (xs.map (ev s.e))))
   | false => HU s d (fun g => .sl (Bq sh) (xs.map (ev s.e)) (.own g)) (.row t xs.length)
  | false => none
 | .app t sz b x y => match ev s.e y with
  | .sl z m _ => match Nat.beq z sz || m.isEmpty with | true => Xa X t sz b d s m (ev s.e x) | false => none
  | _ => none
 | .appB t b x y => match ev s.e y with | .str u => Xa X t 1 b d s (HV u) (ev s.e x) | _ => none
 | .s2b _ x => match ev s.e x with
  | .str b => match decide (b.length ≤ maxLen) with | true => some ⟨pX s.e d (.sl 1 (b.map fun u => .int .u8 u.toNat) .ro), s.k, s.h⟩ | false => none
  | _ => none
 | .s2s x => match ev s.e x with
  | .sl sz (y :: l) (.own g) => match Ag s.h g with | some (.row _ _) => some ⟨pX s.e d (.sl sz (y :: l) .ro), s.k, FM s.h g⟩ | _ => none
  | _ => none
 | .mkmap kk => HU s d .mp (.map kk [])
 | .mset kk m k v => match ev s.e m with
  | .mp g => match Ag s.h g with
   | some (.map kk' es) => match decide (kk' = kk) && C6 kk (ev s.e k) with | true => some ⟨pX s.e d .any, s.k, IT s.h g (.map kk (Cu (ev s.e k) (ev s.e v) es))⟩ | false => none
   | _ => none
  | _ => none
 | .mksl el b z x y => match ev s.e x, ev s.e y with
  | .int _ a, .int _ c => match decide (a = c) && (decide (0 ≤ a) && (decide ((b : Int) * a ≤ 281474976710656) && decide (a ≤ maxLen))) with
   | true => HU s d (fun g => .slm 1 g 0 a.toNat) (.cells el (List.replicate a.toNat z))
   | false => none
  | _, _ => none
 | .call f xs => match (match HD (xs.map (ev s.e)) with | true => X.orc f (xs.map (ev s.e)) | false => none) with
  | some v => some ⟨pX s.e d v, s.k, s.h⟩
  | none => match Kb X ih f (xs.map (ev s.e)) s.k s.h with | some (v, k, h) => some ⟨pX s.e d v, k, h⟩ | none => none
 | .callp f xs => match HD (Fn (xs.map (ev s.e))) with
  | true => match X.orc f (Fn (xs.map (ev s.e))) with
   | some v => some ⟨pX s.e d v, s.k, s.h⟩
   | none => match Kb X ih f (Fn (xs.map (ev s.e))) 0 [] with
    | some (v, _, _) => match Im (weak v) with | true => some ⟨pX s.e d (weak v), s.k, s.h⟩ | false => none
    | none => none
  | false => none
 | .callv x xs => match ev s.e x with
  | .fn f a b => match Ae X.P f with
   | true => match Kb X ih f (a ++ xs.map (ev s.e) ++ b) s.k s.h with | some (v, k, h) => some ⟨pX s.e d v, k, h⟩ | none => none
   | false => none
  | _ => none
 | .updn u x => SA s d (DC X.P (Ag s.h) u (ev s.e x))
 | .ust t x n => SA s d (EF t (ev s.e x) (ev s.e n))
 | .rng x => match ev s.e x with
  | .mp m => match Ag s.h m with
   | some (.map _ es) => HU s d (fun g => .ptr g 0) (.iter m es.length (List.range es.length) none)
   | _ => none
  | _ => none
 | .nxt _ => none
 | op => SA s d (pe op s.e (Ag s.h))
def Tx (X : XP) (ih : XF) (d : Option Nat) (op : AOp) (s : ES) : Option ES :=
 match op.okc with
 | false => none
 | true => GT X ih d op s
def RL (X : XP) (ih : XF) (o : AOper) (s : ES) : Option ES :=
 match o.guard with
 | none => Tx X ih o.dst o.op s
 | some (t, want) => match get s.e t with
  | .bool b => match decide (b = want) with | true => Tx X ih o.dst o.op s | false => some ⟨pX s.e o.dst .und, s.k, s.h⟩
  | .und => some ⟨pX s.e o.dst .und, s.k, s.h⟩
  | _ => none
def VB (X : XP) (ih : XF) : List AOper → ES → Option ES
 | [], s => some s
 | o :: os, s => match RL X ih o s with | some s => VB X ih os s | none => none
/-! regions in any order -/
def mX (h0 : XH) (gs : List Nat) (h : XH) : A3 := fun g => match Ag h0 g with | some _ => (match gs.contains g with | true => none | false => Ag h g) | none => none
def lvX (h0 : XH) (gs : List Nat) (sh : BV) (x : Opd) (g : Option (Nat × Bool)) (s : ES) : Option AV := match g with
 | none => BS (mX h0 gs s.h) sh (ev s.e x)
 | some (t, want) => match get s.e t with
  | .bool b => match decide (b = want) with | true => BS (mX h0 gs s.h) sh (ev s.e x) | false => some .und
  | .und => some .und
  | _ => none
def stM (m : Mode) (h0 : XH) (gs nw : List Nat) (x : Opd) (v : AV) : Bool := match m with
 | .late => (match v with | .ptr g _ => gs.contains g | _ => false)
 | .last q => (match x, v with
  | .t i, .ptr g _ => if i = q then (Ag h0 g).isSome && !gs.contains g else gs.contains g || nw.contains g
  | _, _ => false)
 | _ => true
def A0a (gs : List Nat) : AV → Bool
 | .slg _ g _ => gs.contains g
 | _ => true
def WR (gs : List Nat) (h h' : XH) : Bool := h.all fun x => gs.contains x.1 || !x.2.seen || (match Ag h' x.1 with | some o => eqO x.2 o | none => false)
def Xw (h h' : XH) : List Nat := (h.filter fun x => x.2.seen && !(match Ag h' x.1 with | some o => eqO x.2 o | none => false)).map (·.1)
def Ke (X : XP) (ih : XF) (m : Mode) (h0 : XH) (gs nw : List Nat) (o : AOper) (s : ES) : Option ES :=
 match o with
 | ⟨d, .load sh x, g⟩ => match Ig x with | true => SA s d (lvX h0 gs sh x g s) | false => none
 | ⟨d, .store sh x v, none⟩ => match stM m h0 gs nw x (ev s.e x) with | true => Tx X ih d (.store sh x v) s | false => none
 | ⟨d, .bsl t sh xs, none⟩ => match X.mb t with | false => Tx X ih d (.bsl t sh xs) s | true => none
 | ⟨d, .mget kk z ok mp k, none⟩ => match (AOp.mget kk z ok mp k).okc with | true => SA s d (pe (.mget kk z ok mp k) s.e (mX h0 gs s.h)) | false => none
 | ⟨d, .app t sz b x y, none⟩ => match A0a gs (ev s.e x) with | true => Tx X ih d (.app t sz b x y) s | false => none
 | ⟨d, .call f xs, none⟩ => match Tx X ih d (.call f xs) s with | some s' => (match WR gs s.h s'.h with | true => some s' | false => none) | none => none
 | o => RL X ih o s
def nwX (o : AOper) (S S' : ES) (nw : List Nat) : List Nat := match o with
 | ⟨_, .alloc _ _, none⟩ => S.k :: nw
 | ⟨_, .app _ _ _ x _, none⟩ => (match ev S.e x, Nat.beq S'.k (S.k + 1) with
  | .sl _ _ .nil, true | .slg _ _ _, true => S.k :: nw
  | _, _ => nw)
 | _ => nw
def T4 (X : XP) (ih : XF) (m : Mode) (h0 : XH) (gs : List Nat) : List Nat → List AOper → ES → Option ES
 | _, [], s => some s
 | nw, o :: os, s => match Ke X ih m h0 gs nw o s with | some s' => T4 X ih m h0 gs (nwX o s s' nw) os s' | none => none
def gsX (h : XH) (e : AT) : List Nat → Option (List Nat)
 | [] => some []
 | t :: ts => match get e t, gsX h e ts with
  | .ptr g _, some gs => (match Ag h g with | some _ => some (g :: gs) | none => none)
  | _, _ => none
def A2u (q : Nat) (e : AT) (gs : List Nat) : List Nat := match get e q with
 | .ptr g _ => gs.filter fun k => !Nat.beq k g
 | _ => gs
def A0j (X : XP) (ih : XF) (m : Mode) (S : List Nat) (ops : List AOper) (s : ES) : Option ES :=
 match gsX s.h s.e S with
 | none => none
 | some gs => match T4 X ih m s.h gs [] ops s with
  | some s' => some s'
  | none => match VB X ih ops s with
   | none => none
   | some s1 => T4 X ih m s.h ((match m with | .last q => A2u q s1.e (Xw s.h s1.h) | _ => Xw s.h s1.h) ++ gs) [] ops s
/-! rounds over a map: at most one entry makes a difference -/
def wrC : ACode → List Nat
 | .reg ops | .regD _ _ ops => ops.filterMap (·.dst)
 | .seq a b | .cond _ a b => wrC a ++ wrC b
 | .block _ c | .loop c => wrC c
 | _ => []
def anyW (W : List Nat) (e : AT) : AT := e.filter fun p => !W.contains p.1
def Us (e e1 : AT) : Bool := e.all fun p => KF p.2 (get e1 p.1)
def Zy (h h1 : XH) : Bool := h.all fun p => match Ag h1 p.1 with | some o => eqO p.2 o | none => false
def WT (ih : XF) (c : ACode) (t it m j : Nat) (s : ES) : Option (AExit × ES) :=
 match Ag s.h m with
 | some (.map _ es) => match es[j]? with
  | some x => ih c ⟨Fa s.e t (.tup [.bool true, x.1, x.2]), s.k, (it, .iter m es.length [] (some j)) :: s.h⟩
  | none => none
 | _ => none
def MA (ih : XF) (c : ACode) (t it m : Nat) (s : ES) (j : Nat) : Bool := match WT ih c t it m j s with | some (.normal, s1) => Us s.e s1.e && Zy s.h s1.h | _ => false
def Vb (ih : XF) (c : ACode) (t : Nat) (s : ES) : Option (AExit × ES) := match ih c ⟨Fa s.e t (.tup [.bool false]), s.k, s.h⟩ with
 | some (.normal, _) => none
 | o => o
def SJ (W : List Nat) (x : Opd) (it m len : Nat) (s : ES) : Option ES := match ev (anyW W s.e) x, Ag s.h it, Ag (FM s.h it) m with
 | .ptr it' 0, some _, some (.map _ es) => match Nat.beq it' it && Nat.beq es.length len with | true => some ⟨anyW W s.e, s.k, FM s.h it⟩ | false => none
 | _, _, _ => none
def A1m (ih : XF) (c : ACode) (W : List Nat) (t : Nat) (x : Opd) (s : ES) : Option (AExit × ES) :=
 match ev s.e x with
 | .ptr it _ => match Ag s.h it with
  | some (.iter m len left none) => match decide (left = List.range len) with
   | true => match SJ W x it m len s with
    | some s0 => match left.filter fun j => !MA ih c t it m s0 j with
     | [] => Vb ih c t s0
     | [j] => match WT ih c t it m j s0 with
      | some (.normal, s1) => match SJ W x it m len s1 with
       | some s2 => match (left.erase j).all fun j => MA ih c t it m s2 j with
        | true => Vb ih c t s2
        | false => none
       | none => none
      | _ => none
     | _ => none
    | none => none
   | false => none
  | _ => none
 | _ => none
def A1h : ACode → Option (Nat × Opd × List AOper × ACode)
 | .seq (.reg (⟨some t, .nxt x, none⟩ :: ops)) c2 => some (t, x, ops, c2)
 | _ => none
theorem Yz {c : ACode} {p : Nat × Opd × List AOper × ACode} (h : A1h c = some p) : c = .seq (.reg (⟨some p.1, .nxt p.2.1, none⟩ :: p.2.2.1)) p.2.2.2 := by
 unfold A1h at h
 split at h
 ·injection h with h; subst h; rfl
 ·cases h
def HM (X : XP) (ih : XF) : XF := fun c s => match c with
 | .skip => some (.normal, s)
 | .reg ops => match VB X ih ops s with | some s' => some (.normal, s') | none => none
 | .regD m S ops => match A0j X ih m S ops s with | some s' => some (.normal, s') | none => none
 | .seq a b => match ih a s with | some (.normal, s') => ih b s' | o => o
 | .cond c a b => match Ig c with
  | true => (match ev s.e c with | .bool true => ih a s | .bool false => ih b s | _ => none)
  | false => none
 | .block id c => match ih c s with
  | some (.exit i, s') => (match Nat.beq i id with | true => some (.normal, s') | false => some (.exit i, s'))
  | o => o
 | .loop c => match A1h c with
  | some (t, x, ops, c2) => (match Ig x with | true => A1m ih (.seq (.reg ops) c2) (t :: (ops.filterMap (·.dst) ++ wrC c2)) t x s | false => none)
  | none => match ih c s with | some (.normal, s') => ih (.loop c) s' | o => o
 | .exit id => some (.exit id, s)
 | .ret => some (.ret, s)
 | _ => none
def YD (X : XP) : Nat → XF
 | 0 => fun _ _ => none
 | n + 1 => HM X (YD X n)
abbrev EnvR (r : List Nat) (e e' : AT) : Prop := ∀ i, Rn r (get e i) (get e' i)
def MQ : AObj → Bool
 | .iter _ _ _ (some _) => true
 | _ => false
structure SimH (r : List Nat) (n0 : Nat) (H0 : A3) (k : Nat) (h : XH) (n : Nat) (H : A3) : Prop where
 len : k = r.length
 hp : HeapR r (Ag h) H
 lo : ∀ g ob a, Ag h g = some ob → r[g]? = some a → n0 ≤ a ∧ a < n ∧ (H0 a = none ∨ MQ ob = true)
 inj : ∀ g1 g2 o1 o2 a, Ag h g1 = some o1 → Ag h g2 = some o2 → r[g1]? = some a → r[g2]? = some a → g1 = g2
 fr0 : ∀ a, a < n0 → H a = H0 a
 fr : ∀ a ob, H0 a = some ob → H a = some ob
 n0n : n0 ≤ n
 van : ∀ a, n ≤ a → H a = none
section
variable {r : List Nat} {n0 k n n' : Nat} {H0 H : A3} {h : XH}
theorem SimH.new (s : SimH r n0 H0 k h n H) {g : Nat} (hg : H g = none) (h0 : n0 ≤ g) (hn : n ≤ n') (hl : g < n') {ob ob' : AObj} (ho : RnO (r ++ [g]) ob ob') : SimH (r ++ [g]) n0 H0 (k + 1) ((k, ob) :: h) n' (upd H g (some ob')) := by
 have hk : (r ++ [g])[k]? = some g := by rw [s.len]; simp
 have old : ∀ {g1 o1}, g1 ≠ k → Ag ((k, ob) :: h) g1 = some o1 → Ag h g1 = some o1 := fun hne e => by rw [CF, if_neg hne] at e; exact e
 have img : ∀ {g1 o1 a}, Ag h g1 = some o1 → (r ++ [g])[g1]? = some a → r[g1]? = some a ∧ ∃ o2, H a = some o2 ∧ RnO r o1 o2 := fun e1 e2 => by
  obtain ⟨a', o2, e3, e4, e5⟩ := s.hp _ _ e1
  rw [Ex.app r [g] _ _ e3] at e2; injection e2 with e2; subst e2
  exact ⟨e3, o2, e4, e5⟩
 have hH0 : H0 g = none := by
  cases e : H0 g with
  | none => rfl
  | some x => rw [s.fr _ _ e] at hg; cases hg
 refine ⟨by simp [s.len], ?_, ?_, ?_, ?_, ?_, by have := s.n0n; omega, ?_⟩
 ·intro g1 o1 e
  by_cases hne : g1 = k
  ·subst hne
   rw [CF, if_pos rfl] at e; injection e with e; subst e
   exact ⟨g, ob', hk, AX _ _ _, ho⟩
  ·obtain ⟨a, o2, e3, e4, e5⟩ := s.hp _ _ (old hne e)
   exact ⟨a, o2, Ex.app r [g] _ _ e3, by rw [upd_ne (by rintro rfl; rw [hg] at e4; cases e4)]; exact e4, e5.mono (Ex.app r [g])⟩
 ·intro g1 o1 a e e2
  by_cases hne : g1 = k
  ·subst hne; rw [hk] at e2; injection e2 with e2; subst e2; exact ⟨h0, hl, .inl hH0⟩
  ·obtain ⟨e3, _⟩ := img (old hne e) e2
   obtain ⟨a1, a2, a3⟩ := s.lo _ _ _ (old hne e) e3
   exact ⟨a1, by omega, a3⟩
 ·intro g1 g2 o1 o2 a e1 e2 e3 e4
  by_cases h1 : g1 = k <;> by_cases h2 : g2 = k
  ·rw [h1, h2]
  ·subst h1; rw [hk] at e3; injection e3 with e3; subst e3
   obtain ⟨_, o, e5, _⟩ := img (old h2 e2) e4; rw [hg] at e5; cases e5
  ·subst h2; rw [hk] at e4; injection e4 with e4; subst e4
   obtain ⟨_, o, e5, _⟩ := img (old h1 e1) e3; rw [hg] at e5; cases e5
  ·exact s.inj _ _ _ _ a (old h1 e1) (old h2 e2) (img (old h1 e1) e3).1 (img (old h2 e2) e4).1
 ·intro a ha; rw [upd_ne (by omega)]; exact s.fr0 a ha
 ·intro a o e; rw [upd_ne (by rintro rfl; rw [hH0] at e; cases e)]; exact s.fr a o e
 ·intro a ha; rw [upd_ne (by omega)]; exact s.van a (by omega)
theorem SimH.set (s : SimH r n0 H0 k h n H) {g a : Nat} {o ob ob' : AObj} (hg : Ag h g = some o) (ha : r[g]? = some a) (ho : RnO r ob ob') (hi : MQ o = false := by rfl) : SimH r n0 H0 k (IT h g ob) n (upd H a (some ob')) := by
 obtain ⟨l1, l2, l3⟩ := s.lo _ _ _ hg ha
 replace l3 := l3.resolve_right (by rw [hi]; simp)
 have live : ∀ {g1 o1}, Ag (IT h g ob) g1 = some o1 → ∃ o2, Ag h g1 = some o2 := fun e => by
  rw [Lp hg] at e; split at e
  ·rename_i e1; subst e1; exact ⟨o, hg⟩
  ·exact ⟨_, e⟩
 refine ⟨s.len, ?_, ?_, ?_, ?_, ?_, s.n0n, ?_⟩
 ·intro g1 o1 e
  rw [Lp hg] at e
  split at e
  ·rename_i e1; subst e1; injection e with e; subst e
   exact ⟨a, ob', ha, AX _ _ _, ho⟩
  ·rename_i hne
   obtain ⟨a1, o2, e3, e4, e5⟩ := s.hp _ _ e
   exact ⟨a1, o2, e3, by rw [upd_ne (by rintro rfl; exact hne (s.inj _ _ _ _ _ e hg e3 ha))]; exact e4, e5⟩
 ·intro g1 o1 a1 e e2
  by_cases h1 : g1 = g
  ·subst h1; rw [ha] at e2; injection e2 with e2; subst e2; exact ⟨l1, l2, .inl l3⟩
  ·rw [Lp hg, if_neg h1] at e; exact s.lo _ _ _ e e2
 ·intro g1 g2 o1 o2 a1 e1 e2 e3 e4; obtain ⟨_, e5⟩ := live e1; obtain ⟨_, e6⟩ := live e2; exact s.inj _ _ _ _ _ e5 e6 e3 e4
 ·intro a1 h1; rw [upd_ne (by omega)]; exact s.fr0 a1 h1
 ·intro a1 o1 e; rw [upd_ne (by rintro rfl; rw [l3] at e; cases e)]; exact s.fr a1 o1 e
 ·intro a1 h1; rw [upd_ne (by omega)]; exact s.van a1 h1
theorem SimH.del (s : SimH r n0 H0 k h n H) {g a : Nat} {o : AObj} (hg : Ag h g = some o) (ha : r[g]? = some a) (hi : MQ o = false := by rfl) : SimH r n0 H0 k (FM h g) n (upd H a none) := by
 obtain ⟨l1, l2, l3⟩ := s.lo _ _ _ hg ha
 replace l3 := l3.resolve_right (by rw [hi]; simp)
 have live : ∀ {g1 o1}, Ag (FM h g) g1 = some o1 → g1 ≠ g ∧ Ag h g1 = some o1 := fun e => by
  rw [JN] at e; split at e
  ·cases e
  ·rename_i e1; exact ⟨e1, e⟩
 refine ⟨s.len, ?_, ?_, ?_, ?_, ?_, s.n0n, ?_⟩
 ·intro g1 o1 e
  obtain ⟨hne, e⟩ := live e
  obtain ⟨a1, o2, e3, e4, e5⟩ := s.hp _ _ e
  exact ⟨a1, o2, e3, by rw [upd_ne (by rintro rfl; exact hne (s.inj _ _ _ _ _ e hg e3 ha))]; exact e4, e5⟩
 ·intro g1 o1 a1 e e2; exact s.lo _ _ _ (live e).2 e2
 ·intro g1 g2 o1 o2 a1 e1 e2 e3 e4; exact s.inj _ _ _ _ _ (live e1).2 (live e2).2 e3 e4
 ·intro a1 h1; rw [upd_ne (by omega)]; exact s.fr0 a1 h1
 ·intro a1 o1 e; rw [upd_ne (by rintro rfl; rw [l3] at e; cases e)]; exact s.fr a1 o1 e
 ·intro a1 h1; rw [upd_ne (by omega)]; exact s.van a1 h1
theorem SimH.up (s : SimH r n0 H0 k h n H) (hn : n ≤ n') : SimH r n0 H0 k h n' H :=
 ⟨s.len, s.hp, fun g ob a e1 e2 => by obtain ⟨a1, a2, a3⟩ := s.lo g ob a e1 e2; exact ⟨a1, by omega, a3⟩, s.inj, s.fr0, s.fr, by have := s.n0n; omega, fun a ha => s.van a (by omega)⟩
theorem SimH.base (s : SimH r n0 H0 k h n H) : ∃ H1, SimH r n0 H1 k h n H ∧ (∀ a ob, H0 a = some ob → H1 a = some ob) ∧ (∀ a, a < n0 → H1 a = H0 a) ∧ ∀ a ob, H a = some ob → (∃ g o, Ag h g = some o ∧ r[g]? = some a ∧ MQ o = false) ∨ H1 a = some ob := by
 classical
 refine ⟨fun a => if ∃ g o, Ag h g = some o ∧ r[g]? = some a ∧ MQ o = false then none else H a, ⟨s.len, s.hp, ?_, s.inj, ?_, ?_, s.n0n, s.van⟩, ?_, ?_, ?_⟩
 ·intro g ob a e1 e2
  obtain ⟨a1, a2, a3⟩ := s.lo g ob a e1 e2
  refine ⟨a1, a2, ?_⟩
  cases e3 : MQ ob with
  | true => exact .inr rfl
  | false => exact .inl (if_pos ⟨g, ob, e1, e2, e3⟩)
 ·intro a ha; rw [if_neg]; rintro ⟨g, o, e1, e2, _⟩; have := (s.lo g o a e1 e2).1; omega
 ·intro a ob e; split at e
  ·cases e
  ·exact e
 ·intro a ob e; dsimp only; rw [if_neg]
  ·exact s.fr a ob e
  ·rintro ⟨g, o, e1, e2, e3⟩
   rcases (s.lo g o a e1 e2).2.2 with h1 | h1
   ·rw [h1] at e; cases e
   ·rw [h1] at e3; cases e3
 ·intro a ha; dsimp only; rw [if_neg, s.fr0 a ha]; rintro ⟨g, o, e1, e2, _⟩; have := (s.lo g o a e1 e2).1; omega
 ·intro a ob e
  by_cases hx : ∃ g o, Ag h g = some o ∧ r[g]? = some a ∧ MQ o = false
  ·exact .inl hx
  ·exact .inr (by dsimp only; rw [if_neg hx]; exact e)
theorem SimH.unbase {H1 : A3} (s : SimH r n0 H1 k h n H) (h1 : ∀ a ob, H0 a = some ob → H1 a = some ob) (h2 : ∀ a, a < n0 → H1 a = H0 a) : SimH r n0 H0 k h n H :=
 ⟨s.len, s.hp, fun g ob a e1 e2 => ⟨(s.lo g ob a e1 e2).1, (s.lo g ob a e1 e2).2.1, (s.lo g ob a e1 e2).2.2.imp (fun h => Option.eq_none_iff_forall_ne_some.2 fun x e => by have := h1 _ _ e; rw [h] at this; cases this) id⟩, s.inj, fun a ha => (s.fr0 a ha).trans (h2 a ha), fun a ob e => s.fr a ob (h1 a ob e), s.n0n, s.van⟩
theorem SimH.drop (s : SimH r n0 H0 k h n H) (g : Nat) : SimH r n0 H0 k (FM h g) n H := by
 have live : ∀ {g1 o1}, Ag (FM h g) g1 = some o1 → Ag h g1 = some o1 := fun e => by
  rw [JN] at e; split at e
  ·cases e
  ·exact e
 exact ⟨s.len, fun g1 o1 e => s.hp _ _ (live e), fun g1 o1 a e => s.lo _ _ _ (live e), fun g1 g2 o1 o2 a e1 e2 => s.inj _ _ _ _ _ (live e1) (live e2), s.fr0, s.fr, s.n0n, s.van⟩
theorem SimH.track (s : SimH r n0 H0 k h n H) {g a : Nat} (ha : r[g]? = some a) (hu : ∀ g1 o, Ag h g1 = some o → r[g1]? ≠ some a) (h1 : n0 ≤ a) (h2 : a < n) (h3 : H0 a = none) {ob ob' : AObj} (ho : RnO r ob ob') : SimH r n0 H0 k ((g, ob) :: h) n (upd H a (some ob')) := by
 have old : ∀ {g1 o1}, g1 ≠ g → Ag ((g, ob) :: h) g1 = some o1 → Ag h g1 = some o1 := fun hne e => by rw [CF, if_neg hne] at e; exact e
 refine ⟨s.len, ?_, ?_, ?_, ?_, ?_, s.n0n, ?_⟩
 ·intro g1 o1 e
  by_cases hne : g1 = g
  ·subst hne
   rw [CF, if_pos rfl] at e; injection e with e; subst e
   exact ⟨a, ob', ha, AX _ _ _, ho⟩
  ·obtain ⟨b, o2, e3, e4, e5⟩ := s.hp _ _ (old hne e)
   exact ⟨b, o2, e3, by rw [upd_ne (by rintro rfl; exact hu _ _ (old hne e) e3)]; exact e4, e5⟩
 ·intro g1 o1 b e e2
  by_cases hne : g1 = g
  ·subst hne; rw [ha] at e2; injection e2 with e2; subst e2; exact ⟨h1, h2, .inl h3⟩
  ·exact s.lo _ _ _ (old hne e) e2
 ·intro g1 g2 o1 o2 b e1 e2 e3 e4
  by_cases q1 : g1 = g <;> by_cases q2 : g2 = g
  ·rw [q1, q2]
  ·subst q1; rw [ha] at e3; injection e3 with e3; subst e3; exact absurd e4 (hu _ _ (old q2 e2))
  ·subst q2; rw [ha] at e4; injection e4 with e4; subst e4; exact absurd e3 (hu _ _ (old q1 e1))
  ·exact s.inj _ _ _ _ b (old q1 e1) (old q2 e2) e3 e4
 ·intro b hb; rw [upd_ne (by omega)]; exact s.fr0 b hb
 ·intro b o e; rw [upd_ne (by rintro rfl; rw [h3] at e; cases e)]; exact s.fr b o e
 ·intro b hb; rw [upd_ne (by omega)]; exact s.van b hb
end
theorem XI (e : AT) (t : Nat) (v : AV) (i : Nat) : get (Fa e t v) i = if t = i then v else get e i := by
 induction e with
 | nil => simp [Fa, get]
 | cons x e ih =>
  obtain ⟨a, b⟩ := x
  simp only [Fa]
  split
  ·rename_i h; subst h; by_cases h1 : a = i <;> simp [get, h1]
  ·rename_i h
   simp only [get, ih]
   split
   ·rename_i h1; subst h1; rw [if_neg (fun e => h e.symm)]
   ·rfl
theorem EnvR.put {r : List Nat} {e e' : AT} (he : EnvR r e e') {v v' : AV} (hv : Rn r v v') (d : Option Nat) : EnvR r (pX e d v) (AN e' d v') := by
 intro i
 rw [Af]
 cases d with
 | none => simpa [pX] using he i
 | some t =>
  simp only [pX, XI, Option.some.injEq]
  split
  ·exact hv
  ·exact he i
theorem EnvR.mono {r r' : List Nat} (hx : Ex r r') {e e' : AT} (he : EnvR r e e') : EnvR r' e e' := fun i => (he i).mono hx
def Dr (X : XP) (ih : XF) : Prop := ∀ c S x S', ih c S = some (x, S') → ∀ (r : List Nat) (n0 : Nat) (H0 : A3) (s : AS) (Q : AExit → AS → Prop), EnvR r S.e s.e → SimH r n0 H0 S.k S.h s.n s.H →
 (∀ r' s', Ex r r' → s.n ≤ s'.n → EnvR r' S'.e s'.e → SimH r' n0 H0 S'.k S'.h s'.n s'.H → Q x s') → aw X.P c Q s
def HB (X : XP) : Prop := ∀ f l v, X.orc f l = some v → APure X.P f l v ∧ Im v = true
theorem IC {P : Program} {ef : List Nat} {nt : Nat} : ∀ (c : Code) {ac : ACode}, CK P ef nt c = some ac → bare ac = ac
 | .skip, _, h => by simp only [CK, Option.some.injEq] at h; subst h; rfl
 | .region id ops draw, _, h => by
  simp only [CK] at h
  rcases CG h with ⟨os, rfl⟩ | ⟨m, S, os, rfl⟩ | rfl <;> rfl
 | .seq a b, _, h => by
  simp only [CK] at h
  split at h
  ·rename_i x y h1 h2; injection h with h; subst h; simp only [bare, IC a h1, IC b h2]
  ·cases h
 | .cond c a b, _, h => by
  simp only [CK] at h
  split at h
  ·rename_i z x y h0 h1 h2; injection h with h; subst h; simp only [bare, IC a h1, IC b h2]
  ·cases h
 | .block id c, _, h => by
  simp only [CK] at h
  obtain ⟨x, h1, rfl⟩ := DJ h
  simp only [bare, IC c h1]
 | .loop c, _, h => by
  simp only [CK] at h
  obtain ⟨x, h1, rfl⟩ := DJ h
  simp only [bare, IC c h1]
 | .exit id, _, h => by simp only [CK, Option.some.injEq] at h; subst h; rfl
 | .ret, _, h => by simp only [CK, Option.some.injEq] at h; subst h; rfl
 | .scope _, _, h | .rangeFunc _ _ _ _, _, h | .refuse _, _, h | .label _, _, h | .goto _, _, h => by simp only [CK, Option.some.injEq] at h; subst h; rfl
theorem Y6 {X : XP} {f : Nat} {c : AFun} (h : Y2 X f = some c) : ∃ fn, X.P.funcs[f]? = some fn ∧ (Ah X.P X.ef fn).map (fun x => (x.nargs, x.nt, x.res, x.code)) = some (c.nargs, c.nt, c.res, bare c.code) := by
 unfold Y2 at h
 split at h
 ·rename_i fn hf
  refine ⟨fn, hf, ?_⟩
  rw [h]
  simp only [Option.map_some, Option.some.injEq, Prod.mk.injEq, true_and]
  unfold Ah at h
  split at h
  ·split at h
   ·rename_i ac r hc hr
    split at h
    ·injection h with h; subst h; exact (IC _ hc).symm
    ·cases h
   ·cases h
  ·cases h
 ·cases h
section
variable {r : List Nat} {n0 : Nat} {H0 : A3} {X : XP} {ih : XF} {S S' : ES} {s : AS} {d : Option Nat}
theorem TR {e e' : AT} {h H : A3} {n n' : Nat} (he : EnvR r e e') (hh : HeapR r h H) : ∀ {l : List ARes} {xs : List AV}, CH ⟨e, n, h⟩ l = some xs → ∃ ys, CH ⟨e', n', H⟩ l = some ys ∧ RnL r xs ys
 | [], _, k => by simp only [CH, Option.some.injEq] at k; subst k; exact ⟨[], rfl, rfl⟩
 | a :: l, _, k => by
  simp only [CH] at k
  split at k
  ·rename_i x xs h1 h2
   injection k with k; subst k
   obtain ⟨ys, h3, h4⟩ := TR (n' := n') he hh h2
   have h5 : ∃ y, Er ⟨e', n', H⟩ a = some y ∧ Rn r x y := by
    cases a with
    | tmp t => simp only [Er, Option.some.injEq] at h1 ⊢; subst h1; exact ⟨_, rfl, he t⟩
    | cell t sh => simp only [Er] at h1 ⊢; exact Q1 hh (he t) h1
   obtain ⟨y, h5, h6⟩ := h5
   exact ⟨y :: ys, by simp only [CH, h5, h3], y, ys, rfl, h6, h4⟩
  ·cases k
theorem YI {e e' : AT} {h H : A3} {n n' : Nat} (he : EnvR r e e') (hh : HeapR r h H) {l : List ARes} {v : AV} (k : Br ⟨e, n, h⟩ l = some v) : ∃ u, Br ⟨e', n', H⟩ l = some u ∧ Rn r v u := by
 unfold Br at k ⊢
 split at k
 ·rename_i x hx
  injection k with k; subst k
  obtain ⟨ys, h1, h2⟩ := TR (n' := n') he hh hx
  simp only [RnL] at h2; obtain ⟨y, _, rfl, h2, rfl⟩ := h2
  exact ⟨y, by simp only [h1], h2⟩
 ·rename_i xs hne hx
  injection k with k; subst k
  obtain ⟨ys, h1, h2⟩ := TR (n' := n') he hh hx
  refine ⟨.tup ys, ?_, ys, rfl, h2⟩
  simp only [h1]
  have hl := h2.len
  match ys, hl with
  | [], _ => rfl
  | [y], hl =>
   match xs, hl with
   | [x], _ => exact absurd rfl (hne x)
  | _ :: _ :: _, _ => rfl
 ·cases k
theorem Yg {l l' : List AV} (h : RnL r l l') : EnvR r (Gw l) (Gw l') := by
 intro i
 have h1 := Lm l i 0
 have h2 := Lm l' i 0
 simp only [Nat.zero_le, if_true, Nat.sub_zero] at h1 h2
 show Rn r (get ((l.zipIdx 0).map fun x => (x.2, x.1)) i) (get ((l'.zipIdx 0).map fun x => (x.2, x.1)) i)
 rw [h1, h2]
 cases e : l[i]? with
 | none => simp [Rn]
 | some x => obtain ⟨y, e1, e2⟩ := h.at_ e; rw [e1]; exact e2
theorem V6 (hi : Dr X ih) {f : Nat} {l l' : List AV} {k k' n : Nat} {h h' : XH} {H : A3} {v : AV} (hc : Tj X ih f l k h = some (v, k', h')) (hs : SimH r n0 H0 k h n H) (ha : RnL r l l') :
  ACalls X.P f l' n H fun u n' H' => ∃ r', Ex r r' ∧ SimH r' n0 H0 k' h' n' H' ∧ Rn r' v u := by
 unfold Tj at hc
 split at hc
 ·rename_i c hl
  obtain ⟨fn, hf, hcf⟩ := Y6 hl
  split at hc
  ·rename_i hb
   have hlen : l'.length = c.nargs := by rw [ha.len]; exact Nat.eq_of_beq_eq_true hb
   have fin' : ∀ (x : AExit) (s1 : ES), ih c.code ⟨Gw l, k, h⟩ = some (x, s1) → (∀ i, x ≠ .exit i) → Br ⟨s1.e, 0, Ag s1.h⟩ c.res = some v → s1.k = k' → s1.h = h' → ACalls X.P f l' n H fun u n' H' => ∃ r', Ex r r' ∧ SimH r' n0 H0 k' h' n' H' ∧ Rn r' v u := by
    intro x s1 hx hne hv e1 e2
    subst e1; subst e2
    refine A8 hf hcf hlen fun _ => hi _ _ _ _ hx r n0 H0 ⟨Gw l', n, H⟩ _ (Yg ha) hs fun r' s' hex hle he hs' => ?_
    obtain ⟨u, h1, h2⟩ := YI (n' := s'.n) he hs'.hp hv
    have : ∃ r n' H', (∃ x, Br s' c.res = some x ∧ AM x r) ∧ n ≤ n' ∧ n' ≤ s'.n ∧ (∀ k, n' ≤ k → H' k = none) ∧ SameB n' H' s'.H ∧ ∃ r', Ex _ r' ∧ SimH r' n0 H0 s1.k s1.h n' H' ∧ Rn r' v r := ⟨u, s'.n, s'.H, ⟨u, h1, A5 u⟩, hle, Nat.le_refl _, hs'.van, SameB.rfl_ _ _, r', hex, hs', h2⟩
    cases x with
    | normal => exact this
    | ret => exact this
    | exit i => exact absurd rfl (hne i)
   split at hc
   ·cases hc
   ·rename_i x s1 hne hx
    split at hc
    ·rename_i v' hv
     injection hc with hc; injection hc with e0 hc; injection hc with e1 e2; subst e0
     exact fin' x s1 hx hne hv e1 e2
    ·cases hc
   ·cases hc
  ·cases hc
 ·cases hc
mutual
theorem U9 {g a sz : Nat} {l l' : List AV} (hl : RnL r l l') (ha : r[g]? = some a) {h : XH} (hi : ∀ g' o, Ag h g' = some o → r[g']? = some a → g' = g) : ∀ {x y : AV}, My h x = true → Rn r x y → Rn r (Fp g sz l x) (Fp a sz l' y)
 | .slg s' g' k, y, hv, hx => by
  simp only [My] at hv
  simp only [Rn] at hx; obtain ⟨b, rfl, hb⟩ := hx
  simp only [Fp, hl.len]
  by_cases hg : g' = g
  ·subst hg
   rw [ha] at hb; injection hb with hb; subst hb
   simp only [true_and]
   split
   ·exact ⟨l', .ro, rfl, hl, rfl⟩
   ·exact ⟨_, rfl, ha⟩
  ·have hba : b ≠ a := by
    rintro rfl
    split at hv
    ·rename_i o ho; exact hg (hi _ _ ho hb)
    ·cases hv
   simp only [hg, hba, false_and, and_false, if_false]
   exact ⟨_, rfl, hb⟩
 | .agg cs, y, hv, hx => by simp only [My] at hv; simp only [Rn] at hx; obtain ⟨ds, rfl, hx⟩ := hx; exact ⟨_, rfl, OJ hl ha hi hv hx⟩
 | .tup cs, y, hv, hx => by simp only [My] at hv; simp only [Rn] at hx; obtain ⟨ds, rfl, hx⟩ := hx; exact ⟨_, rfl, OJ hl ha hi hv hx⟩
 | .any, _, _, _ => by simp only [Fp, Rn]
 | .sl _ _ _, _, _, hx | .fn _ _ _, _, _, hx => by have k := hx; simp only [Rn] at hx; obtain ⟨_, _, rfl, _⟩ := hx; exact k
 | .ptr _ _, _, _, hx | .mp _, _, _, hx | .slm _ _ _ _, _, _, hx | .dat _ _, _, _, hx | .ref _, _, _, hx | .ifc _ _, _, _, hx => by have k := hx; simp only [Rn] at hx; obtain ⟨_, rfl, _⟩ := hx; exact k
 | .bool _, _, _, hx | .int _ _, _, _, hx | .str _, _, _, hx | .np, _, _, hx | .nfn, _, _, hx | .nmp, _, _, hx | .ub, _, _, hx | .nif, _, _, hx | .und, _, _, hx => by simp only [Rn] at hx; subst hx; simp only [Fp, Rn]
theorem OJ {g a sz : Nat} {l l' : List AV} (hl : RnL r l l') (ha : r[g]? = some a) {h : XH} (hi : ∀ g' o, Ag h g' = some o → r[g']? = some a → g' = g) : ∀ {x y : List AV}, On h x = true → RnL r x y → RnL r (IV g sz l x) (IV a sz l' y)
 | [], _, _, hx => by simp only [RnL] at hx; subst hx; rfl
 | _ :: _, _, hv, hx => by
  simp only [On, Bool.and_eq_true] at hv
  simp only [RnL] at hx; obtain ⟨x, xs, rfl, h1, h2⟩ := hx
  exact ⟨_, _, rfl, U9 hl ha hi hv.1 h1, OJ hl ha hi hv.2 h2⟩
end
theorem Rs {b : Bool} {sz : Nat} : ∀ {n : Nat} {cs ds : List AV}, RnL r cs ds → RnL r (Ff b sz n cs) (Ff b sz n ds)
 | 0, _, _, _ => rfl
 | n + 1, cs, ds, h => by
  refine ⟨_, _, rfl, ?_, Rs (h.dp sz)⟩
  cases b
  ·cases cs with
   | nil => simp only [RnL] at h; subst h; simp [YZ, Rn]
   | cons x xs => simp only [RnL] at h; obtain ⟨y, ys, rfl, h1, _⟩ := h; exact h1
  ·exact ⟨_, rfl, h.tk sz⟩
theorem Vt {x : AV} (h : x.one = true) : x.cells = [x] := by cases x <;> first | rfl | cases h
theorem L9 {b : Bool} {sz : Nat} (hb : b = true ∨ sz = 1) : ∀ {n : Nat} {cs : List AV}, cs.length = n * sz → ones cs → AO (Ff b sz n cs) = cs ∧ ∀ x ∈ Ff b sz n cs, x.cells.length = sz
 | 0, cs, h, _ => by
  have : cs = [] := List.length_eq_zero_iff.1 (by simpa using h)
  subst this; exact ⟨rfl, by simp [Ff]⟩
 | n + 1, cs, h, h1 => by
  rw [Nat.succ_mul] at h
  obtain ⟨e1, e2⟩ := L9 hb (n := n) (cs := cs.drop sz) (by simp; omega) fun x hx => h1 x (List.mem_of_mem_drop hx)
  have hd : (YZ b sz cs).cells = cs.take sz := by
   cases b
   ·have := hb.resolve_left (by simp)
    subst this
    cases cs with
    | nil => simp at h
    | cons x xs => simp only [YZ, List.headD_cons, List.take_succ_cons, List.take_zero]; exact Vt (h1 x List.mem_cons_self)
   ·rfl
  refine ⟨?_, fun x hx => ?_⟩
  ·simp only [Ff, AO, List.flatMap_cons] at e1 ⊢
   rw [e1, hd, List.take_append_drop]
  ·simp only [Ff, List.mem_cons] at hx
   rcases hx with rfl | hx
   ·rw [hd]; simp; omega
   ·exact e2 x hx
abbrev SE (r : List Nat) (n0 : Nat) (H0 : A3) (k : Nat) (h : XH) (v : AV) : CJ := fun u n' H' => ∃ r', Ex r r' ∧ SimH r' n0 H0 k h n' H' ∧ Rn r' v u
theorem Yp {f k n : Nat} {l : List AV} {h h' : XH} {H : A3} {v v' : AV} (hc : ACalls X.P f l n H (SE r n0 H0 k h v)) (hf : WN X.P v h = some (v', h')) : ACalls X.P f l n H (SE r n0 H0 k h' v') := by
 unfold WN at hf
 split at hf
 ·cases hf
 ·rename_i sz g j _
  split at hf
  ·rename_i e cs hg
   split at hf
   ·rename_i s hsh
    split at hf
    ·rename_i hz
     simp only [Bool.and_eq_true, decide_eq_true_eq, Bool.or_eq_true] at hz
     obtain ⟨z1, z2, z3, z4, z5, z6⟩ := hz
     injection hf with hf; injection hf with e1 e2; subst e1; subst e2
     refine hc.frz fun u n' H' _ ⟨r', hx, hs, hv⟩ => ?_
     obtain ⟨a, ob, q1, q2, q3⟩ := hs.hp g _ hg
     simp only [RnO] at q3; obtain ⟨ds, rfl, q3⟩ := q3
     obtain ⟨c1, c2⟩ := L9 (b := s.isSome) z4 (n := j) (cs := ds) (by rw [q3.len]; exact z3) (q3.ones fun x hx => List.all_eq_true.1 z5 x hx)
     exact ⟨a, e, sz, Ff s.isSome sz j ds, by rw [c1]; exact q2, z1, z2, c2, r', hx, hs.del hg q1, U9 (Rs q3) q1 (fun g' o p1 p2 => hs.inj _ _ _ _ _ p1 hg p2 q1) z6 hv⟩
    ·cases hf
   ·cases hf
  ·cases hf
theorem Uw {f k n : Nat} {l : List AV} {H : A3} : ∀ (m : Nat) {h : XH} {v : AV}, ACalls X.P f l n H (SE r n0 H0 k h v) → ACalls X.P f l n H (SE r n0 H0 k (W5 X.P m v h).2 (W5 X.P m v h).1)
 | 0, _, _, hc => hc
 | m + 1, h, v, hc => by
  simp only [W5]
  split
  ·rename_i v' h' e; exact Uw m (Yp hc e)
  ·exact hc
theorem RW (hi : Dr X ih) {f : Nat} {l l' : List AV} {k k' n : Nat} {h h' : XH} {H : A3} {v : AV} (hc : Kb X ih f l k h = some (v, k', h')) (hs : SimH r n0 H0 k h n H) (ha : RnL r l l') : ACalls X.P f l' n H (SE r n0 H0 k' h' v) := by
 unfold Kb at hc
 split at hc
 ·rename_i v0 k0 h0 h1
  have h2 := V6 hi h1 hs ha
  split at hc
  ·injection hc with hc; injection hc with e1 hc; injection hc with e2 e3
   subst e1; subst e2; subst e3
   exact Uw 9 h2
  ·injection hc with hc; injection hc with e1 hc; injection hc with e2 e3
   subst e1; subst e2; subst e3
   exact h2
 ·cases hc
theorem ACalls.simX {P : Program} {f n : Nat} {args : List AV} {H : A3} {R R' : CJ} (h : ACalls P f args n H R) (k : ∀ u n' H', R u n' H' → ∃ u', AM u u' ∧ R' u' n' H') : ACalls P f args n H R' :=
 fun hs w0 G w vs hl hr hv => (h hs w0 G w vs hl hr hv).mono fun e w' ⟨v, r, G', n', H', e1, e2, e3, e4, e5, e6⟩ => by
  obtain ⟨u', h1, h2⟩ := k r n' H' e2
  exact ⟨v, u', G', n', H', e1, h2, e3.sim h1, e4, e5, e6⟩
theorem pure_ok (hi : Dr X ih) {f k' : Nat} {l : List AV} {h' : XH} {v : AV} (hc : Kb X ih f l 0 [] = some (v, k', h')) (hl : HD l = true) (hv : Im (weak v) = true) : APure X.P f l (weak v) := by
 intro n H hz
 have hs : SimH [] n H 0 [] n H := ⟨rfl, fun g ob e => by simp [Ag] at e, fun g ob a e => by simp [Ag] at e, fun g1 g2 o1 o2 a e => by simp [Ag] at e, fun _ _ => rfl, fun _ _ e => e, Nat.le_refl _, hz⟩
 refine (((RW hi hc hs (RnL.of_nid hl)).simX (R' := fun u n' H' => u = weak v ∧ SameB n H H') fun u n' H' ⟨r', _, hs', hu⟩ => ⟨weak u, JI u, Rn.eq_nid hv (QZ hu), hs'.fr0⟩).forget fun u n' H' _ ⟨h1, h2⟩ => ⟨h2, h1, rfl, rfl⟩) hz
end
section
variable {r : List Nat} {n0 : Nat} {H0 : A3} {X : XP} {ih : XF} {S S' : ES} {s : AS} {d : Option Nat} {K : AS → Prop}
abbrev Goes (r : List Nat) (n0 : Nat) (H0 : A3) (S' : ES) (s : AS) (K : AS → Prop) : Prop := ∀ r' s', Ex r r' → s.n ≤ s'.n → EnvR r' S'.e s'.e → SimH r' n0 H0 S'.k S'.h s'.n s'.H → K s'
theorem M3 {o : Option AV} {o' : Option AV} (hE : EnvR r S.e s.e) (hs : SimH r n0 H0 S.k S.h s.n s.H) (h : SA S d o = some S') (ho : ∀ v, o = some v → ∃ u, o' = some u ∧ Rn r v u) (hk : Goes r n0 H0 S' s K) : K1 o' fun v => K ⟨AN s.e d v, s.n, s.H⟩ := by
 cases o with
 | none => cases h
 | some v =>
  obtain ⟨u, rfl, h2⟩ := ho v rfl
  simp only [SA, Option.some.injEq] at h; subst h
  exact hk r _ (Ex.rfl_ r) (Nat.le_refl _) (hE.put h2 d) hs
theorem PS {v : Nat → AV} {v' : Nat → AV} {ob : AObj} {ob' : AObj} (hE : EnvR r S.e s.e) (hs : SimH r n0 H0 S.k S.h s.n s.H) (h : HU S d v ob = some S') (hv : ∀ g, (r ++ [g])[S.k]? = some g → Rn (r ++ [g]) (v S.k) (v' g)) (ho : ∀ g, RnO (r ++ [g]) ob ob')
  (g n' : Nat) (hg : s.H g = none) (h0 : n0 ≤ g) (hn : s.n ≤ n') (hl : g < n') (hk : (r ++ [g])[S.k]? = some g → EnvR (r ++ [g]) S'.e (AN s.e d (v' g)) → SimH (r ++ [g]) n0 H0 S'.k S'.h n' (upd s.H g (some ob')) → K ⟨AN s.e d (v' g), n', upd s.H g (some ob')⟩) : K ⟨AN s.e d (v' g), n', upd s.H g (some ob')⟩ := by
 simp only [HU, Option.some.injEq] at h; subst h
 have hgk : (r ++ [g])[S.k]? = some g := by rw [hs.len]; simp
 exact hk hgk ((hE.mono (Ex.app r [g])).put (hv g hgk) d) (hs.new hg h0 hn hl (ho g))
def Zz (r r' : List Nat) (S : ES) (s : AS) : AV → Prop
 | .sl _ _ .nil => ∀ b, r'[S.k]? = some b → s.n ≤ b
 | .slg _ g0 _ => ∀ b, r'[S.k]? = some b → s.n ≤ b ∨ r[g0]? = some b
 | _ => True
theorem Tc {v : Nat → AV} {v' : Nat → AV} {ob : AObj} {ob' : AObj} (hE : EnvR r S.e s.e) (hs : SimH r n0 H0 S.k S.h s.n s.H) (h : HU S d v ob = some S') (hv : ∀ g, (r ++ [g])[S.k]? = some g → Rn (r ++ [g]) (v S.k) (v' g)) (ho : ∀ g, RnO (r ++ [g]) ob ob') (hk : Goes r n0 H0 S' s K)
  (g n' : Nat) (hg : s.H g = none) (h0 : n0 ≤ g) (hn : s.n ≤ n') (hl : g < n') : K ⟨AN s.e d (v' g), n', upd s.H g (some ob')⟩ := by
 simp only [HU, Option.some.injEq] at h; subst h
 exact hk (r ++ [g]) _ (Ex.app r [g]) hn ((hE.mono (Ex.app r [g])).put (hv g (by rw [hs.len]; simp)) d) (hs.new hg h0 hn hl (ho g))
theorem GH {v : Nat → AV} {v' : Nat → AV} {ob : AObj} {ob' : AObj} (hE : EnvR r S.e s.e) (hs : SimH r n0 H0 S.k S.h s.n s.H) (h : HU S d v ob = some S') (hv : ∀ g, (r ++ [g])[S.k]? = some g → Rn (r ++ [g]) (v S.k) (v' g)) (ho : ∀ g, RnO (r ++ [g]) ob ob') (hk : Goes r n0 H0 S' s K)
  (g : Nat) (hg : s.n ≤ g) : K ⟨AN s.e d (v' g), g + 1, upd s.H g (some ob')⟩ :=
 Tc hE hs h hv ho hk g (g + 1) (hs.van g hg) (by have := hs.n0n; omega) (by omega) (by omega)
theorem G6 {l : List AV} (h : M5 l = true) : ones l := fun x hx => List.all_eq_true.1 h x hx
theorem XJ {el sz by_ : Nat} {m m' : List AV} {x x' : AV} (hE : EnvR r S.e s.e) (hs : SimH r n0 H0 S.k S.h s.n s.H) (h : Xa X el sz by_ d S m x = some S') (hx : Rn r x x') (hm : RnL r m m') (hk : ∀ r' s', Ex r r' → s.n ≤ s'.n → EnvR r' S'.e s'.e → SimH r' n0 H0 S'.k S'.h s'.n s'.H → Zz r r' S s x → K s') : M0 el sz by_ d K s x' m' := by
 unfold Xa at h
 split at h
 ·rename_i z l t
  simp only [Rn] at hx; obtain ⟨l', t', rfl, h1, h2⟩ := hx
  split at h
  ·rename_i hsp
   simp only [Z4, Bool.and_eq_true, decide_eq_true_eq] at hsp
   refine ⟨by rw [h1.len, hm.len]; exact hsp.1, by rw [h1.len, hm.len]; exact hsp.2, ?_⟩
   split at h
   ·simp only [RnT] at h2; subst h2
    split at h
    ·simp only [RnL] at hm; subst hm
     injection h with h; subst h
     exact ⟨fun _ => hk r _ (Ex.rfl_ r) (Nat.le_refl _) (hE.put (v := .sl sz [] .nil) (v' := .sl sz [] .nil) (Rn.of_nid rfl) d) hs (fun b e => by rw [hs.len] at e; simp at e), fun e => absurd rfl e⟩
    ·rename_i y ys
     have hne : m' ≠ [] := by simp only [RnL] at hm; obtain ⟨_, _, rfl, _⟩ := hm; simp
     refine ⟨fun e => absurd e hne, fun _ => ?_⟩
     split at h
     ·rename_i ha
      simp only [Bool.and_eq_true] at ha
      exact .inr fun g hg => PS (v' := fun g => .slg sz g m'.length) hE hs h (fun g e => ⟨g, by rw [hm.len], e⟩) (fun g => ⟨_, rfl, (hm.mono (Ex.app r [g])).flat ha.2⟩) g (g + 1) (hs.van g hg) (by have := hs.n0n; omega) (by omega) (by omega) fun e1 e2 e3 => hk (r ++ [g]) ⟨_, _, _⟩ (Ex.app r [g]) (by show s.n ≤ g + 1; omega) e2 e3 fun b e => by rw [e1] at e; injection e with e; omega
     ·exact .inl fun g hg => PS (v' := fun g => .sl sz m' (.own g)) hE hs h (fun g e => ⟨m', .own g, rfl, hm.mono (Ex.app r [g]), g, rfl, e⟩) (fun g => by simp only [RnO, hm.len]) g (g + 1) (hs.van g hg) (by have := hs.n0n; omega) (by omega) (by omega) fun e1 e2 e3 => hk (r ++ [g]) ⟨_, _, _⟩ (Ex.app r [g]) (by show s.n ≤ g + 1; omega) e2 e3 fun b e => by rw [e1] at e; injection e with e; omega
   ·rename_i g0
    simp only [RnT] at h2; obtain ⟨a, rfl, h2⟩ := h2
    split at h
    ·rename_i e' n hg0
     split at h
     ·rename_i hc
      simp only [Bool.and_eq_true, decide_eq_true_eq] at hc
      obtain ⟨rfl, rfl, rfl⟩ := hc
      obtain ⟨ob, h3, h4⟩ := hs.hp.at_ h2 hg0
      simp only [RnO] at h4; subst h4
      refine ⟨rfl, by rw [h3, h1.len], fun g n' hg hn hl => ?_⟩
      have hs2 := hs.del hg0 h2
      have hl0 := hs.lo _ _ _ hg0 h2
      refine Tc (S := ⟨S.e, S.k, FM S.h g0⟩) (s := ⟨s.e, s.n, upd s.H a none⟩) (v' := fun g => .sl z (l' ++ m') (.own g)) hE hs2 h (fun g e => ⟨_, .own g, rfl, (h1.app hm).mono (Ex.app r [g]), g, rfl, e⟩) (fun g => by simp only [RnO, hm.len, h1.len]) (fun r' s' q1 q2 q3 q4 => hk r' s' q1 q2 q3 q4 trivial) g n' ?_ ?_ hn hl
      ·show upd s.H a none g = none
       rcases hg with rfl | hg
       ·exact AX _ _ _
       ·rw [upd_ne (by omega)]; exact hs.van g hg
      ·have := hs.n0n; omega
     ·cases h
    ·cases h
   ·cases h
  ·cases h
 ·rename_i z g0 k
  simp only [Rn] at hx; obtain ⟨a, rfl, h2⟩ := hx
  split at h
  ·rename_i hsp
   simp only [Z4, Bool.and_eq_true, decide_eq_true_eq] at hsp
   split at h
   ·rename_i e' cs hg0
    split at h
    ·rename_i hc
     simp only [Bool.and_eq_true, decide_eq_true_eq] at hc
     obtain ⟨rfl, rfl, hc, hn⟩ := hc
     obtain ⟨ob, h3, h4⟩ := hs.hp.at_ h2 hg0
     simp only [RnO] at h4; obtain ⟨ds, rfl, h4⟩ := h4
     refine ⟨rfl, by rw [hm.len]; exact hsp.1, by rw [hm.len]; exact hsp.2, ?_⟩
     rw [h3]
     refine ⟨rfl, by rw [h4.len]; exact hc, fun g n' hg hn' hl => ?_⟩
     have hs2 := hs.del hg0 h2
     have hl0 := hs.lo _ _ _ hg0 h2
     refine PS (S := ⟨S.e, S.k, FM S.h g0⟩) (s := ⟨s.e, s.n, upd s.H a none⟩) (v' := fun g => .slg z g (k + m'.length)) hE hs2 h (fun g e => ⟨g, by rw [hm.len], e⟩) (fun g => ⟨_, rfl, (h4.app (hm.flat hn)).mono (Ex.app r [g])⟩) g n' ?_ ?_ hn' hl fun e1 e2 e3 => hk (r ++ [g]) ⟨_, _, _⟩ (Ex.app r [g]) hn' e2 e3 fun b e => by rw [e1] at e; injection e with e; subst e; exact hg.elim (fun e => .inr (by rw [e]; exact h2)) .inl
     ·show upd s.H a none g = none
      rcases hg with rfl | hg
      ·exact AX _ _ _
      ·rw [upd_ne (by omega)]; exact hs.van g hg
     ·have := hs.n0n; omega
    ·cases h
   ·cases h
  ·cases h
 ·cases h
theorem Mb {cs ds v u : List AV} {o : Nat} (h : RnL r cs ds) (k : RnL r v u) : RnL r (splice cs o v) (splice ds o u) := by
 unfold splice
 rw [k.len]; exact ((h.tk o).app k).app (h.dp _)
theorem A0t {sh : BV} {v v' x x' : AV} (hE : EnvR r S.e s.e) (hs : SimH r n0 H0 S.k S.h s.n s.H) (h : A15 S d sh v x = some S') (hx : Rn r x x') (hv : Rn r v v') (hk : Goes r n0 H0 S' s K) : Cc sh d K s v' x' := by
 unfold A15 at h
 split at h
 ·rename_i g o
  simp only [Rn] at hx; obtain ⟨a, rfl, hx⟩ := hx
  split at h
  ·rename_i hf
   simp only [Bool.and_eq_true] at hf
   have hc := hv.cells (ER hf.1)
   have h1 := hv.fits hf.1
   have h2 := hc.ones (G6 hf.2)
   split at h
   ·rename_i t cs hg
    obtain ⟨ob, h3, h4⟩ := hs.hp.at_ hx hg
    simp only [RnO] at h4; obtain ⟨ds, rfl, h4⟩ := h4
    split at h
    ·rename_i hl
     rw [decide_eq_true_eq] at hl
     injection h with h; subst h
     simp only [Cc, h3]
     exact ⟨h1, h2, by rw [hc.len, h4.len]; exact hl, hk r _ (Ex.rfl_ r) (Nat.le_refl _) (hE.put (by simp only [Rn]) d) (hs.set hg hx ⟨_, rfl, Mb h4 hc⟩)⟩
    ·cases h
   ·rename_i t cs hg
    obtain ⟨ob, h3, h4⟩ := hs.hp.at_ hx hg
    simp only [RnO] at h4; obtain ⟨ds, rfl, h4⟩ := h4
    split at h
    ·rename_i hl
     rw [decide_eq_true_eq] at hl
     injection h with h; subst h
     simp only [Cc, h3]
     exact ⟨h1, h2, by rw [hc.len, h4.len]; exact hl, hk r _ (Ex.rfl_ r) (Nat.le_refl _) (hE.put (by simp only [Rn]) d) (hs.set hg hx ⟨_, rfl, Mb h4 hc⟩)⟩
    ·cases h
   ·cases h
  ·cases h
 ·cases h
theorem UM (hi : Dr X ih) {f k' : Nat} {l l' : List AV} {v : AV} {h' : XH} (hE : EnvR r S.e s.e) (hs : SimH r n0 H0 S.k S.h s.n s.H) (hc : Kb X ih f l S.k S.h = some (v, k', h')) (ha : RnL r l l') (hk : Goes r n0 H0 ⟨pX S.e d v, k', h'⟩ s K) : CallK X.P f l' d K s :=
 ⟨_, RW hi hc hs ha, fun u n' H' hn hz ⟨r', hx, hs', hv⟩ => hk r' _ hx hn ((hE.mono hx).put hv d) hs'⟩
theorem Ye {h H : A3} {u : TypeId} {x y v : AV} {P : Program} (hh : HeapR r h H) (hx : Rn r x y) (k : DC P h u x = some v) : ∃ w, DC P H u y = some w ∧ Rn r v w := by
 unfold DC at k
 split at k
 ·rename_i g o
  have h2 := hx; simp only [Rn] at hx; obtain ⟨a, rfl, hx⟩ := hx
  split at k
  ·rename_i e cs hg
   obtain ⟨ob, h3, h4⟩ := hh.at_ hx hg
   simp only [RnO] at h4; obtain ⟨ds, rfl, h4⟩ := h4
   split at k
   ·rename_i hz
    injection k with k; subst k
    exact ⟨_, by simp only [DC, h3, h4.len, if_pos hz], h2⟩
   ·cases k
  ·cases k
 ·cases k
theorem A1a {e : TypeId} {x y x' y' v : AV} (hx : Rn r x x') (hy : Rn r y y') (k : EF e x y = some v) : ∃ w, EF e x' y' = some w ∧ Rn r v w := by
 unfold EF at k
 split at k
 ·rename_i e' l n
  simp only [Rn] at hx hy; obtain ⟨l', rfl, hx⟩ := hx; subst hy
  split at k
  ·rename_i hz
   obtain ⟨b, k1, rfl⟩ := DJ k
   have hz' : e' = e ∧ n = (l'.length : Int) ∧ l'.length ≤ PN ∧ l'.all RJ = true := ⟨hz.1, by rw [hx.len]; exact hz.2.1, by rw [hx.len]; exact hz.2.2.1, A23 hx hz.2.2.2⟩
   simp only [EF, if_pos hz', L3 hx k1, Option.map_some]
   exact ⟨_, rfl, rfl⟩
  ·cases k
 ·cases k
theorem Sc {t sz b : Nat} {x y : Opd} (hok : (AOp.app t sz b x y).okc = true) (hE : EnvR r S.e s.e) (hs : SimH r n0 H0 S.k S.h s.n s.H) (h : GT X ih d (.app t sz b x y) S = some S') (hk : ∀ r' s', Ex r r' → s.n ≤ s'.n → EnvR r' S'.e s'.e → SimH r' n0 H0 S'.k S'.h s'.n s'.H → Zz r r' S s (ev S.e x) → K s') : AP X.P d (.app t sz b x y) K s := by
 simp only [GT] at h
 simp only [AOp.okc, Bool.and_eq_true] at hok
 have hy := Ac hE hok.2
 have hx := Ac hE hok.1
 show appKS t sz b d K s (ev s.e x) (ev s.e y)
 split at h
 ·rename_i z m tk e
  rw [e] at hy
  simp only [Rn] at hy; obtain ⟨m', t', hy, hm, _⟩ := hy
  rw [hy]
  split at h
  ·rename_i hz
   refine ⟨?_, m', A2 _, XJ hE hs h hx hm hk⟩
   rcases Bool.or_eq_true_iff.1 hz with hz | hz
   ·exact .inl (Nat.eq_of_beq_eq_true hz)
   ·rw [List.isEmpty_iff] at hz; subst hz; exact .inr (by simpa only [RnL] using hm)
  ·cases h
 ·cases h
theorem A16 (hi : Dr X ih) (horc : HB X) {op : AOp} (hok : op.okc = true) (hE : EnvR r S.e s.e) (hs : SimH r n0 H0 S.k S.h s.n s.H) (h : GT X ih d op S = some S') (hk : Goes r n0 H0 S' s K) : AP X.P d op K s := by
 have def_ : ∀ {o}, o = pe op s.e s.H → SA S d (pe op S.e (Ag S.h)) = some S' → K1 o fun v => K ⟨AN s.e d v, s.n, s.H⟩ := fun e h => by
  subst e; exact M3 hE hs h (fun v k => A00 hE hs.hp hok k) hk
 cases op
 case alloc t z =>
  simp only [GT] at h
  split at h
  ·rename_i hz
   exact ⟨G6 hz, fun g hg => GH (v' := fun g => .ptr g 0) hE hs h (fun g e => ⟨g, rfl, e⟩) (fun g => ⟨_, rfl, RnL.of_nid hok⟩) hk g hg⟩
  ·cases h
 case box t sh x =>
  simp only [GT] at h
  split at h
  ·rename_i hz
   simp only [Bool.and_eq_true] at hz
   have hx := Ac hE hok
   have hc := hx.cells (ER hz.1)
   exact ⟨hx.fits hz.1, hc.ones (G6 hz.2), fun g hg => GH (v' := fun g => .ptr g 0) hE hs h (fun g e => ⟨g, rfl, e⟩) (fun g => ⟨_, rfl, hc.mono (Ex.app r [g])⟩) hk g hg⟩
  ·cases h
 case store sh x v =>
  simp only [AOp.okc, Bool.and_eq_true] at hok
  exact A0t hE hs h (Ac hE hok.1) (Ac hE hok.2) hk
 case bsl t sh xs =>
  simp only [GT] at h
  have hx := IY hE (l := xs) hok
  split at h
  ·rename_i hz
   have hz' : ∀ x ∈ xs, (ev S.e x).fits sh = true ∧ M5 (ev S.e x).cells = true := by
    intro x hx
    have := List.all_eq_true.1 hz _ (List.mem_map_of_mem hx)
    simpa only [Bool.and_eq_true] using this
   refine ⟨fun x hx => ?_, ?_⟩
   ·obtain ⟨h1, h2⟩ := hz' x hx
    have h3 := Ac hE (List.all_eq_true.1 hok x hx)
    exact ⟨h3.fits h1, (h3.cells (ER h1)).ones (G6 h2)⟩
   ·split at h
    ·have hn : (xs.map (ev S.e)).all Nl = true := by
      rw [List.all_eq_true]; intro y hy
      obtain ⟨x, hx, rfl⟩ := List.mem_map.1 hy
      exact ER (hz' x hx).1
     exact .inr fun g hg => GH (v' := fun g => .slm (Bq sh) g 0 xs.length) hE hs h (fun g e => ⟨g, rfl, e⟩) (fun g => ⟨_, rfl, (hx.mono (Ex.app r [g])).flat hn⟩) hk g hg
    ·exact .inl fun g hg => GH (v' := fun g => .sl (Bq sh) (xs.map (ev s.e)) (.own g)) hE hs h (fun g e => ⟨_, .own g, rfl, hx.mono (Ex.app r [g]), g, rfl, e⟩) (fun g => rfl) hk g hg
  ·cases h
 case app t sz b x y =>
  exact Sc hok hE hs h fun r' s' q1 q2 q3 q4 _ => hk r' s' q1 q2 q3 q4
 case appB t b x y =>
  simp only [GT] at h
  simp only [AOp.okc, Bool.and_eq_true] at hok
  have hy := Ac hE hok.2
  have hx := Ac hE hok.1
  show N8 t b d K s (ev s.e x) (ev s.e y)
  split at h
  ·rename_i u e
   rw [e] at hy
   simp only [Rn] at hy
   rw [hy]
   exact XJ hE hs h hx (RnL.mp (f := fun u : UInt8 => AV.int .u8 u.toNat) fun u _ => by simp only [Rn]) fun r' s' q1 q2 q3 q4 _ => hk r' s' q1 q2 q3 q4
  ·cases h
 case s2b t x =>
  simp only [GT] at h
  have hx := Ac hE hok
  show (match ev s.e x with | .str b => _ | _ => False)
  split at h
  ·rename_i b e
   rw [e] at hx
   simp only [Rn] at hx
   rw [hx]
   split at h
   ·rename_i hz
    injection h with h; subst h
    exact ⟨of_decide_eq_true hz, fun n' hn => hk r ⟨_, n', _⟩ (Ex.rfl_ r) hn (hE.put (v := .sl 1 (b.map fun u => .int .u8 u.toNat) .ro) (v' := .sl 1 (b.map fun u => .int .u8 u.toNat) .ro) ⟨_, .ro, rfl, RnL.mp (f := fun u : UInt8 => AV.int .u8 u.toNat) fun u _ => by simp only [Rn], rfl⟩ d) (hs.up hn)⟩
   ·cases h
  ·cases h
 case s2s x =>
  simp only [GT] at h
  have hx := Ac hE hok
  show (match ev s.e x with | .sl sz l (.own g) => _ | _ => False)
  split at h
  ·rename_i sz y l g e
   rw [e] at hx
   simp only [Rn, RnT] at hx; obtain ⟨l', t', hx, hl, a, rfl, ha⟩ := hx
   rw [hx]
   split at h
   ·rename_i ob hg
    injection h with h; subst h
    refine ⟨fun e => ?_, hk r ⟨_, _, _⟩ (Ex.rfl_ r) (Nat.le_refl _) (hE.put (v := .sl sz (y :: l) .ro) (v' := .sl sz l' .ro) ⟨l', .ro, rfl, hl, rfl⟩ d) (hs.del hg ha)⟩
    have := hl.len; rw [e] at this; simp at this
   ·cases h
  ·cases h
 case mkmap kk => exact fun g hg => GH (v' := .mp) hE hs h (fun g e => ⟨g, rfl, e⟩) (fun g => ⟨_, rfl, rfl⟩) hk g hg
 case mset kk m k v =>
  simp only [GT] at h
  simp only [AOp.okc, Bool.and_eq_true] at hok
  have h1 := Ac hE hok.1
  have h2 := Ac hE hok.2.1
  have h3 := Ac hE hok.2.2
  show El kk d K s (ev s.e k) (ev s.e v) (ev s.e m)
  split at h
  ·rename_i g e
   rw [e] at h1
   simp only [Rn] at h1; obtain ⟨a, h1, ha⟩ := h1
   rw [h1]
   split at h
   ·rename_i kk' es hg
    obtain ⟨ob, h4, h5⟩ := hs.hp.at_ ha hg
    simp only [RnO] at h5; obtain ⟨fs, rfl, h5⟩ := h5
    split at h
    ·rename_i hz
     simp only [Bool.and_eq_true, decide_eq_true_eq] at hz
     obtain ⟨rfl, hz⟩ := hz
     have key : ev s.e k = ev S.e k ∧ Im (ev S.e k) = true := by
      revert h2 hz
      generalize ev S.e k = p; generalize ev s.e k = q
      intro h2 hz
      cases kk' <;> cases p <;> simp [C6] at hz <;> exact ⟨by simpa only [Rn] using h2, rfl⟩
     injection h with h; subst h
     simp only [El, h4, key.1]
     exact ⟨trivial, hz, hk r ⟨_, _, _⟩ (Ex.rfl_ r) (Nat.le_refl _) (hE.put (by simp only [Rn]) d) (hs.set hg ha ⟨_, rfl, h5.set key.2 h3⟩)⟩
    ·cases h
   ·cases h
  ·cases h
 case mksl el b z x y =>
  simp only [GT] at h
  simp only [AOp.okc, Bool.and_eq_true] at hok
  have h1 := Ac hE hok.2.1
  have h2 := Ac hE hok.2.2
  show Ki el b z d K s (ev s.e x) (ev s.e y)
  split at h
  ·rename_i k1 a k2 c e1 e2
   rw [e1] at h1; rw [e2] at h2
   simp only [Rn] at h1 h2
   rw [h1, h2]
   split at h
   ·rename_i hz
    simp only [Bool.and_eq_true, decide_eq_true_eq] at hz
    exact ⟨hz.1, hz.2.1, hz.2.2.1, hz.2.2.2, fun g hg => GH (v' := fun g => .slm 1 g 0 a.toNat) hE hs h (fun g e => ⟨g, rfl, e⟩) (fun g => ⟨_, rfl, RnL.of_nid (by
     have : ∀ n, HD (List.replicate n z) = true := fun n => by induction n with | zero => rfl | succ n ih => simp only [List.replicate_succ, HD, ih, hok.1, Bool.and_self]
     exact this _)⟩) hk g hg⟩
   ·cases h
  ·cases h
 case rng x =>
  simp only [GT] at h
  have hx := Ac hE hok
  show Ol d K s (ev s.e x)
  split at h
  ·rename_i m e
   rw [e] at hx
   simp only [Rn] at hx; obtain ⟨a, hx, ha⟩ := hx
   rw [hx]
   split at h
   ·rename_i kk es hm
    obtain ⟨ob, h4, h5⟩ := hs.hp.at_ ha hm
    simp only [RnO] at h5; obtain ⟨fs, rfl, h5⟩ := h5
    simp only [Ol, h4]
    exact fun g hg => GH (v' := fun g => .ptr g 0) hE hs h (fun g e => ⟨g, rfl, e⟩) (fun g => ⟨a, _, by rw [h5.len], Ex.app r [g] _ _ ha, fun _ => rfl⟩) hk g hg
   ·cases h
  ·cases h
 case nxt x => cases h
 case call f xs =>
  simp only [GT] at h
  have hx := IY hE (l := xs) hok
  show CallK X.P f (xs.map (ev s.e)) d K s
  split at h
  ·rename_i v e
   injection h with h; subst h
   split at e
   ·rename_i hn
    obtain ⟨hp, hv⟩ := horc _ _ _ e
    rw [hx.eq_nid hn]
    exact ⟨_, hp s.n s.H, fun u n' H' _ _ ⟨e1, e2, e3⟩ => by subst e1; subst e2; subst e3; exact hk r _ (Ex.rfl_ r) (Nat.le_refl _) (hE.put (Rn.of_nid hv) d) hs⟩
   ·cases e
  ·split at h
   ·rename_i v k h' hc
    injection h with h; subst h
    exact UM hi hE hs hc hx hk
   ·cases h
 case callp f xs =>
  simp only [GT] at h
  have hx := IY hE (l := xs) hok
  split at h
  ·rename_i hn
   have hw := Ih hx
   have hw' := hw.eq_nid hn
   have fin' : ∀ v, APure X.P f (Fn (xs.map (ev S.e))) v → Im v = true → (⟨pX S.e d v, S.k, S.h⟩ : ES) = S' → AP X.P d (.callp f xs) K s := by
    rintro v hp hv rfl
    exact ⟨Fn (xs.map (ev S.e)), v, hp, by rw [← hw']; exact GD _, hk r ⟨_, _, _⟩ (Ex.rfl_ r) (Nat.le_refl _) (hE.put (Rn.of_nid hv) d) hs⟩
   split at h
   ·rename_i v e
    injection h with h
    obtain ⟨hp, hv⟩ := horc _ _ _ e
    exact fin' v hp hv h
   ·split at h
    ·rename_i v _ _ hc
     split at h
     ·rename_i hv
      injection h with h
      exact fin' _ (pure_ok hi hc hn hv) hv h
     ·cases h
    ·cases h
  ·cases h
 case callv x xs =>
  simp only [GT] at h
  simp only [AOp.okc, Bool.and_eq_true] at hok
  have h1 := Ac hE hok.1
  have hx := IY hE hok.2
  show (match ev s.e x with | .fn f a b => _ | _ => False)
  split at h
  ·rename_i f a b e
   rw [e] at h1
   simp only [Rn] at h1; obtain ⟨a', b', h1, h2, h3⟩ := h1
   rw [h1]
   split at h
   ·rename_i hc
    split at h
    ·rename_i v k h' hcx
     injection h with h; subst h
     exact ⟨hc, UM hi hE hs hcx ((h2.app hx).app h3) hk⟩
    ·cases h
   ·cases h
  ·cases h
 case updn u x => exact M3 hE hs h (fun v k => Ye hs.hp (Ac hE hok) k) hk
 case ust t x m =>
  simp only [AOp.okc, Bool.and_eq_true] at hok
  exact M3 hE hs h (fun v k => A1a (Ac hE hok.1) (Ac hE hok.2) k) hk
 all_goals exact def_ rfl h
theorem UH (hi : Dr X ih) (horc : HB X) {op : AOp} (hE : EnvR r S.e s.e) (hs : SimH r n0 H0 S.k S.h s.n s.H) (h : Tx X ih d op S = some S') (hk : Goes r n0 H0 S' s K) : AP X.P d op K s := by
 unfold Tx at h
 split at h
 ·cases h
 ·rename_i hok; exact A16 hi horc hok hE hs h hk
theorem Ut (hi : Dr X ih) (horc : HB X) {o : AOper} (hE : EnvR r S.e s.e) (hs : SimH r n0 H0 S.k S.h s.n s.H) (h : RL X ih o S = some S') (hk : Goes r n0 H0 S' s K) : awO X.P o K s := by
 unfold RL at h
 unfold awO
 split at h
 ·rename_i hg; rw [hg]; exact UH hi horc hE hs h hk
 ·rename_i t want hg
  rw [hg]
  have ht := hE t
  have skip_ : some (⟨pX S.e o.dst .und, S.k, S.h⟩ : ES) = some S' → K ⟨AN s.e o.dst .und, s.n, s.H⟩ := fun h => by
   injection h with h; subst h
   exact hk r ⟨_, _, _⟩ (Ex.rfl_ r) (Nat.le_refl _) (hE.put (by simp only [Rn]) _) hs
  simp only
  split at h
  ·rename_i b e
   rw [e] at ht; simp only [Rn] at ht; rw [ht]
   split at h
   ·rename_i hb
    exact ⟨fun _ => UH hi horc hE hs h hk, fun hne => absurd (of_decide_eq_true hb) hne⟩
   ·rename_i hb
    exact ⟨fun he => absurd he (of_decide_eq_false hb), fun _ => skip_ h⟩
  ·rename_i e
   rw [e] at ht; simp only [Rn] at ht; rw [ht]
   exact skip_ h
  ·cases h
theorem Y4 (hi : Dr X ih) (horc : HB X) : ∀ {l : List AOper} {r : List Nat} {S : ES} {s : AS}, EnvR r S.e s.e → SimH r n0 H0 S.k S.h s.n s.H → VB X ih l S = some S' → Goes r n0 H0 S' s K → awOps X.P l K s
 | [], r, S, s, hE, hs, h, hk => by
  simp only [VB, Option.some.injEq] at h; subst h
  exact hk r s (Ex.rfl_ r) (Nat.le_refl _) hE hs
 | o :: os, r, S, s, hE, hs, h, hk => by
  simp only [VB] at h
  split at h
  ·rename_i S1 h1
   exact Ut hi horc hE hs h1 fun r1 s1 hx hn hE1 hs1 => Y4 hi horc hE1 hs1 h fun r2 s2 hx2 hn2 => hk r2 s2 (hx.tr hx2) (Nat.le_trans hn hn2)
  ·cases h
end
def imX (r : List Nat) (g : Nat) : Nat := (r[g]?).getD 0
structure RegF (r : List Nat) (h0 : XH) (gs nw gs' : List Nat) (lo : Nat) : Prop where
 old : ∀ g ob, Ag h0 g = some ob → ∃ a, r[g]? = some a ∧ a < lo ∧ (g ∉ gs → a ∉ gs')
 got : ∀ g, g ∈ gs → ∃ a, r[g]? = some a ∧ a ∈ gs'
 new_ : ∀ g, g ∈ nw → ∃ a, r[g]? = some a ∧ (lo ≤ a ∨ a ∈ gs')
theorem RegF.mono {r r' : List Nat} {h0 : XH} {gs nw gs' : List Nat} {lo : Nat} (hx : Ex r r') (h : RegF r h0 gs nw gs' lo) : RegF r' h0 gs nw gs' lo :=
 ⟨fun g ob e => by obtain ⟨a, h1, h2⟩ := h.old g ob e; exact ⟨a, hx _ _ h1, h2⟩, fun g e => by obtain ⟨a, h1, h2⟩ := h.got g e; exact ⟨a, hx _ _ h1, h2⟩, fun g e => by obtain ⟨a, h1, h2⟩ := h.new_ g e; exact ⟨a, hx _ _ h1, h2⟩⟩
theorem Mg {gs : List Nat} {H : A3} {a : Nat} (h : a ∉ gs) : BQ gs H a = H a := by
 induction gs with
 | nil => rfl
 | cons g gs ih =>
  simp only [List.mem_cons, not_or] at h
  rw [K6, if_neg h.1, ih h.2]
theorem Su {gs : List Nat} {H : A3} {a : Nat} {ob : AObj} (h : BQ gs H a = some ob) : a ∉ gs ∧ H a = some ob := by
 induction gs with
 | nil => exact ⟨by simp, h⟩
 | cons g gs ih =>
  rw [K6] at h
  split at h
  ·cases h
  ·rename_i hne
   obtain ⟨h1, h2⟩ := ih h
   exact ⟨by simp [hne, h1], h2⟩
section
variable {r : List Nat} {n0 : Nat} {H0 : A3} {X : XP} {ih : XF} {S S' : ES} {s : AS} {K : AS → Prop} {m : Mode} {h0 : XH} {gs nw gs' : List Nat} {lo : Nat}
theorem U7 (R : RegF r h0 gs nw gs' lo) {h : XH} {H : A3} (hh : HeapR r (Ag h) H) : HeapR r (mX h0 gs h) (BQ gs' H) := by
 intro g ob e
 unfold mX at e
 split at e
 ·rename_i o ho
  split at e
  ·cases e
  ·rename_i hc
   have hc' : g ∉ gs := by simpa using hc
   obtain ⟨a, h1, _, h2⟩ := R.old g o ho
   obtain ⟨a', ob', h3, h4, h5⟩ := hh g ob e
   rw [h1] at h3; injection h3 with h3; subst h3
   exact ⟨a, ob', h1, by rw [Mg (h2 hc')]; exact h4, h5⟩
 ·cases e
theorem A2k (R : RegF r h0 gs nw gs' lo) (hE : EnvR r S.e s.e) (hs : SimH r n0 H0 S.k S.h s.n s.H) {sh : BV} {x : Opd} {g : Option (Nat × Bool)} (hx : Ig x = true) {v : AV} (k : lvX h0 gs sh x g S = some v) : ∃ u, Uh gs' sh x g s.e s.H = some u ∧ Rn r v u := by
 have hl : ∀ {v}, BS (mX h0 gs S.h) sh (ev S.e x) = some v → ∃ u, pe (.load sh x) s.e (BQ gs' s.H) = some u ∧ Rn r v u := fun k => Q1 (U7 R hs.hp) (Ac hE hx) k
 unfold lvX at k
 unfold Uh
 split at k
 ·exact hl k
 ·rename_i t want
  have ht := hE t
  simp only
  split at k
  ·rename_i b e
   rw [e] at ht; simp only [Rn] at ht; rw [ht]
   split at k
   ·rename_i hb; simp only [if_pos (of_decide_eq_true hb)]; exact hl k
   ·rename_i hb; injection k with k; subst k; simp only [if_neg (of_decide_eq_false hb)]; exact ⟨_, rfl, by simp only [Rn]⟩
  ·rename_i e
   rw [e] at ht; simp only [Rn] at ht; rw [ht]
   injection k with k; subst k; exact ⟨_, rfl, by simp only [Rn]⟩
  ·cases k
theorem A24 (R : RegF r h0 gs nw gs' lo) (hE : EnvR r S.e s.e) {x : Opd} (h : stM m h0 gs nw x (ev S.e x) = true) (hx : Ig x = true) : Kh m lo gs' x (ev s.e x) := by
 have h1 := Ac hE hx
 unfold stM at h
 unfold Kh
 split at h
 ·split at h
  ·rename_i g o e
   rw [e] at h1; simp only [Rn] at h1; obtain ⟨a, h1, h2⟩ := h1
   rw [h1]
   obtain ⟨b, h3, h4⟩ := R.got g (by simpa using h)
   rw [h2] at h3; injection h3 with h3; subst h3
   exact h4
  ·cases h
 ·split at h
  ·rename_i q i g o e
   rw [e] at h1; simp only [Rn] at h1; obtain ⟨a, h1, h2⟩ := h1
   simp only [h1]
   split at h
   ·rename_i hq
    simp only [Bool.and_eq_true, Option.isSome_iff_exists] at h
    obtain ⟨⟨ob, h5⟩, h6⟩ := h
    obtain ⟨b, h3, h4, h7⟩ := R.old g ob h5
    rw [h2] at h3; injection h3 with h3; subst h3
    exact ⟨fun _ => ⟨h4, h7 (by simpa using h6)⟩, fun hne => absurd hq hne⟩
   ·rename_i hq
    refine ⟨fun e => absurd e hq, fun _ => ?_⟩
    rcases Bool.or_eq_true_iff.1 h with h | h
    ·obtain ⟨b, h3, h4⟩ := R.got g (by simpa using h)
     rw [h2] at h3; injection h3 with h3; subst h3
     exact .inr h4
    ·obtain ⟨b, h3, h4⟩ := R.new_ g (by simpa using h)
     rw [h2] at h3; injection h3 with h3; subst h3
     exact h4
  ·cases h
 ·split <;> first | trivial | (rename_i h1 h2; exact absurd rfl h1) | (rename_i h1 h2; exact absurd rfl (h2 _)) 
theorem U1 {n' : Nat} {F : Nat → Nat → Prop} (hlo : lo ≤ s.n) (h0 : n0 ≤ lo) (hv : ∀ a, s.n ≤ a → s.H a = none) (hF : ∀ g n', lo ≤ g → s.H g = none → n0 ≤ g → s.n ≤ n' → g < n' → F g n') : newK m lo s F := by
 unfold newK
 split
 ·exact ⟨hlo, ⟨s.n, hlo, hv _ (Nat.le_refl _)⟩, fun g n' h1 h2 h3 h4 => hF g n' h1 h2 (by omega) h3 h4⟩
 ·exact fun g h1 h2 => hF g (g + 1) (by omega) h2 (by omega) (by omega) (by omega)
theorem Yd {r' : List Nat} {k k' n n' : Nat} {h h' : XH} {H H' H1 : A3} (R : RegF r h0 gs nw gs' lo) (hs : SimH r n0 H1 k h n H) (hx : Ex r r') (hs' : SimH r' n0 H1 k' h' n' H') (hk : WR gs h h' = true) (hb : ∀ a ob, H a = some ob → (∃ g o, Ag h g = some o ∧ r[g]? = some a ∧ MQ o = false) ∨ H1 a = some ob) : KeepM gs' H H' := by
 intro a ob hse e
 obtain ⟨h1, h2⟩ := Su e
 rw [Mg h1]
 rcases hb a ob h2 with ⟨g, o, h3, h4, _⟩ | h3
 ·have h5 := List.all_eq_true.1 hk _ (S8 h3)
  simp only [Bool.or_eq_true] at h5
  obtain ⟨ob', h6, h7⟩ := hs.hp.at_ h4 h3
  rw [h2] at h6; injection h6 with h6; subst h6
  rcases h5 with (h5 | h5) | h5
  ·obtain ⟨b, h8, h9⟩ := R.got g (by simpa using h5)
   rw [h4] at h8; injection h8 with h8; subst h8
   exact absurd h9 h1
  ·exfalso
   cases o <;> simp [AObj.seen] at h5 <;> simp only [RnO] at h7
   ·subst h7; simp [AObj.seen] at hse
   ·obtain ⟨_, _, rfl, _⟩ := h7; simp [AObj.seen] at hse
  ·split at h5
   ·rename_i o' h8
    obtain ⟨ob2, h9, h10⟩ := hs'.hp.at_ (hx _ _ h4) h8
    rw [h9, RnO.one_ hx h5 h7 h10]
   ·cases h5
 ·exact hs'.fr a ob h3
theorem VG (hi : Dr X ih) (horc : HB X) {d : Option Nat} {f : Nat} {xs : List Opd} (R : RegF r h0 gs nw gs' lo) (hE : EnvR r S.e s.e) (hs : SimH r n0 H0 S.k S.h s.n s.H) (h : Tx X ih d (.call f xs) S = some S') (hkp : WR gs S.h S'.h = true) (hk : Goes r n0 H0 S' s K) : AP X.P d (.call f xs) (KC gs' s.H K) s := by
 obtain ⟨H1, b1, b2, b3, b4⟩ := hs.base
 exact UH (H0 := H1) hi horc hE b1 h fun r' s' hx hn hE' hs' => ⟨Yd R b1 hx hs' hkp b4, hk r' s' hx hn hE' (hs'.unbase b2 b3)⟩
theorem Wb (hi : Dr X ih) (horc : HB X) {o : AOper} (R : RegF r h0 gs nw gs' lo) (hlo : lo ≤ s.n) (h0n : n0 ≤ lo) (hE : EnvR r S.e s.e) (hs : SimH r n0 H0 S.k S.h s.n s.H) (h : Ke X ih m h0 gs nw o S = some S')
  (hk : ∀ r' s', Ex r r' → s.n ≤ s'.n → EnvR r' S'.e s'.e → SimH r' n0 H0 S'.k S'.h s'.n s'.H → RegF r' h0 gs (nwX o S S' nw) gs' lo → K s') : awOM X.P m lo gs' o K s := by
 obtain ⟨d, op, gd⟩ := o
 have same : nwX ⟨d, op, gd⟩ S S' nw = nw → Goes r n0 H0 S' s K := fun e r' s' hx hn hE' hs' => hk r' s' hx hn hE' hs' (by rw [e]; exact R.mono hx)
 have dflt : nwX ⟨d, op, gd⟩ S S' nw = nw → RL X ih ⟨d, op, gd⟩ S = some S' → awO X.P ⟨d, op, gd⟩ K s := fun e h => Ut hi horc hE hs h (same e)
 cases op
 case load sh x =>
  simp only [Ke] at h
  split at h
  ·rename_i hx
   exact M3 hE hs h (fun v k => A2k R hE hs hx k) (same rfl)
  ·cases h
 case alloc t z =>
  cases gd with
  | some g => exact dflt rfl h
  | none =>
   have h' : Tx X ih d (.alloc t z) S = some S' := h
   unfold Tx at h'
   split at h'
   ·cases h'
   ·rename_i hok
    simp only [GT] at h'
    split at h'
    ·rename_i hz
     refine ⟨G6 hz, U1 (n' := 0) hlo h0n hs.van fun g n' hg hg2 hg3 hn hl => ?_⟩
     simp only [HU, Option.some.injEq] at h'; subst h'
     have hgk : (r ++ [g])[S.k]? = some g := by rw [hs.len]; simp
     refine hk (r ++ [g]) ⟨_, _, _⟩ (Ex.app r [g]) hn ((hE.mono (Ex.app r [g])).put (v := .ptr S.k 0) (v' := .ptr g 0) ⟨g, rfl, hgk⟩ d) (hs.new hg2 hg3 hn hl ⟨_, rfl, RnL.of_nid hok⟩) ?_
     have R' := R.mono (Ex.app r [g])
     exact ⟨R'.old, R'.got, fun k hk => by
      rcases List.mem_cons.1 hk with rfl | hk
      ·exact ⟨g, hgk, .inl hg⟩
      ·exact R'.new_ k hk⟩
    ·cases h'
 case store sh x v =>
  cases gd with
  | some g => exact dflt rfl h
  | none =>
   simp only [Ke] at h
   split at h
   ·rename_i hst
    have hx : Ig x = true := by
     unfold Tx at h
     split at h
     ·cases h
     ·rename_i hok; simp only [AOp.okc, Bool.and_eq_true] at hok; exact hok.1
    exact ⟨A24 R hE hst hx, UH hi horc hE hs h (same rfl)⟩
   ·cases h
 case bsl t sh xs =>
  cases gd with
  | some g => exact dflt rfl h
  | none =>
   simp only [Ke] at h
   split at h
   ·rename_i hmt
    unfold Tx at h
    split at h
    ·cases h
    ·rename_i hok
     have hx := IY hE (l := xs) hok
     simp only [GT, hmt] at h
     split at h
     ·rename_i hz
      have hz' : ∀ x ∈ xs, (ev S.e x).fits sh = true ∧ M5 (ev S.e x).cells = true := by
       intro x hx
       have := List.all_eq_true.1 hz _ (List.mem_map_of_mem hx)
       simpa only [Bool.and_eq_true] using this
      refine ⟨fun x hx => ?_, U1 (n' := 0) hlo h0n hs.van fun g n' hg hg2 hg3 hn hl => ?_⟩
      ·obtain ⟨h1, h2⟩ := hz' x hx
       have h3 := Ac hE (List.all_eq_true.1 hok x hx)
       exact ⟨h3.fits h1, (h3.cells (ER h1)).ones (G6 h2)⟩
      ·exact Tc (v' := fun g => .sl (Bq sh) (xs.map (ev s.e)) (.own g)) hE hs h (fun g e => ⟨_, .own g, rfl, hx.mono (Ex.app r [g]), g, rfl, e⟩) (fun g => rfl) (same rfl) g n' hg2 hg3 hn hl
     ·cases h
   ·cases h
 case mget kk z ok mp k =>
  cases gd with
  | some g => exact dflt rfl h
  | none =>
   simp only [Ke] at h
   split at h
   ·rename_i hok
    exact M3 hE hs h (fun v k => A00 hE (U7 R hs.hp) hok k) (same rfl)
   ·cases h
 case app t sz b x y =>
  cases gd with
  | some g => exact dflt rfl h
  | none =>
   simp only [Ke] at h
   split at h
   ·rename_i hsl
    unfold Tx at h
    split at h
    ·cases h
    ·rename_i hok
     have hx : Rn r (ev S.e x) (ev s.e x) := by simp only [AOp.okc, Bool.and_eq_true] at hok; exact Ac hE hok.1
     refine ⟨?_, Sc hok hE hs h fun r' s' q1 q2 q3 q4 q5 => KM.of (hk r' s' q1 q2 q3 q4 ?_)⟩
     ·have h' := h
      simp only [GT] at h'
      split at h'
      ·split at h'
       ·unfold Xa at h'
        split at h'
        ·rename_i e; rw [e] at hx; simp only [Rn] at hx; obtain ⟨_, _, hx, _⟩ := hx; rw [hx]; trivial
        ·rename_i z g k e; rw [e] at hx hsl; simp only [Rn] at hx; obtain ⟨a, hx, ha⟩ := hx; rw [hx]
         obtain ⟨b, h3, h4⟩ := R.got g (by simpa [A0a] using hsl)
         rw [ha] at h3; injection h3 with h3; subst h3
         exact h4
        ·cases h'
       ·cases h'
      ·cases h'
     ·have R' := R.mono q1
      have hnew : Nat.beq S'.k (S.k + 1) = true → ∃ b, r'[S.k]? = some b := fun e => by
       have e := Nat.eq_of_beq_eq_true e
       have := q4.len
       exact ⟨_, List.getElem?_eq_getElem (by omega)⟩
      refine ⟨R'.old, R'.got, fun k hk' => ?_⟩
      simp only [nwX] at hk'
      split at hk'
      ·rename_i e1 e2
       rcases List.mem_cons.1 hk' with rfl | hk'
       ·obtain ⟨b, hb⟩ := hnew e2
        rw [e1] at q5
        exact ⟨b, hb, .inl (Nat.le_trans hlo (q5 b hb))⟩
       ·exact R'.new_ k hk'
      ·rename_i z g0 k0 e1 e2
       rcases List.mem_cons.1 hk' with rfl | hk'
       ·obtain ⟨b, hb⟩ := hnew e2
        rw [e1] at q5 hsl
        refine ⟨b, hb, (q5 b hb).imp (Nat.le_trans hlo) fun e => ?_⟩
        obtain ⟨a, h3, h4⟩ := R.got g0 (by simpa [A0a] using hsl)
        rw [e] at h3; injection h3 with h3; subst h3
        exact h4
       ·exact R'.new_ k hk'
      ·exact R'.new_ k hk'
   ·cases h
 case call f xs =>
  cases gd with
  | some g => exact dflt rfl h
  | none =>
   simp only [Ke] at h
   split at h
   ·rename_i S1 h1
    split at h
    ·rename_i hkp
     injection h with h; subst h
     exact VG hi horc R hE hs h1 hkp (same rfl)
    ·cases h
   ·cases h
 all_goals exact dflt rfl h
theorem Ty (hi : Dr X ih) (horc : HB X) (h0n : n0 ≤ lo) : ∀ {l : List AOper} {r : List Nat} {nw : List Nat} {S : ES} {s : AS}, RegF r h0 gs nw gs' lo → lo ≤ s.n → EnvR r S.e s.e → SimH r n0 H0 S.k S.h s.n s.H → T4 X ih m h0 gs nw l S = some S' → Goes r n0 H0 S' s K → A9 X.P m lo gs' l K s
 | [], r, nw, S, s, _, _, hE, hs, h, hk => by
  simp only [T4, Option.some.injEq] at h; subst h
  exact hk r s (Ex.rfl_ r) (Nat.le_refl _) hE hs
 | o :: os, r, nw, S, s, R, hlo, hE, hs, h, hk => by
  simp only [T4] at h
  split at h
  ·rename_i S1 h1
   exact Wb hi horc R hlo h0n hE hs h1 fun r1 s1 hx hn hE1 hs1 R1 => Ty hi horc h0n R1 (Nat.le_trans hlo hn) hE1 hs1 h fun r2 s2 hx2 hn2 => hk r2 s2 (hx.tr hx2) (Nat.le_trans hn hn2)
  ·cases h
theorem Xv (hE : EnvR r S.e s.e) (hs : SimH r n0 H0 S.k S.h s.n s.H) : ∀ {T : List Nat} {gs : List Nat}, gsX S.h S.e T = some gs → Oi s.e T = some (gs.map (imX r)) ∧ ∀ g ∈ gs, ∃ o, Ag S.h g = some o
 | [], _, h => by simp only [gsX, Option.some.injEq] at h; subst h; exact ⟨rfl, by simp⟩
 | t :: ts, _, h => by
  simp only [gsX] at h
  split at h
  ·rename_i g o gs1 e h1
   split at h
   ·rename_i ob hg
    injection h with h; subst h
    obtain ⟨h2, h3⟩ := Xv hE hs h1
    have ht := hE t
    rw [e] at ht; simp only [Rn] at ht; obtain ⟨a, ht, ha⟩ := ht
    refine ⟨by simp only [Oi, h2, ht, gsC, List.map_cons, imX, ha, Option.getD_some], fun k hk => ?_⟩
    rcases List.mem_cons.1 hk with rfl | hk
    ·exact ⟨ob, hg⟩
    ·exact h3 k hk
   ·cases h
  ·cases h
theorem Yo (hs : SimH r n0 H0 S.k S.h s.n s.H) {gs : List Nat} (hg : ∀ g ∈ gs, ∃ o, Ag S.h g = some o) : RegF r S.h gs [] (gs.map (imX r)) s.n := by
 have im : ∀ g o, Ag S.h g = some o → r[g]? = some (imX r g) := fun g o e => by
  obtain ⟨a, _, h1, _⟩ := hs.hp g o e
  simp [imX, h1]
 refine ⟨fun g ob e => ⟨_, im g ob e, (hs.lo _ _ _ e (im g ob e)).2.1, fun hne hm => ?_⟩, fun g hm => ?_, by simp⟩
 ·obtain ⟨g2, h2, h3⟩ := List.mem_map.1 hm
  obtain ⟨o, h4⟩ := hg g2 h2
  have := hs.inj _ _ _ _ _ e h4 (im g ob e) (by rw [← h3]; exact im g2 o h4)
  subst this; exact hne h2
 ·obtain ⟨o, h4⟩ := hg g hm
  exact ⟨_, im g o h4, List.mem_map_of_mem hm⟩
theorem W0 {h h' : XH} {g : Nat} (hu : ∀ x ∈ h, Ag h x.1 ≠ none) (k : g ∈ Xw h h') : ∃ o, Ag h g = some o := by
 unfold Xw at k
 obtain ⟨x, h1, rfl⟩ := List.mem_map.1 k
 have := hu x (List.mem_filter.1 h1).1
 exact Option.ne_none_iff_exists'.1 this
theorem X3 {h : XH} : ∀ x ∈ h, Ag h x.1 ≠ none := by
 induction h with
 | nil => simp
 | cons y l ih =>
  obtain ⟨a, b⟩ := y
  intro x hx
  rw [CF]
  split
  ·simp
  ·rename_i hne
   rcases List.mem_cons.1 hx with rfl | hx
   ·exact absurd rfl hne
   ·exact ih x hx
theorem A1e (hi : Dr X ih) (horc : HB X) {T : List Nat} {ops : List AOper} (hE : EnvR r S.e s.e) (hs : SimH r n0 H0 S.k S.h s.n s.H) (h : A0j X ih m T ops S = some S') (hk : Goes r n0 H0 S' s K) : gsK X.P m (Oi s.e T) ops K s := by
 unfold A0j at h
 split at h
 ·cases h
 ·rename_i gs hg
  obtain ⟨h1, h2⟩ := Xv hE hs hg
  rw [h1]
  have main : ∀ ms, (∀ g ∈ ms, ∃ o, Ag S.h g = some o) → T4 X ih m S.h (ms ++ gs) [] ops S = some S' → gsM X.P m (gs.map (imX r)) ops K s := fun ms hm h => by
   refine ⟨ms.map (imX r), ?_⟩
   rw [← List.map_append]
   exact Ty hi horc hs.n0n (Yo hs fun g hg => (List.mem_append.1 hg).elim (hm g) (h2 g)) (Nat.le_refl _) hE hs h hk
  split at h
  ·rename_i s1 h3
   injection h with h; subst h
   exact main [] (by simp) h3
  ·split at h
   ·cases h
   ·rename_i s1 h4
    refine main _ (fun g hg => ?_) h
    have hg' : g ∈ Xw S.h s1.h := by
     split at hg
     ·unfold A2u at hg
      split at hg
      ·exact (List.mem_filter.1 hg).1
      ·exact hg
     ·exact hg
    exact W0 X3 hg'
theorem Y8 (W : List Nat) (e : AT) (i : Nat) : get (anyW W e) i = .any ∨ get (anyW W e) i = get e i := by
 induction e with
 | nil => exact .inl rfl
 | cons p e ih =>
  obtain ⟨k, v⟩ := p
  unfold anyW at ih ⊢
  rw [List.filter_cons]
  split
  ·simp only [get]
   split
   ·exact .inr rfl
   ·exact ih
  ·rename_i hc
   by_cases hk : k = i
   ·subst hk
    refine .inl ?_
    have hc' : k ∈ W := by simpa using hc
    clear hc ih
    induction e with
    | nil => rfl
    | cons q e ih =>
     obtain ⟨k', v'⟩ := q
     rw [List.filter_cons]
     split
     ·rename_i h1
      simp only [get]
      rw [if_neg]
      ·exact ih
      ·rintro rfl; simp [hc'] at h1
     ·exact ih
   ·simp only [get, if_neg hk]; exact ih
theorem EnvR.anyW {e e' : AT} (W : List Nat) (h : EnvR r e e') : EnvR r (anyW W e) e' := fun i => by
 rcases Y8 W e i with h1 | h1 <;> rw [h1]
 ·simp only [Rn]
 ·exact h i
theorem V9 {e e1 : AT} (h : Us e e1 = true) (i : Nat) : get e i = .any ∨ KF (get e i) (get e1 i) = true := by
 induction e with
 | nil => exact .inl rfl
 | cons p e ih =>
  obtain ⟨k, v⟩ := p
  simp only [Us, List.all_cons, Bool.and_eq_true] at h
  simp only [get]
  split
  ·rename_i hk; subst hk; exact .inr h.1
  ·exact ih h.2
structure ItS (r : List Nat) (n0 : Nat) (H0 : A3) (S : ES) (it a m' len : Nat) (left : List Nat) (s : AS) : Prop where
 hE : EnvR r S.e s.e
 hs : SimH r n0 H0 S.k S.h s.n s.H
 hit : ∃ cur, s.H a = some (.iter m' len left cur)
 hr : r[it]? = some a
 hu : ∀ g o, Ag S.h g = some o → r[g]? ≠ some a
 ha : n0 ≤ a ∧ a < s.n ∧ H0 a = none
section
variable {it a m m' len t : Nat} {left : List Nat} {kk : Option IntKind} {es : List (AV × AV)} {c : ACode} {Q : AExit → AS → Prop}
theorem TC (hi : Dr X ih) (I : ItS r n0 H0 S it a m' len left s) (hm : r[m]? = some m') (hmS : Ag S.h m = some (.map kk es)) (hl : es.length = len) {j : Nat} {y : AExit} {s1 : ES} (h : WT ih c t it m j S = some (y, s1)) {k v : AV} {fs : List (AV × AV)} (hf : s.H m' = some (.map kk fs)) (hj : fs[j]? = some (k, v))
  (hk : ∀ r' s', Ex r r' → s.n ≤ s'.n → EnvR r' s1.e s'.e → SimH r' n0 H0 s1.k s1.h s'.n s'.H → s'.H a = some (.iter m' len (left.erase j) (some j)) → Q y s') : aw X.P c Q ⟨AN s.e (some t) (.tup [.bool true, k, v]), s.n, upd s.H a (some (.iter m' len (left.erase j) (some j)))⟩ := by
 unfold WT at h
 rw [hmS] at h
 simp only at h
 split at h
 ·rename_i x hx
  obtain ⟨k1, v1⟩ := x
  obtain ⟨ob, h1, h2⟩ := I.hs.hp.at_ hm hmS
  rw [hf] at h1; injection h1 with h1; subst h1
  simp only [RnO] at h2; obtain ⟨fs', e, h2⟩ := h2
  injection e with _ e; subst e
  obtain ⟨u, h3, h4, h5⟩ := h2.at_ hx
  rw [hj] at h3; injection h3 with h3; injection h3 with h3 h6; subst h3; subst h6
  have T := I.hs.track I.hr I.hu I.ha.1 I.ha.2.1 I.ha.2.2 (ob := .iter m es.length [] (some j)) (ob' := .iter m' len (left.erase j) (some j)) ⟨m', _, by rw [hl], hm, fun e => by cases e⟩
  obtain ⟨H1, b1, b2, b3, b4⟩ := T.base
  have hE' : EnvR r (Fa S.e t (.tup [.bool true, k, v1])) (AN s.e (some t) (.tup [.bool true, k, v])) := I.hE.put (d := some t) (v := .tup [.bool true, k, v1]) (v' := .tup [.bool true, k, v]) ⟨_, rfl, _, _, rfl, rfl, _, _, rfl, Rn.of_nid h5, _, _, rfl, h4, rfl⟩
  refine hi _ _ _ _ h r n0 H1 ⟨_, _, _⟩ Q hE' b1 fun r' s' hx hn hE2 hs2 => hk r' s' hx hn hE2 (hs2.unbase b2 b3) ?_
  refine hs2.fr _ _ ?_
  rcases b4 a _ (AX _ _ _) with ⟨g, o, q1, q2, q3⟩ | q
  ·exfalso
   rw [CF] at q1
   split at q1
   ·injection q1 with q1; subst q1; simp [MQ] at q3
   ·exact I.hu _ _ q1 q2
  ·exact q
 ·cases h
theorem YB (I : ItS r n0 H0 S it a m' len left s) {S1 : ES} (he : Us S.e S1.e = true) (hh : Zy S.h S1.h = true) {j : Nat} {r' : List Nat} {s' : AS} (hx : Ex r r') (hn : s.n ≤ s'.n) (hE : EnvR r' S1.e s'.e) (hs : SimH r' n0 H0 S1.k S1.h s'.n s'.H) (hi : s'.H a = some (.iter m' len (left.erase j) (some j))) : ItS r n0 H0 S it a m' len (left.erase j) s' := by
 refine ⟨fun i => ?_, ⟨I.hs.len, fun g o e => ?_, fun g o b e1 e2 => ?_, I.hs.inj, hs.fr0, hs.fr, hs.n0n, hs.van⟩, ⟨_, hi⟩, I.hr, I.hu, I.ha.1, by have := I.ha.2.1; omega, I.ha.2.2⟩
 ·rcases V9 he i with h | h
  ·rw [h]; simp only [Rn]
  ·rw [Rn.one_ hx h (I.hE i) (hE i)]; exact I.hE i
 ·obtain ⟨b, ob, h1, h2, h3⟩ := I.hs.hp g o e
  have h4 := List.all_eq_true.1 hh _ (S8 e)
  simp only at h4
  split at h4
  ·rename_i o1 h5
   obtain ⟨ob1, h6, h7⟩ := hs.hp.at_ (hx _ _ h1) h5
   have := RnO.one_ hx h4 h3 h7
   subst this
   exact ⟨b, ob1, h1, h6, h3⟩
  ·cases h4
 ·obtain ⟨q1, q2, q3⟩ := I.hs.lo g o b e1 e2; exact ⟨q1, by omega, q3⟩
theorem Tk {P : Program} {x : Opd} {cur : Option Nat} {ops : List AOper} {c2 : ACode} {fs : List (AV × AV)} (hx : ev s.e x = .ptr a 0) (hit : s.H a = some (.iter m' len left cur)) (hm : s.H m' = some (.map kk fs)) (hl : fs.length = len)
  (h0 : left = [] → aw P (.seq (.reg ops) c2) Q ⟨AN s.e (some t) (.tup [.bool false]), s.n, s.H⟩)
  (h1 : ∀ j ∈ left, ∀ k v, fs[j]? = some (k, v) → aw P (.seq (.reg ops) c2) Q ⟨AN s.e (some t) (.tup [.bool true, k, v]), s.n, upd s.H a (some (.iter m' len (left.erase j) (some j)))⟩) : aw P (.seq (.reg (⟨some t, .nxt x, none⟩ :: ops)) c2) Q s := by
 show Q0 (some t) _ s (ev s.e x)
 rw [hx]
 simp only [Q0, hit, hm]
 exact ⟨trivial, hl, h0, h1⟩
theorem Wy (hi : Dr X ih) (I : ItS r n0 H0 S it a m' len left s) {y : AExit} {S2 : ES} (h : Vb ih c t S = some (y, S2)) {Y : AS → Prop} (hk : ∀ r' s', Ex r r' → s.n ≤ s'.n → EnvR r' S2.e s'.e → SimH r' n0 H0 S2.k S2.h s'.n s'.H → Q y s') : aw X.P c (Ej Y Q) ⟨AN s.e (some t) (.tup [.bool false]), s.n, s.H⟩ := by
 unfold Vb at h
 split at h
 ·cases h
 ·rename_i o hne
  refine hi _ _ _ _ h r n0 H0 ⟨_, _, _⟩ _ (I.hE.put (d := some t) (v := .tup [.bool false]) (v' := .tup [.bool false]) (Rn.of_nid rfl)) I.hs fun r' s' hx hn hE hs => ?_
  cases y with
  | normal => exact absurd h (hne _)
  | exit i => exact hk r' s' hx hn hE hs
  | ret => exact hk r' s' hx hn hE hs
theorem Tp (I : ItS r n0 H0 S it a m' len left s) (hm : r[m]? = some m') (hmS : Ag S.h m = some (.map kk es)) : ∃ fs, s.H m' = some (.map kk fs) ∧ fs.length = es.length := by
 obtain ⟨ob, h1, h2⟩ := I.hs.hp.at_ hm hmS
 simp only [RnO] at h2; obtain ⟨fs, rfl, h2⟩ := h2
 exact ⟨fs, h1, h2.len⟩
theorem UU (hi : Dr X ih) {x : Opd} {ops : List AOper} {c2 : ACode} (hxc : Ig x = true) (hx : ev S.e x = .ptr it 0) (hm : r[m]? = some m') (hmS : Ag S.h m = some (.map kk es)) (hl : es.length = len) {y : AExit} {S2 : ES} (hend : Vb ih (.seq (.reg ops) c2) t S = some (y, S2)) {Y : AS → Prop}
  (hY : ∀ s, aw X.P (.seq (.reg (⟨some t, .nxt x, none⟩ :: ops)) c2) (Ej Y Q) s → Y s) {nS : Nat} (hk : ∀ r' s', Ex r r' → nS ≤ s'.n → EnvR r' S2.e s'.e → SimH r' n0 H0 S2.k S2.h s'.n s'.H → Q y s') :
  ∀ (N : Nat) (left : List Nat) (s : AS), left.length ≤ N → (∀ j ∈ left, MA ih (.seq (.reg ops) c2) t it m S j = true) → ItS r n0 H0 S it a m' len left s → nS ≤ s.n → Y s := by
 intro N
 induction N with
 | zero =>
  intro left s hN hneu I hn
  have : left = [] := List.length_eq_zero_iff.1 (by omega)
  subst this
  obtain ⟨cur, hit⟩ := I.hit
  obtain ⟨fs, hf, hfl⟩ := Tp I hm hmS
  have hxa := Ac I.hE hxc; rw [hx] at hxa; simp only [Rn] at hxa; obtain ⟨a', hxa, ha'⟩ := hxa
  rw [I.hr] at ha'; injection ha' with ha'; subst ha'
  exact hY s (Tk hxa hit hf (by rw [hfl, hl]) (fun _ => Wy hi I hend fun r' s' q1 q2 => hk r' s' q1 (Nat.le_trans hn q2)) (by simp))
 | succ N ihN =>
  intro left s hN hneu I hn
  obtain ⟨cur, hit⟩ := I.hit
  obtain ⟨fs, hf, hfl⟩ := Tp I hm hmS
  have hxa := Ac I.hE hxc; rw [hx] at hxa; simp only [Rn] at hxa; obtain ⟨a', hxa, ha'⟩ := hxa
  rw [I.hr] at ha'; injection ha' with ha'; subst ha'
  refine hY s (Tk hxa hit hf (by rw [hfl, hl]) (fun _ => Wy hi I hend fun r' s' q1 q2 => hk r' s' q1 (Nat.le_trans hn q2)) fun j hj k v hkv => ?_)
  have hnj := hneu j hj
  unfold MA at hnj
  split at hnj
  ·rename_i s1 h1
   rw [Bool.and_eq_true] at hnj
   refine TC hi I hm hmS hl h1 hf hkv fun r' s' q1 q2 q3 q4 q5 => ?_
   refine ihN (left.erase j) s' ?_ (fun j' hj' => hneu j' (List.mem_of_mem_erase hj')) (YB I hnj.1 hnj.2 q1 q2 q3 q4 q5) (Nat.le_trans hn q2)
   rw [List.length_erase_of_mem hj]; omega
  ·cases hnj
theorem Z2 (hi : Dr X ih) {x : Opd} {ops : List AOper} {c2 : ACode} {W : List Nat} (hxc : Ig x = true) (hx : ev S.e x = .ptr it 0) (hm : r[m]? = some m') (hmS : Ag S.h m = some (.map kk es)) (hl : es.length = len) {j0 : Nat} {S1 S2 : ES} (hrnd : WT ih (.seq (.reg ops) c2) t it m j0 S = some (.normal, S1)) (hhd : SJ W x it m len S1 = some S2)
  {y : AExit} {S3 : ES} (hend : Vb ih (.seq (.reg ops) c2) t S2 = some (y, S3)) {Y : AS → Prop}
  (hY : ∀ s, aw X.P (.seq (.reg (⟨some t, .nxt x, none⟩ :: ops)) c2) (Ej Y Q) s → Y s) {nS : Nat} (hk : ∀ r' s', Ex r r' → nS ≤ s'.n → EnvR r' S3.e s'.e → SimH r' n0 H0 S3.k S3.h s'.n s'.H → Q y s') :
  ∀ (N : Nat) (left : List Nat) (s : AS), left.length ≤ N → left.Nodup → j0 ∈ left → (∀ j ∈ left, j ≠ j0 → MA ih (.seq (.reg ops) c2) t it m S j = true ∧ MA ih (.seq (.reg ops) c2) t it m S2 j = true) → ItS r n0 H0 S it a m' len left s → nS ≤ s.n → Y s := by
 intro N
 induction N with
 | zero =>
  intro left s hN hd hj0
  have : left = [] := List.length_eq_zero_iff.1 (by omega)
  subst this
  simp at hj0
 | succ N ihN =>
  intro left s hN hd hj0 hneu I hn
  obtain ⟨cur, hit⟩ := I.hit
  obtain ⟨fs, hf, hfl⟩ := Tp I hm hmS
  have hxa := Ac I.hE hxc; rw [hx] at hxa; simp only [Rn] at hxa; obtain ⟨a', hxa, ha'⟩ := hxa
  rw [I.hr] at ha'; injection ha' with ha'; subst ha'
  refine hY s (Tk hxa hit hf (by rw [hfl, hl]) (fun e => by subst e; simp at hj0) fun j hj k v hkv => ?_)
  by_cases hjj : j = j0
  ·subst hjj
   refine TC hi I hm hmS hl hrnd hf hkv fun r' s' q1 q2 q3 q4 q5 => ?_
   unfold SJ at hhd
   split at hhd
   ·rename_i it' o kk' es' g1 g2 g3
    split at hhd
    ·rename_i hb
     rw [Bool.and_eq_true] at hb
     have e1 := Nat.eq_of_beq_eq_true hb.1
     subst e1
     injection hhd with hhd; subst hhd
     have hr' := q1 _ _ I.hr
     refine UU (r := r') (S := ⟨anyW W S1.e, S1.k, FM S1.h it'⟩) (m := m) (m' := m') (a := a) hi hxc g1 (q1 _ _ hm) g3 (Nat.eq_of_beq_eq_true hb.2) hend hY (nS := nS) (fun r2 s2 p1 p2 => hk r2 s2 (q1.tr p1) p2) (left.erase j).length (left.erase j) s' (Nat.le_refl _) (fun j' hj' => (hneu j' (List.mem_of_mem_erase hj') (fun e => by subst e; exact hd.not_mem_erase hj')).2) ⟨q3.anyW W, q4.drop it', ⟨_, q5⟩, hr', fun g o p1 p2 => ?_, I.ha.1, by have := I.ha.2.1; omega, I.ha.2.2⟩ (Nat.le_trans hn q2)
     rw [JN] at p1
     split at p1
     ·cases p1
     ·rename_i hne; exact hne (q4.inj _ _ _ _ _ p1 g2 p2 hr')
    ·cases hhd
   ·cases hhd
  ·have hnj := (hneu j hj hjj).1
   unfold MA at hnj
   split at hnj
   ·rename_i s1 h1
    rw [Bool.and_eq_true] at hnj
    refine TC hi I hm hmS hl h1 hf hkv fun r' s' q1 q2 q3 q4 q5 => ?_
    refine ihN (left.erase j) s' ?_ (hd.erase j) ((List.mem_erase_of_ne (Ne.symm hjj)).2 hj0) (fun j' hj' => hneu j' (List.mem_of_mem_erase hj')) (YB I hnj.1 hnj.2 q1 q2 q3 q4 q5) (Nat.le_trans hn q2)
    rw [List.length_erase_of_mem hj]; omega
   ·cases hnj
end
theorem Zi (hi : Dr X ih) {x : Opd} {ops : List AOper} {c2 : ACode} {W : List Nat} {t : Nat} (hxc : Ig x = true) {y : AExit} {Q : AExit → AS → Prop} (hE : EnvR r S.e s.e) (hs : SimH r n0 H0 S.k S.h s.n s.H) (h : A1m ih (.seq (.reg ops) c2) W t x S = some (y, S')) (hk : Goes r n0 H0 S' s (Q y)) : aw X.P (.loop (.seq (.reg (⟨some t, .nxt x, none⟩ :: ops)) c2)) Q s := by
 intro Y hY
 unfold A1m at h
 split at h
 ·rename_i it o e0
  split at h
  ·rename_i m len left hit
   split at h
   ·rename_i hleft
    have hleft := of_decide_eq_true hleft
    split at h
    ·rename_i S0 hhd
     unfold SJ at hhd
     split at hhd
     ·rename_i it' ob kk es g1 g2 g3
      split at hhd
      ·rename_i hb
       rw [Bool.and_eq_true] at hb
       have e1 := Nat.eq_of_beq_eq_true hb.1
       subst e1
       injection hhd with hhd; subst hhd
       obtain ⟨a, ob1, q1, q2, q3⟩ := hs.hp _ _ hit
       simp only [RnO] at q3; obtain ⟨m', left', rfl, q4, q5⟩ := q3
       have q5 := q5 trivial; subst q5
       obtain ⟨l1, l2, l3⟩ := hs.lo _ _ _ hit q1
       have I : ItS r n0 H0 ⟨anyW W S.e, S.k, FM S.h it'⟩ it' a m' len left' s := ⟨hE.anyW W, hs.drop it', ⟨_, q2⟩, q1, fun g o p1 p2 => by
        rw [JN] at p1
        split at p1
        ·cases p1
        ·rename_i hne; exact hne (hs.inj _ _ _ _ _ p1 hit p2 q1), l1, l2, l3.resolve_right (by simp [MQ])⟩
       have hlen := Nat.eq_of_beq_eq_true hb.2
       split at h
       ·rename_i hflt
        exact UU hi hxc g1 q4 g3 hlen h hY (nS := s.n) hk left'.length left' s (Nat.le_refl _) (fun j hj => by
         have := List.filter_eq_nil_iff.1 hflt j hj
         simpa using this) I (Nat.le_refl _)
       ·rename_i j0 hflt
        split at h
        ·rename_i S1 hrnd
         split at h
         ·rename_i S2 hhd2
          split at h
          ·rename_i hall
           have hj0 : j0 ∈ left' := by
            have : j0 ∈ left'.filter fun j => !MA ih (.seq (.reg ops) c2) t it' m ⟨anyW W S.e, S.k, FM S.h it'⟩ j := by rw [hflt]; simp
            exact (List.mem_filter.1 this).1
           refine Z2 hi hxc g1 q4 g3 hlen hrnd hhd2 h hY (nS := s.n) hk left'.length left' s (Nat.le_refl _) (by rw [hleft]; exact List.nodup_range) hj0 (fun j hj hne => ⟨?_, List.all_eq_true.1 hall j ((List.mem_erase_of_ne hne).2 hj)⟩) I (Nat.le_refl _)
           cases hn : MA ih (.seq (.reg ops) c2) t it' m ⟨anyW W S.e, S.k, FM S.h it'⟩ j with
           | true => rfl
           | false =>
            have : j ∈ left'.filter fun j => !MA ih (.seq (.reg ops) c2) t it' m ⟨anyW W S.e, S.k, FM S.h it'⟩ j := List.mem_filter.2 ⟨hj, by rw [hn]; rfl⟩
            rw [hflt] at this; simp at this; exact absurd this hne
          ·cases h
         ·cases h
        ·cases h
       ·cases h
      ·cases hhd
     ·cases hhd
    ·cases h
   ·cases h
  ·cases h
 ·cases h
theorem step_ok (hi : Dr X ih) (horc : HB X) : Dr X (HM X ih) := by
 intro c S x S' h r n0 H0 s Q hE hs hk
 cases c with
 | skip => simp only [HM, Option.some.injEq, Prod.mk.injEq] at h; obtain ⟨rfl, rfl⟩ := h; exact hk r s (Ex.rfl_ r) (Nat.le_refl _) hE hs
 | exit id => simp only [HM, Option.some.injEq, Prod.mk.injEq] at h; obtain ⟨rfl, rfl⟩ := h; exact hk r s (Ex.rfl_ r) (Nat.le_refl _) hE hs
 | ret => simp only [HM, Option.some.injEq, Prod.mk.injEq] at h; obtain ⟨rfl, rfl⟩ := h; exact hk r s (Ex.rfl_ r) (Nat.le_refl _) hE hs
 | reg ops =>
  simp only [HM] at h
  split at h
  ·rename_i s1 h1
   simp only [Option.some.injEq, Prod.mk.injEq] at h; obtain ⟨rfl, rfl⟩ := h
   exact Y4 hi horc hE hs h1 hk
  ·cases h
 | regD m T ops =>
  simp only [HM] at h
  split at h
  ·rename_i s1 h1
   simp only [Option.some.injEq, Prod.mk.injEq] at h; obtain ⟨rfl, rfl⟩ := h
   exact A1e hi horc hE hs h1 hk
  ·cases h
 | seq a b =>
  simp only [HM] at h
  split at h
  ·rename_i s1 h1
   exact hi _ _ _ _ h1 r n0 H0 s _ hE hs fun r' s' hx hn hE' hs' => hi _ _ _ _ h r' n0 H0 s' _ hE' hs' fun r2 s2 hx2 hn2 => hk r2 s2 (hx.tr hx2) (Nat.le_trans hn hn2)
  ·rename_i o hne
   refine hi _ _ _ _ h r n0 H0 s _ hE hs fun r' s' hx hn hE' hs' => ?_
   cases x with
   | normal => exact absurd h (hne _)
   | exit i => exact hk r' s' hx hn hE' hs'
   | ret => exact hk r' s' hx hn hE' hs'
 | cond c a b =>
  simp only [HM] at h
  split at h
  ·rename_i hc
   have hx := Ac hE hc
   show FW (aw X.P a Q s) (aw X.P b Q s) (ev s.e c)
   split at h
   ·rename_i e; rw [e] at hx; simp only [Rn] at hx; rw [hx]
    exact ⟨fun _ => hi _ _ _ _ h r n0 H0 s _ hE hs hk, fun e => by cases e⟩
   ·rename_i e; rw [e] at hx; simp only [Rn] at hx; rw [hx]
    exact ⟨fun e => (by cases e), fun _ => hi _ _ _ _ h r n0 H0 s _ hE hs hk⟩
   ·cases h
  ·cases h
 | block id c =>
  simp only [HM] at h
  split at h
  ·rename_i i s1 h1
   refine hi _ _ _ _ h1 r n0 H0 s _ hE hs fun r' s' hx hn hE' hs' => ?_
   show EY id Q (.exit i) s'
   rw [MH]
   split at h
   ·rename_i hb
    simp only [Option.some.injEq, Prod.mk.injEq] at h; obtain ⟨rfl, rfl⟩ := h
    rw [if_pos (Nat.eq_of_beq_eq_true hb)]; exact hk r' s' hx hn hE' hs'
   ·rename_i hb
    simp only [Option.some.injEq, Prod.mk.injEq] at h; obtain ⟨rfl, rfl⟩ := h
    rw [if_neg (Nat.ne_of_beq_eq_false hb)]; exact hk r' s' hx hn hE' hs'
  ·rename_i o hne
   refine hi _ _ _ _ h r n0 H0 s _ hE hs fun r' s' hx hn hE' hs' => ?_
   cases x with
   | exit i => exact absurd h (hne _ _)
   | normal => exact hk r' s' hx hn hE' hs'
   | ret => exact hk r' s' hx hn hE' hs'
 | loop c =>
  simp only [HM] at h
  split at h
  ·rename_i t x' ops c2 hc
   have := Yz hc
   subst this
   split at h
   ·rename_i hxc; exact Zi hi hxc hE hs h hk
   ·cases h
  intro Y hY
  apply hY
  split at h
  ·rename_i s1 h1
   refine hi _ _ _ _ h1 r n0 H0 s _ hE hs fun r' s' hx hn hE' hs' => ?_
   exact hi _ _ _ _ h r' n0 H0 s' Q hE' hs' (fun r2 s2 hx2 hn2 => hk r2 s2 (hx.tr hx2) (Nat.le_trans hn hn2)) Y hY
  ·rename_i o hne
   refine hi _ _ _ _ h r n0 H0 s _ hE hs fun r' s' hx hn hE' hs' => ?_
   cases x with
   | normal => exact absurd h (hne _)
   | exit i => exact hk r' s' hx hn hE' hs'
   | ret => exact hk r' s' hx hn hE' hs'
 | segs l => cases h
 | bad => cases h
 | kp ks c => cases h
 | ke ks c => cases h
 | gh c => cases h
theorem UN (horc : HB X) : ∀ n, Dr X (YD X n)
 | 0 => fun _ _ _ _ h => by cases h
 | n + 1 => step_ok (UN horc n) horc
theorem run_pure (horc : HB X) (n : Nat) {f : Nat} {l : List AV} {v : AV} (h : (match Kb X (YD X n) f l 0 [] with | some (v', _, _) => KF (weak v') v | none => false) = true) (hl : HD l = true) (hv : Im v = true) : APure X.P f l v := by
 split at h
 ·rename_i v' k h' hc
  have := LG h
  subst this
  exact pure_ok (UN horc n) hc hl hv
 ·cases h
end
abbrev Js := List (Nat × List AV × AV)
def YY : Js → Nat → List AV → Option AV
 | [], _, _ => none
 | p :: T, f, l => match Nat.beq p.1 f && Tv p.2.1 l with | true => some p.2.2 | false => YY T f l
def UJ (P : Program) : Js → Prop
 | [] => True
 | p :: T => APure P p.1 p.2.1 p.2.2 ∧ Im p.2.2 = true ∧ UJ P T
theorem Kw {P : Program} {ef : List Nat} {mb mt fz : Nat → Bool} : ∀ {T : Js}, UJ P T → HB ⟨P, ef, mb, mt, YY T, fz⟩
 | [], _, _, _, _, h => by cases h
 | p :: T, hT, f, l, v, h => by
  simp only [YY] at h
  split at h
  ·rename_i hb
   rw [Bool.and_eq_true] at hb
   injection h with h; subst h
   rw [← Nat.eq_of_beq_eq_true hb.1, ← HF hb.2]
   exact ⟨hT.1, hT.2.1⟩
  ·exact Kw (ef := ef) (mb := mb) (mt := mt) (fz := fz) hT.2.2 f l v h
open Go.ChangeShapes Go.WideShapes Go.ChangeAt Go.RowKit Go.Deep
section
variable {H : Type} {enc : TypeId × Value → H} {P : Program}
theorem I5 (hl : laidOutB P = true) {W W' : World} (hb : Ext W W') (sp : Nat → Bool) : ∀ {ts : List TypeId} {vs : List Value} {ds : List (DataW H)} {ps : List MemPlace}, (∀ t ∈ ts, P.readableRec t = true ∧ t < P.types.size) →
  DataW.TrodAll enc P W 0 (fun _ => true) true ts vs ds ps → (∀ p ∈ ps, p.block < W.heap.size) → (∀ p ∈ ps, sp p.block = true) → DataW.TrodAll enc P W' 0 sp true ts vs ds ps
 | [], _, _, _, _, h, _, _ => by
  obtain ⟨rfl, rfl, rfl⟩ := trodAll_nil h
  exact trodAll_mk0
 | t :: ts, _, _, _, ht, h, hlt, hsp => by
  obtain ⟨v, vs, d, ds, p, q, rfl, rfl, rfl, h1, h2⟩ := trodAll_cons h
  have h3 := ht t List.mem_cons_self
  refine trodAll_cons_mk (WideElems.Trod_stays hl h3.1 h3.2 h1 (fun x hx => Below.same hb (hlt x (List.mem_append_left _ hx))) (fun x hx => hsp x (List.mem_append_left _ hx))) ?_
  exact I5 hl hb sp (fun u hu => ht u (List.mem_cons_of_mem _ hu)) h2 (fun x hx => hlt x (List.mem_append_right _ hx)) (fun x hx => hsp x (List.mem_append_right _ hx))
theorem Ww {f : Func} {s : ChangeSpec} {W W' : World} {args : Array Value} {ds gs : List (DataW H)} {before : List MemPlace} {tb : TypeId}
  (hW : DataW.Whole enc P f.params.toList s.vars false W args.toList ds gs before) (hv : s.vars = []) (hl : laidOutB P = true) (hr : ∀ t ∈ f.params.toList, P.readableRec t = true ∧ t < P.types.size)
  (hres : f.resultTypes = #[tb]) (htb : P.underlying tb = some .bool) (h1 : (s.fn H ds).results = [.lit (.bool true)]) (h2 : (s.fn H ds).args = ds) (h3 : (s.fn H ds).vars = []) (hb : Ext W W') :
  s.post enc P f false true false false W args (.bool true) W' := by
 have hlt : ∀ p ∈ before, p.block < W.heap.size := fun p hp => hW.lt p hp
 have hW' := hW
 obtain ⟨p, q, hA, hV, rfl, _, _⟩ := hW
 rw [hv] at hV
 obtain ⟨rfl, rfl⟩ := trodVars_none hV
 refine ⟨ds, [], p ++ [], [], p, [], hW', ?_, ?_, ?_, ?_, fun h => by cases h⟩
 ·rw [List.append_nil, h1, hres]
  exact trodAll_mk1 (shut_bool htb true)
 ·rw [List.append_nil, h2]
  exact I5 hl hb _ hr hA (fun x hx => hlt x (by simpa using hx)) (fun x hx => by simpa using hlt x (by simpa using hx))
 ·rw [List.append_nil, h3, hv]; rfl
 ·exact Below.frame hb _
theorem QG {w : World} {a : Addr} {v : Value} (h : w.cell? (a.add 0) = some v) : ∃ g off, a = ⟨g, off, none⟩ := by
 obtain ⟨g, off, spot⟩ := a
 cases spot with
 | none => exact ⟨g, off, rfl⟩
 | some s =>
  unfold Addr.add World.cell? at h
  simp at h
  split at h <;> cases h
theorem Ly {w : World} {base : Nat} {spare : Nat → Bool} {held : Bool} {t e : TypeId} {fuel C : Nat} {v : Value} {x : DataW H × List MemPlace} (ht : P.underlying t = some (.slice e)) (hC : P.cellsOf e = C) (hC0 : 0 < C)
  (h : DataW.trod enc P w base spare held fuel t [v] = some x) :
  ∃ (n k : Nat) (X : Nat → List Value) (Y : Nat → DataW H × List MemPlace), Rd w C v n ((List.range n).flatMap X) ∧ (∀ i, i < n → (X i).length = C ∧ DataW.trod enc P w base spare held k e (X i) = some (Y i)) ∧ ((n = 0 ∧ x.1 = .nil) ∨ ∃ sp, x.1 = .slice ((List.range n).map fun i => (Y i).1) sp) := by
 rcases open_slice ht h with ⟨hv, hx⟩ | ⟨a, len, cap, m, n, D, Pl, hv, hb, hl, hm, hmm, hx, hi⟩
 ·injection hv with hv
  subst hv
  exact ⟨0, 0, fun _ => [], fun _ => (.nil, []), Rd.nil_ w C, fun i hi => by omega, .inl ⟨rfl, by rw [hx]⟩⟩
 ·injection hv with hv
  subst hv
  rw [hC] at hi
  have hlm : len ≤ m := by rw [hmm]; split <;> omega
  obtain ⟨X, hX⟩ := choose_lt (n := len) (p := fun i (cs : List Value) => w.cells? base (a.add (i * C)) C = some cs ∧ DataW.trod enc P w base spare held n e cs = some (D i, Pl i)) (fun i h => hi i (by omega))
  have hlen : ∀ i, i < len → (X i).length = C := fun i h => (World.cells?_some (hX i h).1).2.1
  have hflen : ∀ k, k ≤ len → ((List.range k).flatMap X).length = k * C := by
   intro k hk
   induction k with
   | zero => simp
   | succ k ih => rw [List.range_succ, List.flatMap_append, List.length_append, ih (by omega)]; simp [hlen k (by omega), Nat.add_mul]
  refine ⟨len, n, X, fun i => (D i, Pl i), ⟨some a, cap, rfl, hflen len (Nat.le_refl _), hl, hm, fun h0 => ?_⟩, fun i hi => ⟨hlen i hi, (hX i hi).2⟩, .inr ⟨_, by rw [hx]⟩⟩
  have hcell : ∀ i, i < len → ∀ j, j < C → w.cell? (a.add (i * C + j)) = (X i)[j]? := fun i hi' j hj => by
   have := (World.cells?_some (hX i hi').1).2.2 j hj
   rwa [Go.Deep.add_add] at this
  obtain ⟨g, off, rfl⟩ : ∃ g off, a = ⟨g, off, none⟩ := by
   have h1 := hcell 0 h0 0 hC0
   have h2 : (X 0)[0]? = some ((X 0)[0]'(by rw [hlen 0 h0]; exact hC0)) := List.getElem?_eq_getElem _
   rw [h2] at h1
   exact QG (by simpa using h1)
  refine ⟨g, off, rfl, fun j u hu => ?_⟩
  have hj : j < len * C := by
   have := (List.getElem?_eq_some_iff.1 hu).1
   rwa [hflen len (Nat.le_refl _)] at this
  have hdiv : j / C < len := Nat.div_lt_of_lt_mul (by rwa [Nat.mul_comm])
  have hmod := Nat.mod_lt j hC0
  have h1 := hcell (j / C) hdiv (j % C) hmod
  have hsplit : j / C * C + j % C = j := by rw [Nat.mul_comm]; exact Nat.div_add_mod j C
  rw [hsplit, addr_add] at h1
  rw [h1, ← hu]
  have Ag : ∀ k, k ≤ len → j < k * C → ((List.range k).flatMap X)[j]? = (X (j / C))[j % C]? := by
   intro k hk hjk
   induction k with
   | zero => omega
   | succ k ih =>
    rw [List.range_succ, List.flatMap_append]
    by_cases hc : j < k * C
    ·rw [List.getElem?_append_left (by rw [hflen k (by omega)]; exact hc)]
     exact ih (by omega) hc
    ·rw [List.getElem?_append_right (by rw [hflen k (by omega)]; omega), hflen k (by omega)]
     have hq : j / C = k := by
      rw [Nat.add_mul] at hjk
      have h2 : k ≤ j / C := (Nat.le_div_iff_mul_le hC0).2 (by omega)
      have h3 : j / C < k + 1 := Nat.div_lt_of_lt_mul (by rw [Nat.mul_add]; rw [Nat.mul_comm C k]; omega)
      omega
     rw [hq]
     have hr : j - k * C = j % C := by rw [← hq]; omega
     rw [hr]
     simp
  exact (Ag len (Nat.le_refl _) hj).symm
end
theorem Sd {H : Type} (l r : List (DataW H)) : Rows.uptoBulkAll (l ++ r) = Rows.uptoBulkAll l + Rows.uptoBulkAll r := by
 induction l with
 | nil => simp [Rows.uptoBulkAll]
 | cons x l ih => simp only [List.cons_append, Rows.uptoBulkAll, ih]; omega
theorem XY {H : Type} (n : Nat) (f : Nat → DataW H) (g : Nat → Nat) (h : ∀ i, i < n → g i ≤ Rows.uptoBulk (f i)) : ((List.range n).map g).sum ≤ Rows.uptoBulkAll ((List.range n).map f) := by
 induction n with
 | zero => simp
 | succ n ih =>
  have := ih (fun i hi => h i (by omega))
  have := h n (by omega)
  rw [List.range_succ, List.map_append, List.map_append, Sd, List.sum_append]
  simp [Rows.uptoBulkAll]
  omega
theorem Km {H : Type} {P : Program} {e : TypeId} {l : List (DataW H)} {d : DataW H} (hd : d ∈ l) {y : Nat} (hy : y ∈ d.weights P e) : y ∈ DataW.weightsAll P e l := by
 induction l with
 | nil => cases hd
 | cons a l ih =>
  simp only [DataW.weightsAll, List.mem_append]
  rcases List.mem_cons.1 hd with rfl | hd
  ·exact .inl hy
  ·exact .inr (ih hd)
def Tq (w : World) : Gh := ⟨fun b o => w.cell? ⟨b, o, none⟩, fun _ => none⟩
theorem VR (P : Program) (w : World) : Rel0 P w (Tq w) w.heap.size (fun _ => none) w :=
 ⟨Ext.rfl_ w, Nat.le_refl _, Nat.le_refl _, fun _ _ _ h => h, (fun _ _ _ h => by cases h), (fun _ _ _ h => by cases h), (fun _ _ h => by cases h)⟩
theorem W1 {P : Program} {f : Nat} {args : List AV} {vs : List Value} {w : World} (hl : Laid w) (h : APure P f args (.bool true)) (hr : RepL (Tq w) vs args) : Calls P f vs.toArray w fun e w' => e = .returned (.bool true) ∧ Ext w w' := by
 refine (h w.heap.size (fun _ => none) (fun _ _ => rfl) w (Tq w) w vs hl (VR P w) hr).mono ?_
 rintro e w' ⟨v, r, G', n', H', rfl, ⟨rfl, _, _⟩, hv, _, _, h0⟩
 cases hv
 exact ⟨rfl, h0.ext⟩
theorem NE {G : Gh} {n : Nat} {X : Nat → List Value} {l : Nat → AV} (h : ∀ i, i < n → RepL G (X i) (l i).cells) : RepL G ((List.range n).flatMap X) (AO ((List.range n).map l)) := by
 induction n with
 | zero => exact .nil
 | succ n ih =>
  rw [List.range_succ, List.flatMap_append, List.map_append]
  unfold AO
  rw [List.flatMap_append]
  exact (ih fun i hi => h i (by omega)).append (by simpa using h n (by omega))
theorem N0 {w : World} {sz n : Nat} {v : Value} {xs : List Value} {l : List AV} (hr : Rd w sz v n xs) (hx : RepL (Tq w) xs (AO l)) (hl : l.length = n) (h0 : 0 < sz) (hu : ∀ x ∈ l, x.cells.length = sz) (h1 : ∀ x ∈ AO l, x.one = true) : Rep (Tq w) v (.sl sz l .ro) := by
 obtain ⟨A, c, rfl, hlen, hc, hm, hcell⟩ := hr
 rcases Nat.eq_zero_or_pos n with h | h
 ·subst h
  have : l = [] := List.length_eq_zero_iff.1 hl
  subst this
  exact .sl0 hm
 ·obtain ⟨g, off, rfl, hcs⟩ := hcell h
  exact .slro hx (fun j u hu => hcs j u hu) ⟨by omega, hm, h0, hu, h1⟩ hl.symm
section
variable {H : Type} {enc : TypeId × Value → H} {P : Program}
def T3 {α : Type} (P : Program) (w : World) (e : TypeId) (en : α → AV) (Wa : α → Prop) (q : α → Nat) (cs : List Value) (d : DataW H) (a : α) : Prop :=
 RepL (Tq w) cs (en a).cells ∧ ((∀ y ∈ d.weights P e, y ≤ reachBytes) → Wa a) ∧ q a ≤ Rows.uptoBulk d
theorem open_list {α : Type} [Inhabited α] {w : World} {base : Nat} {spare : Nat → Bool} {held : Bool} {t e : TypeId} {fuel C : Nat} {v : Value} {x : DataW H × List MemPlace} (en : α → AV) (Wa : α → Prop) (q : α → Nat)
  (ht : P.underlying t = some (.slice e)) (hC : P.cellsOf e = C) (hC0 : 0 < C) (hu : ∀ a, (en a).cells.length = C ∧ ∀ y ∈ (en a).cells, y.one = true)
  (he : ∀ k cs y, cs.length = C → DataW.trod enc P w base spare held k e cs = some y → ∃ a, T3 P w e en Wa q cs y.1 a)
  (h : DataW.trod enc P w base spare held fuel t [v] = some x) : ∃ l : List α, T3 P w t (fun l : List α => .sl C (l.map en) .ro) (fun l => l.length * P.bytesOf e ≤ reachBytes ∧ ∀ a ∈ l, Wa a) (fun l => (l.map q).sum + 1) [v] x.1 l := by
 obtain ⟨n, k, X, Y, hr, hX, hY⟩ := Ly ht hC hC0 h
 obtain ⟨f, hf⟩ := choose_lt (n := n) (p := fun i a => T3 P w e en Wa q (X i) (Y i).1 a) (fun i hi => he k (X i) (Y i) (hX i hi).1 (hX i hi).2)
 have hlen : ((List.range n).map f).length = n := by simp
 refine ⟨(List.range n).map f, .cons (N0 hr ?_ (by simp) hC0 ?_ ?_) .nil, fun hw => ?_, ?_⟩
 ·rw [List.map_map]
  exact NE fun i hi => (hf i hi).1
 ·intro y hy
  obtain ⟨a, _, rfl⟩ := List.mem_map.1 hy
  exact (hu a).1
 ·intro y hy
  obtain ⟨z, hz, hy⟩ := List.mem_flatMap.1 hy
  obtain ⟨a, _, rfl⟩ := List.mem_map.1 hz
  exact (hu a).2 y hy
 ·rcases hY with ⟨h0, h1⟩ | ⟨sp, h1⟩
  ·subst h0; simp
  ·rw [h1] at hw
   simp only [DataW.weights, ht, List.mem_cons, List.mem_append, List.length_map, List.length_range] at hw
   refine ⟨?_, fun a ha => ?_⟩
   ·have := hw _ (.inl rfl)
    rw [hlen]
    exact Nat.le_trans (Nat.mul_le_mul_right _ (Nat.le_add_right _ _)) this
   ·obtain ⟨i, hi, rfl⟩ := List.mem_map.1 ha
    have hi' : i < n := List.mem_range.1 hi
    exact (hf i hi').2.1 fun y hy => hw y (.inr (.inl (Km (List.mem_map.2 ⟨i, hi, rfl⟩) hy)))
 ·rcases hY with ⟨h0, h1⟩ | ⟨sp, h1⟩
  ·subst h0; rw [h1]; simp [Rows.uptoBulk]
  ·rw [h1]
   have := XY n (fun i => (Y i).1) (fun i => q (f i)) (fun i hi => (hf i hi).2.2)
   simp only [Rows.uptoBulk, List.map_map]
   have e : (q ∘ f) = fun i => q (f i) := rfl
   rw [e]; omega
end
theorem AA : (∀ {H : A3} {g k : Nat} {x : Option AObj}, k ≠ g → upd H g x k = H k) ∧ (∀ (H : A3) (g : Nat) (x : Option AObj), upd H g x g = x) ∧ (∀ {c : Prop} [h : Decidable c], c → ∀ {α : Type} {t e : α}, @ite α c h t e = t) ∧ (∀ {c : Prop} [h : Decidable c], ¬ c → ∀ {α : Type} {t e : α}, @ite α c h t e = e) ∧ (∀ n : Int, -9223372036854775808 ≤ n ∧ n ≤ 9223372036854775807 → IntKind.i64.wrap n = n) ∧ (∀ {a b : Int}, 0 ≤ a → a.tdiv b = a / b) ∧ (∀ {a b : Int}, 0 ≤ a → a.tmod b = a % b) :=
 ⟨upd_ne, AX, fun h => if_pos h, fun h => if_neg h, IntWalk.i64_in, Int.tdiv_eq_ediv_of_nonneg, Int.tmod_eq_emod_of_nonneg⟩
theorem AB {gs : List Nat} {e : AT} {n : Nat} {H : A3} {K : AS → Prop} (h : K ⟨e, n, H⟩) : KC gs H K ⟨e, n, H⟩ := KC.of (KeepM.rfl_ _ _) h
theorem AC {n : Nat} {H : A3} : SameB n H H := SameB.rfl_ _ _
theorem AD {a b : Prop} (h : a) (k : b) : a ∧ b := ⟨h, k⟩
theorem Aa (f : Nat) {P : Program} {args : List AV} {d : Option Nat} {K : AS → Prop} {s : AS} (h : CallP P f args d K s) : CallP P f args d K s := h
theorem Am {P : Program} {f : Nat} {args args' : List AV} {d : Option Nat} {K : AS → Prop} {e : AT} {n : Nat} {H : A3} {v : AV} (h : APure P f args' v) (hk : K ⟨AN e d v, n, H⟩) (hs : AQ args args' := by first | with_reducible exact A2 _ | (simp [AQ, AM, A5, A2]; done)) : CallP P f args d K ⟨e, n, H⟩ := CallP.sf hs h hk
theorem Ap (f : Nat) {P : Program} {args : List AV} {d : Option Nat} {K : AS → Prop} {s : AS} (h : CallK P f args d K s) : CallK P f args d K s := h
end Go.Proofs.YtjdccdelcnmocaaGreatDoor
