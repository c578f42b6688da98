/- What code does to plain data: the rules; what a call's contract says; no condition. -/
import Derived.Test.YtnmkpadgogbgkaaDoorAmMap
set_option linter.all false
set_option linter.unusedSimpArgs false
set_option linter.unusedVariables false
namespace Go.Proofs.YtnmkpadgogbgkaaDoor
open Go.RowKit

def shpSz : Shp → Nat
  | none => 1
  | some s => s
def szP (P : Program) (e : TypeId) : Nat := ((P.info? e).map (·.size)).getD 0

def ObjOk (P : Program) (G : Gh) (w : World) (g : Nat) : AObj → Prop
  | .cells e cs => (∀ o, G.I g o = none) ∧ ∃ vs : Array Value, w.heap[g]? = some (.cells vs e (0, 0)) ∧ RepL G vs.toList cs ∧ ∀ x ∈ cs, x.one = true
  | .row e m => ∃ (cur : Array Value) (c : Nat) (fz : Nat × Nat), G.cap g = some (e, c) ∧ w.heap[g]? = some (.cells cur e fz) ∧ fz.2 ≤ m * szP P e ∧ m ≤ c ∧ c ≤ maxLen ∧ cur.size = c * szP P e ∧ ∀ o, m * szP P e ≤ o → G.I g o = none
  | .map kk es => ∃ (es' : Array MapEntry) (clock : Nat), w.heap[g]? = some (.map es' clock) ∧ RepM G es'.toList es ∧ ∀ e ∈ es, keyOkK kk e.1 = true
structure Rel0 (P : Program) (w0 : World) (G : Gh) (n : Nat) (H : AHeap) (w : World) : Prop where
  ext : Ext w0 w
  lo : w0.heap.size ≤ n
  hi : n ≤ w.heap.size
  seal_ : ∀ b o v, G.I b o = some v → w.cell? ⟨b, o, none⟩ = some v
  caps : ∀ g e c, G.cap g = some (e, c) → ∃ (cur : Array Value) (fz : Nat × Nat), w.heap[g]? = some (.cells cur e fz) ∧ cur.size = c * szP P e
  capLo : ∀ g e c, G.cap g = some (e, c) → w0.heap.size ≤ g
  objs : ∀ g ob, H g = some ob → w0.heap.size ≤ g ∧ g < n ∧ ObjOk P G w g ob

abbrev APost := AV → Nat → AHeap → Prop
/-- the function, called at such data, hands back such data -/
def ACalls (P : Program) (f : Nat) (args : List AV) (n : Nat) (H : AHeap) (R : APost) : Prop :=
  (∀ g, n ≤ g → H g = none) → ∀ (w0 : World) (G : Gh) (w : World) (vs : List Value), Laid w0 → Rel0 P w0 G n H w → RepL G vs args →
    Calls P f vs.toArray w fun e w' => ∃ (v : Value) (r : AV) (G' : Gh) (n' : Nat) (H' : AHeap), e = .returned v ∧ R r n' H' ∧ Rep G' v r ∧ G.Le G' ∧ n ≤ n' ∧ Rel0 P w0 G' n' H' w'

def CallK (P : Program) (f : Nat) (args : List AV) (d : Option Nat) (K : AS → Prop) (s : AS) : Prop :=
  ∃ R, ACalls P f args s.n s.H R ∧ ∀ r n' H', s.n ≤ n' → (∀ g, n' ≤ g → H' g = none) → R r n' H' → K ⟨putO s.e d r, n', H'⟩

/-- the function, called at such data, hands back this, and turns nothing -/
def APure (P : Program) (f : Nat) (args : List AV) (v : AV) : Prop := ∀ n H, ACalls P f args n H fun r n' H' => r = v ∧ n' = n ∧ H' = H
def CallP (P : Program) (f : Nat) (args : List AV) (d : Option Nat) (K : AS → Prop) (s : AS) : Prop := ∃ args' v, APure P f args' v ∧ simL args args' ∧ K ⟨putO s.e d v, s.n, s.H⟩

/-- a function with a body -/
def callable (P : Program) (f : Nat) : Bool := match P.funcs[f]? with | some fn => fn.body.isSome && fn.name != "runtime.NumGoroutine" | none => false
def splice (cs : List AV) (o : Nat) (v : List AV) : List AV := cs.take o ++ v ++ cs.drop (o + v.length)
def ones (cs : List AV) : Prop := ∀ x ∈ cs, x.one = true

def appK (e sz by_ : Nat) (d : Option Nat) (K : AS → Prop) (s : AS) : AV → List AV → Prop
  | .sl z l t, m => (l.length + m.length) * by_ ≤ 140737488355328 ∧ l.length + m.length ≤ maxLen ∧
    match t with
    | .nil => (m = [] → K ⟨putO s.e d (.sl sz [] .nil), s.n, s.H⟩) ∧ (m ≠ [] → ∀ g, s.n ≤ g → K ⟨putO s.e d (.sl sz m (.own g)), g + 1, upd s.H g (some (.row e m.length))⟩)
    | .own g0 => z = sz ∧ s.H g0 = some (.row e l.length) ∧ ∀ g n', (g = g0 ∨ s.n ≤ g) → s.n ≤ n' → g < n' → K ⟨putO s.e d (.sl sz (l ++ m) (.own g)), n', upd (upd s.H g0 none) g (some (.row e (l.length + m.length)))⟩
    | .ro => False
  | _, _ => False
def appKS (e sz by_ : Nat) (d : Option Nat) (K : AS → Prop) (s : AS) (x : AV) : AV → Prop
  | .sl z m _ => (z = sz ∨ m = []) ∧ ∃ m', simL m m' ∧ appK e sz by_ d K s x m'
  | _ => False
/-- the bytes of a string -/
def byteA (s : List UInt8) : List AV := s.map fun u => AV.int .u8 u.toNat
def appKB (e by_ : Nat) (d : Option Nat) (K : AS → Prop) (s : AS) (x : AV) : AV → Prop
  | .str b => appK e 1 by_ d K s x (byteA b)
  | _ => False

def storeK (sh : Shp) (d : Option Nat) (K : AS → Prop) (s : AS) (v : AV) : AV → Prop
  | .ptr g o => match s.H g with
    | some (.cells e cs) => v.fits sh = true ∧ ones v.cells ∧ o + v.cells.length ≤ cs.length ∧ K ⟨putO s.e d .any, s.n, upd s.H g (some (.cells e (splice cs o v.cells)))⟩
    | _ => False
  | _ => False

/-- a pointer to a variable of type u, where one lies -/
def updnAV (P : Program) (H : AHeap) (u : TypeId) : AV → Option AV
  | .ptr g o => match H g with
    | some (.cells e cs) => if liesAt P P.depth e (cs.length / P.cellsOf e) o u 1 = true then some (.ptr g o) else none
    | _ => none
  | _ => none
/-- a value is put into a map -/
def msetS (kk : Option IntKind) (d : Option Nat) (K : AS → Prop) (s : AS) (k v : AV) : AV → Prop
  | .mp g => match s.H g with
    | some (.map kk' es) => kk' = kk ∧ keyOkK kk k = true ∧ K ⟨putO s.e d .any, s.n, upd s.H g (some (.map kk (msetL k v es)))⟩
    | _ => False
  | _ => False
def awOp (P : Program) (d : Option Nat) (op : AOp) (K : AS → Prop) (s : AS) : Prop :=
  match op with
  | .alloc e z => ones z ∧ ∀ g, s.n ≤ g → K ⟨putO s.e d (.ptr g 0), g + 1, upd s.H g (some (.cells e z))⟩
  | .box e sh x => (ev s.e x).fits sh = true ∧ ones (ev s.e x).cells ∧ ∀ g, s.n ≤ g → K ⟨putO s.e d (.ptr g 0), g + 1, upd s.H g (some (.cells e (ev s.e x).cells))⟩
  | .store sh x v => storeK sh d K s (ev s.e v) (ev s.e x)
  | .bsl e sh xs => (∀ x ∈ xs, (ev s.e x).fits sh = true ∧ ones (ev s.e x).cells) ∧ ∀ g, s.n ≤ g → K ⟨putO s.e d (.sl (shpSz sh) (xs.map (ev s.e)) (.own g)), g + 1, upd s.H g (some (.row e xs.length))⟩
  | .app e sz by_ x y => appKS e sz by_ d K s (ev s.e x) (ev s.e y)
  | .appB e by_ x y => appKB e by_ d K s (ev s.e x) (ev s.e y)
  | .s2b _ x => match ev s.e x with | .str b => b.length ≤ maxLen ∧ ∀ n', s.n ≤ n' → K ⟨putO s.e d (.sl 1 (b.map fun u => .int .u8 u.toNat) .ro), n', s.H⟩ | _ => False
  | .s2s x => match ev s.e x with | .sl sz l (.own g) => l ≠ [] ∧ K ⟨putO s.e d (.sl sz l .ro), s.n, upd s.H g none⟩ | _ => False
  | .mkmap kk => ∀ g, s.n ≤ g → K ⟨putO s.e d (.mp g), g + 1, upd s.H g (some (.map kk []))⟩
  | .mset kk m k v => msetS kk d K s (ev s.e k) (ev s.e v) (ev s.e m)
  | .call f xs => CallK P f (xs.map (ev s.e)) d K s
  | .updn u x => K1 (updnAV P s.H u (ev s.e x)) fun v => K ⟨putO s.e d v, s.n, s.H⟩
  | .ust e x n => K1 (ustAV e (ev s.e x) (ev s.e n)) fun v => K ⟨putO s.e d v, s.n, s.H⟩
  | .callp f xs => CallP P f (xs.map (ev s.e)) d K s
  | .callv x xs => match ev s.e x with | .fn f a b => callable P f = true ∧ CallK P f (a ++ xs.map (ev s.e) ++ b) d K s | _ => False
  | op => K1 (pe op s.e s.H) fun v => K ⟨putO s.e d v, s.n, s.H⟩

def awO (P : Program) (o : AOper) (K : AS → Prop) (s : AS) : Prop :=
  match o.guard with
  | none => awOp P o.dst o.op K s
  | some (t, want) => match get s.e t with
    | .bool b => (b = want → awOp P o.dst o.op K s) ∧ (b ≠ want → K ⟨putO s.e o.dst .und, s.n, s.H⟩)
    | .und => K ⟨putO s.e o.dst .und, s.n, s.H⟩
    | _ => False
def awOps (P : Program) : List AOper → (AS → Prop) → AS → Prop
  | [], K, s => K s
  | o :: os, K, s => awO P o (awOps P os K) s

/-- the heap without the blocks that are stored to -/
def maskH : List Nat → AHeap → AHeap
  | [], H => H
  | g :: gs, H => fun k => if k = g then none else maskH gs H k
def gsC : AV → Option (List Nat) → Option (List Nat)
  | .ptr g _, some gs => some (g :: gs)
  | _, _ => none
def gsOf (e : AEnv) : List Nat → Option (List Nat)
  | [] => some []
  | t :: ts => gsC (get e t) (gsOf e ts)
def blkIn (gs : List Nat) : AV → Prop
  | .ptr g _ => g ∈ gs
  | _ => False
/-- an operation of a region whose loads may come late: they look at no block that is stored to -/
def awOM (P : Program) (gs : List Nat) (o : AOper) (K : AS → Prop) (s : AS) : Prop :=
  match o with
  | ⟨d, .load sh x, none⟩ => K1 (pe (.load sh x) s.e (maskH gs s.H)) fun v => K ⟨putO s.e d v, s.n, s.H⟩
  | ⟨d, .alloc t z, none⟩ => ones z ∧ ∀ g, s.n ≤ g → s.H g = none → K ⟨putO s.e d (.ptr g 0), g + 1, upd s.H g (some (.cells t z))⟩
  | ⟨d, .store sh x v, none⟩ => blkIn gs (ev s.e x) ∧ awOp P d (.store sh x v) K s
  | o => awO P o K s
def awOpsM (P : Program) (gs : List Nat) : List AOper → (AS → Prop) → AS → Prop
  | [], K, s => K s
  | o :: os, K, s => awOM P gs o (awOpsM P gs os K) s
def gsK (P : Program) (o : Option (List Nat)) (ops : List AOper) (K : AS → Prop) (s : AS) : Prop :=
  match o with
  | some gs => awOpsM P gs ops K s
  | none => False
def guardK (want : Bool) (A B : Prop) : AV → Prop
  | .bool b => (b = want → A) ∧ (b ≠ want → B)
  | .und => B
  | _ => False
/-- what is not carried out yields nothing -/
def undE (e : AEnv) : List AOper → AEnv
  | [] => e
  | o :: os => undE (putO e o.dst .und) os
def anyE (e : AEnv) : List AOper → AEnv
  | [] => e
  | o :: os => anyE (putO e o.dst .any) os
/-- what only computes, one after the other -/
def evalOps : List AOper → AEnv → AHeap → Option AEnv
  | [], e, _ => some e
  | o :: os, e, H => match pe o.op e H with
    | some v => evalOps os (putO e o.dst v) H
    | none => none
/-- one of two values, of which the second is looked at only if the first does not decide -/
def scV (want : Bool) (x : Nat) : AV → Option AEnv → Option AV
  | .bool b, some e' => match get e' x with
    | .bool b' => some (.bool (if want then b && b' else b || b'))
    | _ => none
  | .bool b, none => if b = want then none else some (.bool (!want))
  | _, _ => none
def awSegs (P : Program) : List Seg → (AS → Prop) → AS → Prop
  | [], K, s => K s
  | ⟨none, ops, _⟩ :: l, K, s => awOps P ops (awSegs P l K) s
  | ⟨some (t, want), ops, some (d, x)⟩ :: l, K, s => K1 (scV want x (get s.e t) (evalOps ops s.e s.H)) fun v => awSegs P l K ⟨put (anyE s.e ops) d v, s.n, s.H⟩
  | ⟨some (t, want), ops, none⟩ :: l, K, s => guardK want (awOps P ops (awSegs P l K) s) (awSegs P l K ⟨undE s.e ops, s.n, s.H⟩) (get s.e t)

def thenA (X : AS → Prop) (Q : AExit → AS → Prop) : AExit → AS → Prop
  | .normal, s => X s
  | e, s => Q e s
def blockA (id : Nat) (Q : AExit → AS → Prop) : AExit → AS → Prop
  | .exit i, s => if i = id then Q .normal s else Q (.exit i) s
  | e, s => Q e s
def condK (A B : Prop) : AV → Prop
  | .bool b => (b = true → A) ∧ (b = false → B)
  | _ => False
def keepE (e : AEnv) (ks : List Nat) : AEnv := ks.map fun k => (k, get e k)

def keepQ (ks : List Nat) (Q : AExit → AS → Prop) : AExit → AS → Prop
  | .normal, s => Q .normal ⟨keepE s.e ks, s.n, s.H⟩
  | e, s => Q e s
/-- rounds of a loop, of which there is an end -/
def LoopK (B : (AExit → AS → Prop) → AS → Prop) (Q : AExit → AS → Prop) (s : AS) : Prop := ∀ X : AS → Prop, (∀ s, B (thenA X Q) s → X s) → X s
def aw (P : Program) : ACode → (AExit → AS → Prop) → AS → Prop
  | .skip, Q, s => Q .normal s
  | .reg ops, Q, s => awOps P ops (Q .normal) s
  | .regD S ops, Q, s => gsK P (gsOf s.e S) ops (Q .normal) s
  | .segs l, Q, s => awSegs P l (Q .normal) s
  | .seq a b, Q, s => aw P a (thenA (aw P b Q) Q) s
  | .cond c a b, Q, s => condK (aw P a Q s) (aw P b Q s) (ev s.e c)
  | .block id c, Q, s => aw P c (blockA id Q) s
  | .loop c, Q, s => LoopK (fun Q s => aw P c Q s) Q s
  | .exit id, Q, s => Q (.exit id) s
  | .ret, Q, s => Q .ret s
  | .bad, _, _ => False
  | .kp ks c, Q, s => aw P c Q ⟨keepE s.e ks, s.n, s.H⟩
  | .ke ks c, Q, s => aw P c (keepQ ks Q) s

/-! ### more is asked of less -/
theorem K1.mono {o : Option AV} {k k' : AV → Prop} (h : K1 o k) (hk : ∀ v, k v → k' v) : K1 o k' := by
  cases o with
  | none => exact h
  | some v => exact hk v h
theorem CallK.mono {P : Program} {f : Nat} {args : List AV} {d : Option Nat} {K K' : AS → Prop} {s : AS} (h : CallK P f args d K s) (hk : ∀ s, K s → K' s) : CallK P f args d K' s := by
  obtain ⟨R, h1, h2⟩ := h
  exact ⟨R, h1, fun r n' H' h3 h4 h5 => hk _ (h2 r n' H' h3 h4 h5)⟩
theorem CallP.mono {P : Program} {f : Nat} {args : List AV} {d : Option Nat} {K K' : AS → Prop} {s : AS} (h : CallP P f args d K s) (hk : ∀ s, K s → K' s) : CallP P f args d K' s := by
  obtain ⟨args', v, h1, hs, h2⟩ := h
  exact ⟨args', v, h1, hs, hk _ h2⟩
theorem appK_move {e sz by_ : Nat} {d : Option Nat} {K K' : AS → Prop} {s : AS} {e' : AEnv} {x : AV} {m : List AV} (h : appK e sz by_ d K s x m) (hk : ∀ r n' H', K ⟨putO s.e d r, n', H'⟩ → K' ⟨putO e' d r, n', H'⟩) : appK e sz by_ d K' ⟨e', s.n, s.H⟩ x m := by
  unfold appK at h ⊢
  split at h
  · refine ⟨h.1, h.2.1, ?_⟩
    have h4 := h.2.2
    split at h4
    · exact ⟨fun hm => hk _ _ _ (h4.1 hm), fun hm g hg => hk _ _ _ (h4.2 hm g hg)⟩
    · exact ⟨h4.1, h4.2.1, fun g n' h1 h2 h3 => hk _ _ _ (h4.2.2 g n' h1 h2 h3)⟩
    · exact h4
  · exact h
theorem appK_mono {e sz by_ : Nat} {d : Option Nat} {K K' : AS → Prop} {s : AS} {x : AV} {m : List AV} (h : appK e sz by_ d K s x m) (hk : ∀ s, K s → K' s) : appK e sz by_ d K' s x m :=
  appK_move (e' := s.e) h fun _ _ _ h' => hk _ h'
theorem awOp_mono {P : Program} {d : Option Nat} {op : AOp} {K K' : AS → Prop} {s : AS} (h : awOp P d op K s) (hk : ∀ s, K s → K' s) : awOp P d op K' s := by
  cases op <;> simp only [awOp] at h ⊢ <;> first
    | exact K1.mono h fun v hv => hk _ hv
    | exact ⟨h.1, fun g hg => hk _ (h.2 g hg)⟩
    | exact ⟨h.1, h.2.1, fun g hg => hk _ (h.2.2 g hg)⟩
    | exact h.mono hk
    | skip
  case store sh x v =>
    unfold storeK at h ⊢
    split at h
    · split at h
      · exact ⟨h.1, h.2.1, h.2.2.1, hk _ h.2.2.2⟩
      · exact h
    · exact h
  case app e sz by_ x y =>
    unfold appKS at h ⊢
    split at h
    · obtain ⟨h1, m', h2, h3⟩ := h
      exact ⟨h1, m', h2, appK_mono h3 hk⟩
    · exact h
  case appB e by_ x y =>
    unfold appKB at h ⊢
    split at h
    · exact appK_mono h hk
    · exact h
  case s2b e x =>
    split at h
    · exact ⟨h.1, fun n' hn => hk _ (h.2 n' hn)⟩
    · exact h
  case s2s x =>
    split at h
    · exact ⟨h.1, hk _ h.2⟩
    · exact h
  case mkmap kk => exact fun g hg => hk _ (h g hg)
  case mset kk m k v =>
    unfold msetS at h ⊢
    split at h
    · split at h
      · exact ⟨h.1, h.2.1, hk _ h.2.2⟩
      · exact h
    · exact h
  case callv x xs =>
    split at h
    · exact ⟨h.1, h.2.mono hk⟩
    · exact h
theorem awO_mono {P : Program} {o : AOper} {K K' : AS → Prop} {s : AS} (h : awO P o K s) (hk : ∀ s, K s → K' s) : awO P o K' s := by
  unfold awO at h ⊢
  split at h
  · exact awOp_mono h hk
  · split at h
    · exact ⟨fun hb => awOp_mono (h.1 hb) hk, fun hb => hk _ (h.2 hb)⟩
    · exact hk _ h
    · exact h
theorem awOps_mono {P : Program} {os : List AOper} {K K' : AS → Prop} {s : AS} (h : awOps P os K s) (hk : ∀ s, K s → K' s) : awOps P os K' s := by
  induction os generalizing s with
  | nil => exact hk _ h
  | cons o os ih => exact awO_mono h fun s' h' => ih h'
theorem awOM_mono {P : Program} {gs : List Nat} {o : AOper} {K K' : AS → Prop} {s : AS} (h : awOM P gs o K s) (hk : ∀ s, K s → K' s) : awOM P gs o K' s := by
  unfold awOM at h ⊢
  split at h
  · exact K1.mono h fun v hv => hk _ hv
  · exact ⟨h.1, fun g hg hn => hk _ (h.2 g hg hn)⟩
  · exact ⟨h.1, awOp_mono h.2 hk⟩
  · exact awO_mono h hk
theorem awOpsM_mono {P : Program} {gs : List Nat} {os : List AOper} {K K' : AS → Prop} {s : AS} (h : awOpsM P gs os K s) (hk : ∀ s, K s → K' s) : awOpsM P gs os K' s := by
  induction os generalizing s with
  | nil => exact hk _ h
  | cons o os ih => exact awOM_mono h fun s' h' => ih h'
theorem gsK.mono {P : Program} {o : Option (List Nat)} {os : List AOper} {K K' : AS → Prop} {s : AS} (h : gsK P o os K s) (hk : ∀ s, K s → K' s) : gsK P o os K' s := by
  cases o with
  | none => exact h
  | some gs => exact awOpsM_mono h hk
theorem guardK.mono {want : Bool} {A B A' B' : Prop} {v : AV} (h : guardK want A B v) (ha : A → A') (hb : B → B') : guardK want A' B' v := by
  unfold guardK at h ⊢
  split at h
  · exact ⟨fun e => ha (h.1 e), fun e => hb (h.2 e)⟩
  · exact hb h
  · exact h
theorem awSegs_mono {P : Program} {l : List Seg} {K K' : AS → Prop} {s : AS} (h : awSegs P l K s) (hk : ∀ s, K s → K' s) : awSegs P l K' s := by
  induction l generalizing s with
  | nil => exact hk _ h
  | cons o os ih =>
    obtain ⟨g, ops, pk⟩ := o
    cases g with
    | none => exact awOps_mono h fun s' h' => ih h'
    | some gw =>
      cases pk with
      | none => exact guardK.mono h (fun h => awOps_mono h fun s' h' => ih h') ih
      | some dx => exact K1.mono h fun v hv => ih hv
theorem aw_mono {P : Program} {c : ACode} {Q Q' : AExit → AS → Prop} {s : AS} (h : aw P c Q s) (hq : ∀ e s, Q e s → Q' e s) : aw P c Q' s := by
  induction c generalizing Q Q' s with
  | skip => exact hq _ _ h
  | reg ops => exact awOps_mono h (hq _)
  | regD S ops => exact gsK.mono h (hq _)
  | segs l => exact awSegs_mono h (hq _)
  | seq a b iha ihb =>
    exact iha h fun e s' h' => by
      cases e with
      | normal => exact ihb h' hq
      | _ => exact hq _ _ h'
  | cond c a b iha ihb =>
    simp only [aw] at h ⊢
    unfold condK at h ⊢
    split at h
    · exact ⟨fun hb => iha (h.1 hb) hq, fun hb => ihb (h.2 hb) hq⟩
    · exact h
  | block id c ih =>
    exact ih h fun e s' h' => by
      cases e with
      | exit i => simp only [blockA] at h' ⊢; split <;> (rename_i hi; simp only [hi, if_true, if_false] at h'; exact hq _ _ h')
      | _ => exact hq _ _ h'
  | loop c ih =>
    exact fun X hX => h X fun s' h' => hX s' (ih h' fun e s'' h'' => by
      cases e with
      | normal => exact h''
      | _ => exact hq _ _ h'')
  | exit id => exact hq _ _ h
  | ret => exact hq _ _ h
  | bad => exact h
  | kp ks c ih => exact ih h hq
  | ke ks c ih =>
    exact ih h fun e s' h' => by
      cases e with
      | normal => exact hq _ _ h'
      | _ => exact hq _ _ h'

theorem LoopK.round {P : Program} {c : ACode} {Q : AExit → AS → Prop} {s : AS} (h : aw P c (thenA (LoopK (fun Q s => aw P c Q s) Q) Q) s) : LoopK (fun Q s => aw P c Q s) Q s :=
  fun X hX => hX s (aw_mono h fun e s' h' => by
    cases e with
    | normal => exact h' X hX
    | _ => exact h')
theorem LoopK.inv {P : Program} {c : ACode} {Q : AExit → AS → Prop} {s : AS} (I : Nat → AS → Prop) (m : Nat) (h0 : I m s)
    (round : ∀ m s, I m s → aw P c (thenA (fun s' => ∃ m', m' < m ∧ I m' s') Q) s) : LoopK (fun Q s => aw P c Q s) Q s := by
  induction m using Nat.strongRecOn generalizing s with
  | _ m ih =>
    exact LoopK.round (aw_mono (round m s h0) fun e s' h' => by
      cases e with
      | normal => obtain ⟨m', hm, hi⟩ := h'; exact ih m' hm hi
      | _ => exact h')
theorem LoopK.go {P : Program} {c : ACode} {Q : AExit → AS → Prop} {s : AS} (I : Nat → AS → Prop) (m : Nat) (h0 : I m s)
    (round : ∀ m s, I m s → ∀ J : AS → Prop, (∀ m' s', m' < m → I m' s' → J s') → aw P c (thenA J Q) s) : LoopK (fun Q s => aw P c Q s) Q s :=
  LoopK.inv I m h0 fun m s hi => round m s hi _ fun m' s' h1 h2 => ⟨m', h1, h2⟩
end Go.Proofs.YtnmkpadgogbgkaaDoor
