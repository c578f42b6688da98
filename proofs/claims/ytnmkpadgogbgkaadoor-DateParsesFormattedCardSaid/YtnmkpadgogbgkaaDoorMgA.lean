/- A small machine over plain data: values with their contents, and what a piece of code does to them; no condition. -/
import Derived.Calls
import Derived.Test.YtnmkpadgogbgkaaDoorMgM
import Derived.Lib.Space
import Derived.Lib.ItoaNum
import Derived.Lib.LaidTab
import Derived.MapKept
import Derived.Laws.IdiomRangeMap
set_option linter.all false
set_option linter.unusedSimpArgs false
set_option linter.unusedVariables false
namespace Go.Proofs.YtnmkpadgogbgkaaDoor
/-- whose memory a slice has: none (nil), memory that only is read, or a block of the call's own, to which may be appended -/
inductive Tok where | nil | ro | own (g : Nat)
inductive AV where
  | bool (b : Bool) | int (k : IntKind) (n : Int) | str (s : List UInt8)
  | ptr (g o : Nat) | np | ref (x : AV)
  | sl (sz : Nat) (l : List AV) (t : Tok) | agg (cs : List AV)
  | fn (f : Nat) (fst cap : List AV) | nfn | tup (vs : List AV)
  | mp (g : Nat) | nmp | slm (sz g o n : Nat) | ifc (t : Nat) (v : AV) | nif | dat (e : TypeId) (l : List AV) | any | und
mutual
/-- the second says no more than the first: whose memory a slice has may be left out, and of no cells how large they are -/
def simA : AV → AV → Prop
  | .sl z l t, y => ∃ z' l' t', y = .sl z' l' t' ∧ (t' = .ro ∨ t' = t) ∧ (z' = z ∨ (l = [] ∧ t' = .ro)) ∧ simL l l'
  | .agg l, y => ∃ l', y = .agg l' ∧ simL l l'
  | .tup l, y => ∃ l', y = .tup l' ∧ simL l l'
  | .ref x, y => ∃ x', y = .ref x' ∧ simA x x'
  | .ifc t v, y => ∃ v', y = .ifc t v' ∧ simA v v'
  | .bool b, y => y = .bool b
  | .int k n, y => y = .int k n
  | .str s, y => y = .str s
  | .ptr g o, y => y = .ptr g o
  | .np, y => y = .np
  | .fn f a b, y => y = .fn f a b
  | .nfn, y => y = .nfn
  | .mp g, y => y = .mp g
  | .nmp, y => y = .nmp
  | .slm a b c d, y => y = .slm a b c d
  | .nif, y => y = .nif
  | .dat e l, y => y = .dat e l
  | .any, y => y = .any
  | .und, y => y = .und
def simL : List AV → List AV → Prop
  | [], y => y = []
  | x :: xs, y => ∃ x' xs', y = x' :: xs' ∧ simA x x' ∧ simL xs xs'
end
mutual
theorem simA_refl : ∀ x : AV, simA x x
  | .sl z l t => ⟨z, l, t, rfl, .inr rfl, .inl rfl, simL_refl l⟩
  | .agg l => ⟨l, rfl, simL_refl l⟩
  | .tup l => ⟨l, rfl, simL_refl l⟩
  | .ref x => ⟨x, rfl, simA_refl x⟩
  | .ifc _ v => ⟨v, rfl, simA_refl v⟩
  | .bool _ | .int _ _ | .str _ | .ptr _ _ | .np | .fn _ _ _ | .nfn | .mp _ | .nmp | .slm _ _ _ _ | .nif | .dat _ _ | .any | .und => rfl
theorem simL_refl : ∀ l : List AV, simL l l
  | [] => rfl
  | x :: xs => ⟨x, xs, rfl, simA_refl x, simL_refl xs⟩
end
inductive AObj where
  | cells (e : TypeId) (cs : List AV)
  | row (e : TypeId) (m : Nat)
  | map (kk : Option IntKind) (es : List (AV × AV))
  | iter (m len : Nat) (left : List Nat) (cur : Option Nat)
abbrev AHeap := Nat → Option AObj
def upd (H : AHeap) (g : Nat) (x : Option AObj) : AHeap := fun k => if k = g then x else H k
abbrev AEnv := List (Nat × AV)
def get : AEnv → Nat → AV
  | [], _ => .any
  | (k, v) :: r, t => if k = t then v else get r t
def put : AEnv → Nat → AV → AEnv
  | [], t, v => [(t, v)]
  | (k, u) :: r, t, v => if k = t then (t, v) :: r else (k, u) :: put r t v
def putO (e : AEnv) (d : Option Nat) (v : AV) : AEnv := match d with | some t => put e t v | none => e
structure AS where
  e : AEnv
  n : Nat
  H : AHeap
inductive Opd where | t (i : Nat) | c (v : AV)
def ev (e : AEnv) : Opd → AV
  | .t i => get e i
  | .c v => v
/-- one cell, or an aggregate of some cells -/
abbrev Shp := Option Nat
def AV.cells : AV → List AV
  | .agg cs => cs
  | v => [v]
/-- the part at a place -/
def part (cs : List AV) (o : Nat) : Shp → Option AV
  | none => cs[o]?
  | some s => if o + s ≤ cs.length then some (.agg ((cs.drop o).take s)) else none
/-- the value is of that shape -/
def AV.fits : AV → Shp → Bool
  | .agg cs, some s => cs.length == s
  | .agg _, none => false
  | .tup _, _ => false
  | .any, _ => false
  | .und, _ => false
  | .dat _ _, _ => false
  | _, none => true
  | _, some _ => false
/-- a plain field -/
inductive FK where | i | b | s
inductive AOp where
  | mv (x : Opd)
  | pick (c a b : Opd)
  | bin (op : BinOp) (x y : Opd)
  | eqs (ks : List FK) (neg : Bool) (x y : Opd)
  | eqb (neg : Bool) (x y : Opd)
  | eqn (neg : Bool) (x : Opd)
  | eqp (neg : Bool) (x : Opd)
  | eqi (neg : Bool) (x : Opd)
  | neg (x : Opd) | not (x : Opd)
  | cvi (k : IntKind) (x : Opd)
  | mkfn (f : Nat) (fst cap : List Opd)
  | cut (sz : Nat) (x : Opd) (lo hi : Option Opd)
  | cutS (x : Opd) (lo hi : Option Opd)
  | faddr (x : Opd) (off : Nat) (s : Shp)
  | field (x : Opd) (off : Nat) (s : Shp)
  | iaddr (sz : Nat) (s : Shp) (x i : Opd)
  | aaddr (len sz : Nat) (s : Shp) (x i : Opd)
  | sidx (x i : Opd)
  | aidx (len sz : Nat) (s : Shp) (x i : Opd)
  | len (x : Opd)
  | lenS (x : Opd)
  | clen (n : Nat)
  | extr (x : Opd) (i : Nat)
  | nilck (x : Opd)
  | load (s : Shp) (x : Opd)
  | build (z : List AV) (ps : List (Nat × Shp × Opd))
  | mm (mx : Bool) (x y : Opd)
  | b2s (x : Opd)
  | r2s (x : Opd)
  | upc (x : Opd)
  | eqpp (neg : Bool) (x y : Opd)
  | updn (u : TypeId) (x : Opd)
  -- what is not covered
  | nope
  | usd (e : TypeId) (x : Opd)
  | ust (e : TypeId) (x n : Opd)
  -- what makes or turns memory
  | alloc (e : TypeId) (z : List AV)
  | box (e : TypeId) (s : Shp) (x : Opd)
  | store (s : Shp) (x v : Opd)
  | bsl (e : TypeId) (s : Shp) (xs : List Opd)
  | app (e : TypeId) (sz by_ : Nat) (x y : Opd)
  | appB (e : TypeId) (by_ : Nat) (x y : Opd)
  | s2b (e : TypeId) (x : Opd)
  | s2s (x : Opd)
  | mkmap (kk : Option IntKind)
  | mset (kk : Option IntKind) (m k v : Opd)
  | rng (x : Opd)
  | mksl (e : TypeId) (by_ : Nat) (z : AV) (x y : Opd)
  | nxt (x : Opd)
  | ent (x : Opd)
  | mget (kk : Option IntKind) (z : AV) (ok : Bool) (m k : Opd)
  | call (f : Nat) (xs : List Opd)
  | callp (f : Nat) (xs : List Opd)
  | callv (f : Opd) (xs : List Opd)
structure AOper where
  dst : Option Nat
  op : AOp
  guard : Option (Nat × Bool)
/-- operations of a region, none of which has a guard of its own; they may have one in common -/
structure Seg where
  g : Option (Nat × Bool)
  ops : List AOper
  pk : Option (Nat × Nat)
inductive ACode where
  | skip
  | segs (l : List Seg)
  | reg (ops : List AOper)
  | regD (S : List Nat) (ops : List AOper)
  | seq (a b : ACode)
  | cond (c : Opd) (a b : ACode)
  | block (id : Nat) (c : ACode)
  | loop (c : ACode)
  | exit (id : Nat)
  | ret
  | bad
  | kp (ks : List Nat) (c : ACode)
  | ke (ks : List Nat) (c : ACode)
inductive AExit where | normal | exit (id : Nat) | ret
/-! ### values -/
def intBin (op : BinOp) (k : IntKind) (a b : Int) : Option AV :=
  match op with
  | .add => some (.int k (k.wrap (a + b)))
  | .sub => some (.int k (k.wrap (a - b)))
  | .mul => some (.int k (k.wrap (a * b)))
  | .quo => if b = 0 then none else some (.int k (k.wrap (a.tdiv b)))
  | .rem => if b = 0 then none else some (.int k (a.tmod b))
  | .eql => some (.bool (a == b))
  | .neq => some (.bool (a != b))
  | .lss => some (.bool (a < b))
  | .leq => some (.bool (a ≤ b))
  | .gtr => some (.bool (a > b))
  | .geq => some (.bool (a ≥ b))
  | _ => none
def strBin (op : BinOp) (a b : List UInt8) : Option AV :=
  match op with
  | .add => if ((a.length + b.length : Nat) : Int) > IntKind.i64.max then none else some (.str (a ++ b))
  | .eql => some (.bool (a == b))
  | .neq => some (.bool (!(a == b)))
  | .lss => some (.bool (Op.bytesLess a b))
  | .leq => some (.bool (Op.bytesLess a b || (a == b)))
  | .gtr => some (.bool (!(Op.bytesLess a b || (a == b))))
  | .geq => some (.bool (!Op.bytesLess a b))
  | _ => none
def binAV (op : BinOp) : AV → AV → Option AV
  | .int k a, .int k' b => if k = k' then intBin op k a b else none
  | .str a, .str b => strBin op a b
  | _, _ => none
def isNil : AV → Option Bool
  | .sl _ _ .nil => some true
  | .sl _ (_ :: _) _ | .sl _ [] (.own _) => some false
  | _ => none
def isNilP : AV → Option Bool
  | .np => some true
  | .ptr _ _ => some false
  | _ => none
def isNilI : AV → Option Bool
  | .nif => some true
  | .ifc _ _ => some false
  | _ => none
/-- two rows of plain cells -/
def xz4e : List FK → List AV → List AV → Option Bool
  | [], [], [] => some true
  | .i :: ks, .int k a :: r, .int k' b :: r' => if k = k' then (xz4e ks r r').map ((a == b) && ·) else none
  | .s :: ks, .str a :: r, .str b :: r' => (xz4e ks r r').map ((a == b) && ·)
  | .b :: ks, .bool a :: r, .bool b :: r' => (xz4e ks r r').map ((a == b) && ·)
  | _, _, _ => none
def cutB (lo hi : Option AV) (len : Nat) : Option (Nat × Nat) :=
  match (match hi with | none => some (len : Int) | some (.int _ h) => some h | _ => none), (match lo with | none => some 0 | some (.int _ l) => some l | _ => none) with
  | some h, some l => if 0 ≤ l ∧ l ≤ h ∧ h ≤ len then some (l.toNat, h.toNat) else none
  | _, _ => none
def cutSV (x : AV) (lo hi : Option AV) : Option AV :=
  match x with
  | .str s => (cutB lo hi s.length).map fun (l, h) => .str ((s.take h).drop l)
  | _ => none
def cutAV (sz : Nat) (x : AV) (lo hi : Option AV) : Option AV :=
  match x with
  | .sl z xs _ => if z = sz ∨ xs = [] then (cutB lo hi xs.length).map fun (l, h) => .sl sz ((xs.take h).drop l) .ro else none
  | _ => none
def xz3s (x : AV) (off : Nat) (s : Shp) : Option AV :=
  match x with
  | .ptr g o => some (.ptr g (o + off))
  | .ref (.agg cs) => (part cs off s).map .ref
  | _ => none
def iaddrAV (sz : Nat) (s : Shp) (x i : AV) : Option AV :=
  match x, i with
  | .sl z l _, .int _ j => if z = sz ∧ 0 ≤ j then (match l[j.toNat]? with | some y => if y.fits s then some (.ref y) else none | none => none) else none
  | .slm z g o n, .int _ j => if z = sz ∧ 0 ≤ j ∧ j < n then some (.ptr g (o + j.toNat * sz)) else none
  | _, _ => none
def xz3u (len sz : Nat) (s : Shp) (x i : AV) : Option AV :=
  match x, i with
  | .ptr g o, .int _ j => if 0 ≤ j ∧ j < len then some (.ptr g (o + j.toNat * sz)) else none
  | .ref (.agg cs), .int _ j => if 0 ≤ j ∧ j < len then (part cs (j.toNat * sz) s).map .ref else none
  | _, _ => none
def loadAV (H : AHeap) (s : Shp) : AV → Option AV
  | .ptr g o => match H g with
    | some (.cells _ cs) => part cs o s
    | _ => none
  | .ref x => if x.fits s then some x else none
  | _ => none
def xz4d : List AV → List (Nat × AV) → List AV
  | cs, [] => cs
  | cs, (o, v) :: ps => xz4d (cs.take o ++ v.cells ++ cs.drop (o + v.cells.length)) ps
def xz4c : Nat → List (Nat × Shp × AV) → Bool
  | _, [] => true
  | n, (o, s, v) :: ps => v.fits s && decide (o + v.cells.length ≤ n) && xz4c n ps
def bytesOf : List AV → Option (List UInt8)
  | [] => some []
  | .int .u8 n :: r => (bytesOf r).map (UInt8.ofNat n.toNat :: ·)
  | _ => none
/-- a pointer into memory of the call's own -/
def upcAV (H : AHeap) : AV → Option AV
  | .ptr g o => match H g with
    | some (.cells _ cs) => if o < cs.length then some (.ptr g o) else none
    | _ => none
  | _ => none
/-- where a slice's bytes lie -/
def usdAV (H : AHeap) (e : TypeId) : AV → Option AV
  | .sl _ [] .nil => some (.dat e [])
  | .sl z (x :: l) (.own g) => match H g with
    | some (.row e' _) => if e' = e ∧ z = 1 then some (.dat e (x :: l)) else none
    | _ => none
  | _ => none
/-- no length is greater -/
def bigLen : Nat := 9223372036854775807
/-- the string of the bytes that lie there -/
def u8ok : AV → Bool
  | .int .u8 n => decide (0 ≤ n) && decide (n ≤ 255)
  | _ => false
def ustAV (e : TypeId) : AV → AV → Option AV
  | .dat e' l, .int .i64 n => if e' = e ∧ n = (l.length : Int) ∧ l.length ≤ bigLen ∧ l.all u8ok = true then (bytesOf l).map .str else none
  | _, _ => none
/-- two keys of maps, where they are of such a kind -/
def keyEq : AV → AV → Bool
  | .int k a, .int k' b => decide (k = k') && decide (a = b)
  | .str a, .str b => decide (a = b)
  | _, _ => false
/-- keys are integers of this kind, or strings -/
def keyOkK : Option IntKind → AV → Bool
  | some k, .int k' _ => decide (k = k')
  | none, .str _ => true
  | _, _ => false
def mfind (k : AV) : List (AV × AV) → Option AV
  | [] => none
  | e :: es => if keyEq k e.1 then some e.2 else mfind k es
def msetL (k v : AV) : List (AV × AV) → List (AV × AV)
  | [] => [(k, v)]
  | e :: es => if keyEq k e.1 then (k, v) :: es else e :: msetL k v es
/-- what a map holds for a key -/
def mgetV (H : AHeap) (kk : Option IntKind) (z : AV) (ok : Bool) : AV → AV → Option AV
  | .mp g, k => match H g with
    | some (.map kk' es) => if kk' = kk ∧ keyOkK kk k = true then some (if ok then .tup [(mfind k es).getD z, .bool (mfind k es).isSome] else (mfind k es).getD z) else none
    | _ => none
  | .nmp, k => if keyOkK kk k = true then some (if ok then .tup [z, .bool false] else z) else none
  | _, _ => none
/-- the entry at which a round over a map stands -/
def entV (H : AHeap) : AV → Option AV
  | .ptr g o => if o = 0 then match H g with
    | some (.iter m len _ (some j)) => match H m with
      | some (.map _ es) => if es.length = len then (es[j]?).map fun x => .tup [x.1, x.2] else none
      | _ => none
    | _ => none else none
  | _ => none
/-- what only computes -/
def pe (op : AOp) (e : AEnv) (H : AHeap) : Option AV :=
  match op with
  | .mv x => some (ev e x)
  | .pick c a b => match ev e c with | .bool t => some (if t then ev e a else ev e b) | _ => none
  | .bin op x y => binAV op (ev e x) (ev e y)
  | .eqs ks ng x y => match ev e x, ev e y with | .agg a, .agg b => (xz4e ks a b).map fun t => .bool (if ng then !t else t) | _, _ => none
  | .eqb ng x y => match ev e x, ev e y with | .bool a, .bool b => some (.bool (if ng then !(a == b) else a == b)) | _, _ => none
  | .eqn ng x => (isNil (ev e x)).map fun t => .bool (if ng then !t else t)
  | .eqp ng x => (isNilP (ev e x)).map fun t => .bool (if ng then !t else t)
  | .eqi ng x => (isNilI (ev e x)).map fun t => .bool (if ng then !t else t)
  | .neg x => match ev e x with | .int k n => some (.int k (k.wrap (0 - n))) | _ => none
  | .not x => match ev e x with | .bool b => some (.bool (!b)) | _ => none
  | .cvi k x => match ev e x with | .int _ n => some (.int k (k.wrap n)) | _ => none
  | .mkfn f a b => some (.fn f (a.map (ev e)) (b.map (ev e)))
  | .cutS x lo hi => cutSV (ev e x) (lo.map (ev e)) (hi.map (ev e))
  | .cut sz x lo hi => cutAV sz (ev e x) (lo.map (ev e)) (hi.map (ev e))
  | .faddr x off s => xz3s (ev e x) off s
  | .field x off s => match ev e x with | .agg cs => part cs off s | _ => none
  | .iaddr sz s x i => iaddrAV sz s (ev e x) (ev e i)
  | .aaddr len sz s x i => xz3u len sz s (ev e x) (ev e i)
  | .sidx x i => match ev e x, ev e i with | .str s, .int _ j => if 0 ≤ j then (s[j.toNat]?).map fun b => .int .u8 b.toNat else none | _, _ => none
  | .aidx len sz s x i => match ev e x, ev e i with | .agg cs, .int _ j => if 0 ≤ j ∧ j < len then part cs (j.toNat * sz) s else none | _, _ => none
  | .len x => match ev e x with | .sl _ l _ => some (.int .i64 l.length) | .slm _ _ _ n => some (.int .i64 n) | _ => none
  | .lenS x => match ev e x with | .str s => some (.int .i64 s.length) | _ => none
  | .clen n => some (.int .i64 n)
  | .extr x i => match ev e x with | .tup vs => vs[i]? | _ => none
  | .nilck x => match ev e x with | .ptr g o => some (.ptr g o) | .ref x => some (.ref x) | .fn f a b => if a.isEmpty then some (.fn f a b) else none | _ => none
  | .load s x => loadAV H s (ev e x)
  | .build z ps => if xz4c z.length (ps.map fun (o, s, x) => (o, s, ev e x)) then some (.agg (xz4d z (ps.map fun (o, _, x) => (o, ev e x)))) else none
  | .mm mx x y => match ev e x, ev e y with | .int k a, .int k' b => if k = k' then some (.int k (if mx then max a b else min a b)) else none | _, _ => none
  | .b2s x => match ev e x with | .sl _ l _ => (bytesOf l).map .str | _ => none
  | .r2s x => match ev e x with | .int _ n => some (.str (Utf8.encode n).data.toList) | _ => none
  | .upc x => upcAV H (ev e x)
  | .usd el x => usdAV H el (ev e x)
  | .eqpp ng x y => match ev e x, ev e y with | .ptr g o, .ptr g' o' => if g = g' then some (.bool (if ng then !(decide (o = o')) else decide (o = o'))) else none | _, _ => none
  | .mget kk z ok m k => mgetV H kk z ok (ev e m) (ev e k)
  | .ent x => entV H (ev e x)
  | _ => none
/-- behind a value that may be missing -/
def K1 (o : Option AV) (k : AV → Prop) : Prop := match o with | some v => k v | none => False
end Go.Proofs.YtnmkpadgogbgkaaDoor
namespace Go.Proofs.YtnmkpadgogbgkaaDoor
/-- the two tables that the library reads here -/
def Laid (w : World) : Prop :=
  (∃ t fz, w.heap[0]? = some (.cells (Lib.asciiSpaceTab.map fun z => Value.int .u8 z).toArray t fz)) ∧
  (∃ t fz, w.heap[3]? = some (.cells (Lib.pow10Tab.map fun z => Value.int .u64 z).toArray t fz))
theorem Laid.ext {w w' : World} (h : Laid w) (e : Ext w w') : Laid w' := by
  obtain ⟨⟨t, fz, h1⟩, t', fz', h2⟩ := h
  exact ⟨⟨t, fz, by rw [e.block 0 (Array.getElem?_eq_some_iff.1 h1).1]; exact h1⟩, t', fz', by rw [e.block 3 (Array.getElem?_eq_some_iff.1 h2).1]; exact h2⟩
theorem tab_of {P : Program} {w : World} {name : String} {g : Nat} {k : IntKind} {zs : List Int} (hg : P.globalNamed name = some g) (h : ∃ t fz, w.heap[g]? = some (.cells (zs.map fun z => Value.int k z).toArray t fz)) : Lib.TabIs P w name k zs := by
  obtain ⟨t, fz, h1⟩ := h
  simp [Lib.TabIs, World.var?, hg, h1]
end Go.Proofs.YtnmkpadgogbgkaaDoor
namespace Go.Proofs.YtnmkpadgogbgkaaDoor
open Go.RowKit
/-- cells that nothing turns any more; the capacities of the blocks of the call's own -/
structure Gh where
  I : Nat → Nat → Option Value
  cap : Nat → Option (TypeId × Nat)
structure Gh.Le (a b : Gh) : Prop where
  I : ∀ b' o v, a.I b' o = some v → b.I b' o = some v
  cap : ∀ g c, a.cap g = some c → b.cap g = some c
theorem Gh.Le.rfl_ (a : Gh) : a.Le a := ⟨fun _ _ _ h => h, fun _ _ h => h⟩
theorem Gh.Le.tr {a b c : Gh} (h : a.Le b) (k : b.Le c) : a.Le c := ⟨fun x y z h1 => k.I x y z (h.I x y z h1), fun x y h1 => k.cap x y (h.cap x y h1)⟩
def AV.one : AV → Bool
  | .agg _ | .tup _ | .dat _ _ | .any | .und => false
  | _ => true
def flatA (l : List AV) : List AV := l.flatMap AV.cells
def Sealed (G : Gh) (g off : Nat) (vs : List Value) : Prop := ∀ j u, vs[j]? = some u → G.I g (off + j) = some u
structure SlOk (sz : Nat) (l : List AV) (c : Nat) : Prop where
  cap : l.length ≤ c
  max : c ≤ maxLen
  pos : 0 < sz
  uni : ∀ x ∈ l, x.cells.length = sz
  one : ∀ x ∈ flatA l, x.one = true
mutual
inductive Rep (G : Gh) : Value → AV → Prop
  | any {v} : Rep G v .any
  | und : Rep G undef .und
  | bool {b} : Rep G (.bool b) (.bool b)
  | int {k n} : Rep G (.int k n) (.int k n)
  | str {s l} (h : s.data.toList = l) : Rep G (.string s) (.str l)
  | np : Rep G (.pointer none) .np
  | ptr {g o} : Rep G (.pointer (some ⟨g, o, none⟩)) (.ptr g o)
  | ref {g o vs x} (h : RepL G vs x.cells) (hs : Sealed G g o vs) (h1 : ∀ y ∈ x.cells, y.one = true) : Rep G (.pointer (some ⟨g, o, none⟩)) (.ref x)
  | slnil {sz} : Rep G (.slice none 0 0) (.sl sz [] .nil)
  | sl0 {A c sz} (h : c ≤ maxLen) : Rep G (.slice A 0 c) (.sl sz [] .ro)
  | slro {g off vs sz l c n} (h : RepL G vs (flatA l)) (hs : Sealed G g off vs) (ho : SlOk sz l c) (hn : n = l.length) : Rep G (.slice (some ⟨g, off, none⟩) n c) (.sl sz l .ro)
  | slown {g vs sz l c n e} (h : RepL G vs (flatA l)) (hs : Sealed G g 0 vs) (ho : SlOk sz l c) (hn : n = l.length) (hc : G.cap g = some (e, c)) : Rep G (.slice (some ⟨g, 0, none⟩) n c) (.sl sz l (.own g))
  | agg {vs cs} (h : RepL G vs cs) (h1 : ∀ x ∈ cs, x.one = true) : Rep G (.agg vs.toArray) (.agg cs)
  | fn {f a b as bs} (h : RepL G a as) (h' : RepL G b bs) : Rep G (.func (.func f) a.toArray b.toArray) (.fn f as bs)
  | nfn : Rep G .nilFunc .nfn
  | tup {vs l} (h : RepL G vs l) : Rep G (.tuple vs.toArray) (.tup l)
  | mp {g} : Rep G (.map (some g)) (.mp g)
  | nmp : Rep G (.map none) .nmp
  | slm {sz g o n c} (h : n ≤ c) (hm : c ≤ maxLen) : Rep G (.slice (some ⟨g, o, none⟩) n c) (.slm sz g o n)
  | ifc {t v x} (h : Rep G v x) : Rep G (.iface t v) (.ifc t x)
  | nif : Rep G .nilIface .nif
  | dat0 {A e} : Rep G (.pointer A) (.dat e [])
  | dat {g vs l e c} (h : RepL G vs (flatA l)) (hs : Sealed G g 0 vs) (hc : G.cap g = some (e, c)) : Rep G (.pointer (some ⟨g, 0, none⟩)) (.dat e l)
inductive RepL (G : Gh) : List Value → List AV → Prop
  | nil : RepL G [] []
  | cons {v x vs xs} (h : Rep G v x) (h' : RepL G vs xs) : RepL G (v :: vs) (x :: xs)
end
theorem Sealed.mono {G G' : Gh} (hl : G.Le G') {g off : Nat} {vs : List Value} (h : Sealed G g off vs) : Sealed G' g off vs := fun j u hu => hl.I _ _ _ (h j u hu)
mutual
theorem Rep.mono {G G' : Gh} (hl : G.Le G') : ∀ {v x}, Rep G v x → Rep G' v x
  | _, _, .any => .any
  | _, _, .und => .und
  | _, _, .bool => .bool
  | _, _, .int => .int
  | _, _, .str h => .str h
  | _, _, .np => .np
  | _, _, .ptr => .ptr
  | _, _, .ref h hs h1 => .ref (RepL.mono hl h) (hs.mono hl) h1
  | _, _, .slnil => .slnil
  | _, _, .sl0 h => .sl0 h
  | _, _, .slro h hs ho hn => .slro (RepL.mono hl h) (hs.mono hl) ho hn
  | _, _, .slown h hs ho hn hc => .slown (RepL.mono hl h) (hs.mono hl) ho hn (hl.cap _ _ hc)
  | _, _, .agg h h1 => .agg (RepL.mono hl h) h1
  | _, _, .fn h h' => .fn (RepL.mono hl h) (RepL.mono hl h')
  | _, _, .nfn => .nfn
  | _, _, .tup h => .tup (RepL.mono hl h)
  | _, _, .mp => .mp
  | _, _, .nmp => .nmp
  | _, _, .slm h hm => .slm h hm
  | _, _, .ifc h => .ifc (Rep.mono hl h)
  | _, _, .nif => .nif
  | _, _, .dat0 => .dat0
  | _, _, .dat h hs hc => .dat (RepL.mono hl h) (hs.mono hl) (hl.cap _ _ hc)
theorem RepL.mono {G G' : Gh} (hl : G.Le G') : ∀ {vs xs}, RepL G vs xs → RepL G' vs xs
  | _, _, .nil => .nil
  | _, _, .cons h h' => .cons (Rep.mono hl h) (RepL.mono hl h')
end
section
variable {G : Gh}
theorem RepL.len {vs : List Value} {xs : List AV} (h : RepL G vs xs) : vs.length = xs.length := by
  induction xs generalizing vs with
  | nil => cases h; rfl
  | cons x xs ih => cases h with | cons h h' => simp [ih h']
theorem RepL.at {vs : List Value} {xs : List AV} (h : RepL G vs xs) {i : Nat} {x : AV} (hx : xs[i]? = some x) : ∃ v, vs[i]? = some v ∧ Rep G v x := by
  induction xs generalizing vs i with
  | nil => simp at hx
  | cons y ys ih =>
    cases h with
    | cons h h' =>
      cases i with
      | zero => simp at hx; subst hx; exact ⟨_, rfl, h⟩
      | succ i => simp at hx; simpa using ih h' hx
theorem RepL.of {vs : List Value} {xs : List AV} (hl : vs.length = xs.length) (h : ∀ (i : Nat) (v : Value) (x : AV), vs[i]? = some v → xs[i]? = some x → Rep G v x) : RepL G vs xs := by
  induction xs generalizing vs with
  | nil => cases vs with | nil => exact .nil | cons _ _ => simp at hl
  | cons x xs ih =>
    cases vs with
    | nil => simp at hl
    | cons v vs => exact .cons (h 0 v x rfl rfl) (ih (by simpa using hl) fun i v' x' h1 h2 => h (i + 1) v' x' (by simpa using h1) (by simpa using h2))
theorem RepL.append {a b : List Value} {x y : List AV} (h : RepL G a x) (k : RepL G b y) : RepL G (a ++ b) (x ++ y) := by
  induction x generalizing a with
  | nil => cases h; exact k
  | cons _ _ ih => cases h with | cons h h' => exact .cons h (ih h')
theorem RepL.take {a : List Value} {x : List AV} (h : RepL G a x) (n : Nat) : RepL G (a.take n) (x.take n) := by
  induction x generalizing a n with
  | nil => cases h; simp; exact .nil
  | cons _ _ ih => cases h with | cons h h' => cases n with | zero => simp; exact .nil | succ n => simpa using .cons h (ih h' n)
theorem RepL.drop {a : List Value} {x : List AV} (h : RepL G a x) (n : Nat) : RepL G (a.drop n) (x.drop n) := by
  induction x generalizing a n with
  | nil => cases h; simp; exact .nil
  | cons _ _ ih => cases h with | cons h h' => cases n with | zero => simpa using .cons h h' | succ n => simpa using ih h' n
theorem RepL.map {f : Opd → Value} {g : Opd → AV} (l : List Opd) (h : ∀ o ∈ l, Rep G (f o) (g o)) : RepL G (l.map f) (l.map g) := by
  induction l with
  | nil => exact .nil
  | cons a l ih => exact .cons (h a List.mem_cons_self) (ih fun o ho => h o (List.mem_cons_of_mem _ ho))
/-- the cells of a value -/
theorem Rep.cells {v : Value} {x : AV} (h : Rep G v x) (h1 : ∀ y ∈ x.cells, y.one = true) : RepL G v.cells.toList x.cells := by
  cases h with
  | agg h _ => simpa [Value.cells, AV.cells] using h
  | any => exact absurd (h1 .any (by simp [AV.cells])) (by simp [AV.one])
  | und => exact absurd (h1 .und (by simp [AV.cells])) (by simp [AV.one])
  | tup => rename_i l _; exact absurd (h1 (.tup l) (by simp [AV.cells])) (by simp [AV.one])
  | dat0 => rename_i e; exact absurd (h1 (.dat e []) (by simp [AV.cells])) (by simp [AV.one])
  | dat => rename_i l e _ _ _ _; exact absurd (h1 (.dat e l) (by simp [AV.cells])) (by simp [AV.one])
  | _ => simp only [Value.cells, AV.cells]; exact .cons (by constructor <;> assumption) .nil
theorem Rep.one {v : Value} {x : AV} (h : Rep G v x) (h1 : x.one = true) : v.oneCell' = true := by
  cases h <;> first | rfl | (simp [AV.one] at h1)
theorem RepL.ones {vs : List Value} {xs : List AV} (h : RepL G vs xs) (h1 : ∀ x ∈ xs, x.one = true) : ∀ u ∈ vs, u.oneCell' = true := by
  induction xs generalizing vs with
  | nil => cases h; simp
  | cons x xs ih =>
    cases h with
    | cons h h' =>
      intro u hu
      rcases List.mem_cons.1 hu with rfl | hu
      · exact h.one (h1 _ List.mem_cons_self)
      · exact ih h' (fun y hy => h1 y (List.mem_cons_of_mem _ hy)) u hu
/-- whoever may append may read -/
theorem Rep.toRo {v : Value} {sz : Nat} {l : List AV} {t : Tok} (h : Rep G v (.sl sz l t)) : Rep G v (.sl sz l .ro) := by
  cases h with
  | slnil => exact .sl0 (by simp [maxLen])
  | sl0 h => exact .sl0 h
  | slro h hs ho hn => exact .slro h hs ho hn
  | slown h hs ho hn hc => exact .slro h hs ho hn
theorem simL_len : ∀ {l m : List AV}, simL l m → l.length = m.length
  | [], m, h => by simp only [simL] at h; subst h; rfl
  | x :: xs, m, h => by
    simp only [simL] at h
    obtain ⟨x', xs', rfl, _, h⟩ := h
    simp [simL_len h]
theorem simL_append : ∀ {a b a' b' : List AV}, simL a a' → simL b b' → simL (a ++ b) (a' ++ b')
  | [], b, a', b', h, k => by simp only [simL] at h; subst h; exact k
  | x :: xs, b, a', b', h, k => by
    simp only [simL] at h
    obtain ⟨x', xs', rfl, h1, h⟩ := h
    exact ⟨x', xs' ++ b', rfl, h1, simL_append h k⟩
theorem sim_cells {x y : AV} (h : simA x y) : simL x.cells y.cells := by
  cases x <;> simp only [simA] at h
  case agg l => obtain ⟨l', rfl, h⟩ := h; exact h
  case sl z l t => obtain ⟨z', l', t', rfl, h⟩ := h; exact ⟨_, [], rfl, ⟨z', l', t', rfl, h⟩, rfl⟩
  case tup l => obtain ⟨l', rfl, h⟩ := h; exact ⟨_, [], rfl, ⟨l', rfl, h⟩, rfl⟩
  case ref l => obtain ⟨l', rfl, h⟩ := h; exact ⟨_, [], rfl, ⟨l', rfl, h⟩, rfl⟩
  case ifc l => obtain ⟨l', rfl, h⟩ := h; exact ⟨_, [], rfl, ⟨l', rfl, h⟩, rfl⟩
  all_goals (subst h; exact simL_refl _)
theorem sim_one {x y : AV} (h : simA x y) : y.one = x.one := by
  cases x <;> simp only [simA] at h
  case agg l => obtain ⟨l', rfl, h⟩ := h; rfl
  case sl z l t => obtain ⟨z', l', t', rfl, h⟩ := h; rfl
  case tup l => obtain ⟨l', rfl, h⟩ := h; rfl
  case ref l => obtain ⟨l', rfl, h⟩ := h; rfl
  case ifc l => obtain ⟨l', rfl, h⟩ := h; rfl
  all_goals (subst h; rfl)
theorem sim_ones : ∀ {l m : List AV}, simL l m → (∀ x ∈ l, x.one = true) → ∀ x ∈ m, x.one = true
  | [], m, h, _ => by simp only [simL] at h; subst h; simp
  | x :: xs, m, h, h1 => by
    simp only [simL] at h
    obtain ⟨x', xs', rfl, hx, h⟩ := h
    intro y hy
    rcases List.mem_cons.1 hy with rfl | hy
    · rw [sim_one hx]; exact h1 _ List.mem_cons_self
    · exact sim_ones h (fun z hz => h1 z (List.mem_cons_of_mem _ hz)) y hy
theorem sim_uni {sz : Nat} : ∀ {l m : List AV}, simL l m → (∀ x ∈ l, x.cells.length = sz) → ∀ x ∈ m, x.cells.length = sz
  | [], m, h, _ => by simp only [simL] at h; subst h; simp
  | x :: xs, m, h, h1 => by
    simp only [simL] at h
    obtain ⟨x', xs', rfl, hx, h⟩ := h
    intro y hy
    rcases List.mem_cons.1 hy with rfl | hy
    · rw [← simL_len (sim_cells hx)]; exact h1 _ List.mem_cons_self
    · exact sim_uni h (fun z hz => h1 z (List.mem_cons_of_mem _ hz)) y hy
theorem sim_flat : ∀ {l m : List AV}, simL l m → simL (flatA l) (flatA m)
  | [], m, h => by simp only [simL] at h; subst h; exact simL_refl _
  | x :: xs, m, h => by
    simp only [simL] at h
    obtain ⟨x', xs', rfl, hx, h⟩ := h
    simp only [flatA, List.flatMap_cons]
    exact simL_append (sim_cells hx) (sim_flat h)
theorem SlOk.sim {sz : Nat} {l m : List AV} {c : Nat} (h : SlOk sz l c) (hs : simL l m) : SlOk sz m c :=
  ⟨by rw [← simL_len hs]; exact h.cap, h.max, h.pos, sim_uni hs h.uni, sim_ones (sim_flat hs) h.one⟩
mutual
theorem Rep.sim : ∀ {v x}, Rep G v x → ∀ {y}, simA x y → Rep G v y
  | _, _, .any, y, h => by simp only [simA] at h; subst h; exact .any
  | _, _, .und, y, h => by simp only [simA] at h; subst h; exact .und
  | _, _, .bool, y, h => by simp only [simA] at h; subst h; exact .bool
  | _, _, .int, y, h => by simp only [simA] at h; subst h; exact .int
  | _, _, .str k, y, h => by simp only [simA] at h; subst h; exact .str k
  | _, _, .np, y, h => by simp only [simA] at h; subst h; exact .np
  | _, _, .ptr, y, h => by simp only [simA] at h; subst h; exact .ptr
  | _, _, .slm k1 k2, y, h => by simp only [simA] at h; subst h; exact .slm k1 k2
  | _, _, .ref k hs h1, y, h => by
    simp only [simA] at h
    obtain ⟨x', rfl, h⟩ := h
    exact .ref (RepL.sim k (sim_cells h)) hs (sim_ones (sim_cells h) h1)
  | _, _, .slnil, y, h => by
    simp only [simA, simL] at h
    obtain ⟨z', l', t', rfl, ht, hz, rfl⟩ := h
    rcases ht with rfl | rfl
    · exact .sl0 (by simp [maxLen])
    · exact .slnil
  | _, _, .sl0 hc, y, h => by
    simp only [simA, simL] at h
    obtain ⟨z', l', t', rfl, ht, hz, rfl⟩ := h
    rcases ht with rfl | rfl <;> exact .sl0 hc
  | _, _, .slro k hs ho hn, y, h => by
    simp only [simA] at h
    obtain ⟨z', l', t', rfl, ht, hz, h⟩ := h
    have ht : t' = .ro := by rcases ht with rfl | rfl <;> rfl
    subst ht
    rcases hz with rfl | ⟨rfl, _⟩
    · exact .slro (RepL.sim k (sim_flat h)) hs (ho.sim h) (by rw [← simL_len h]; exact hn)
    · simp only [simL] at h; subst h; subst hn; exact .sl0 ho.max
  | _, _, .slown k hs ho hn hc, y, h => by
    simp only [simA] at h
    obtain ⟨z', l', t', rfl, ht, hz, h⟩ := h
    rcases hz with rfl | ⟨rfl, rfl⟩
    · rcases ht with rfl | rfl
      · exact .slro (RepL.sim k (sim_flat h)) hs (ho.sim h) (by rw [← simL_len h]; exact hn)
      · exact .slown (RepL.sim k (sim_flat h)) hs (ho.sim h) (by rw [← simL_len h]; exact hn) hc
    · simp only [simL] at h; subst h; subst hn; exact .sl0 ho.max
  | _, _, .agg k h1, y, h => by
    simp only [simA] at h
    obtain ⟨l', rfl, h⟩ := h
    exact .agg (RepL.sim k h) (sim_ones h h1)
  | _, _, .fn k k', y, h => by simp only [simA] at h; subst h; exact .fn k k'
  | _, _, .nfn, y, h => by simp only [simA] at h; subst h; exact .nfn
  | _, _, .tup k, y, h => by
    simp only [simA] at h
    obtain ⟨l', rfl, h⟩ := h
    exact .tup (RepL.sim k h)
  | _, _, .mp, y, h => by simp only [simA] at h; subst h; exact .mp
  | _, _, .nmp, y, h => by simp only [simA] at h; subst h; exact .nmp
  | _, _, .ifc k, y, h => by
    simp only [simA] at h
    obtain ⟨l', rfl, h⟩ := h
    exact .ifc (Rep.sim k h)
  | _, _, .nif, y, h => by simp only [simA] at h; subst h; exact .nif
  | _, _, .dat0, y, h => by simp only [simA] at h; subst h; exact .dat0
  | _, _, .dat k hs hc, y, h => by simp only [simA] at h; subst h; exact .dat k hs hc
theorem RepL.sim : ∀ {vs xs}, RepL G vs xs → ∀ {ys}, simL xs ys → RepL G vs ys
  | _, _, .nil, ys, h => by simp only [simL] at h; subst h; exact .nil
  | _, _, .cons k k', ys, h => by
    simp only [simL] at h
    obtain ⟨x', xs', rfl, hx, h⟩ := h
    exact .cons (Rep.sim k hx) (RepL.sim k' h)
end
end
end Go.Proofs.YtnmkpadgogbgkaaDoor
namespace Go.Proofs.YtnmkpadgogbgkaaDoor
open Go.RowKit
def keyOk : TypeDesc → AV → Bool
  | .int k, .int k' _ => decide (k = k')
  | .string, .str _ => true
  | _, _ => false
def kdesc : Option IntKind → TypeDesc
  | some k => .int k
  | none => .string
theorem keyOk_of {kk : Option IntKind} {x : AV} (h : keyOkK kk x = true) : keyOk (kdesc kk) x = true := by
  cases kk <;> cases x <;> simp_all [keyOkK, keyOk, kdesc]
/-- the entries of a map stand for such data -/
inductive RepM (G : Gh) : List MapEntry → List (AV × AV) → Prop
  | nil : RepM G [] []
  | cons {e : MapEntry} {k v : AV} {es : List MapEntry} {xs : List (AV × AV)} (h1 : Rep G e.key k) (h2 : Rep G e.val v) (h : RepM G es xs) : RepM G (e :: es) ((k, v) :: xs)
theorem RepM.mono {G G' : Gh} (hl : G.Le G') {es : List MapEntry} {xs : List (AV × AV)} (h : RepM G es xs) : RepM G' es xs := by
  induction h with
  | nil => exact .nil
  | cons h1 h2 _ ih => exact .cons (h1.mono hl) (h2.mono hl) ih
section
variable {P : Program} {G : Gh} {w : World}
theorem sameNow_rep {t : TypeDesc} {a b : Value} {x y : AV} (ha : Rep G a x) (hb : Rep G b y) (hx : keyOk t x = true) (hy : keyOk t y = true) : Instr.sameNow t a b = some (keyEq x y) := by
  cases t <;> cases x <;> simp [keyOk] at hx <;> cases y <;> simp [keyOk] at hy
  · subst hx; subst hy
    cases ha; cases hb
    simp [Instr.sameNow, keyEq]
    rw [Bool.eq_iff_iff]; simp
  · rename_i sa sb
    cases ha with | @str s _ hs => cases hb with | @str s' _ hs' =>
    subst hs; subst hs'
    simp only [Instr.sameNow, keyEq]
    congr 1
    rw [Bool.eq_iff_iff]
    simp
    constructor
    · intro h; have h2 := (MapKept.bytes_beq _ _).1 h; subst h2; rfl
    · intro h; exact (MapKept.bytes_beq _ _).2 (ByteArray.ext h)
theorem findNow_rep {t : TypeDesc} {kv : Value} {ka : AV} (hk : Rep G kv ka) (hka : keyOk t ka = true) : ∀ {es : List MapEntry} {xs : List (AV × AV)} (i : Nat), RepM G es xs → (∀ e ∈ xs, keyOk t e.1 = true) →
    (mfind ka xs = none ∧ Instr.findNow t kv es i = some none) ∨ ∃ (j : Nat) (v : Value) (va : AV) (e : MapEntry), mfind ka xs = some va ∧ Instr.findNow t kv es i = some (some (i + j, v)) ∧ Rep G v va ∧ es[j]? = some e ∧ e.val = v ∧ Instr.sameNow t kv e.key = some true
  | _, _, i, .nil, _ => .inl ⟨rfl, rfl⟩
  | _, _, i, .cons (e := e) (k := k) (v := v) (es := es) (xs := xs) h1 h2 h, hok => by
    have hs := sameNow_rep hk h1 hka (hok _ List.mem_cons_self)
    cases he : keyEq ka k with
    | true =>
      right
      rw [he] at hs
      exact ⟨0, e.val, v, e, by simp [mfind, he], by simp [Instr.findNow, hs], h2, rfl, rfl, hs⟩
    | false =>
      rw [he] at hs
      have ih := findNow_rep hk hka (i + 1) h (fun x hx => hok x (List.mem_cons_of_mem _ hx))
      rcases ih with ⟨a, b⟩ | ⟨j, v', va, e', a, b, c, d, f, g⟩
      · exact .inl ⟨by simp [mfind, he, a], by simp [Instr.findNow, hs, b]⟩
      · exact .inr ⟨j + 1, v', va, e', by simp [mfind, he, a], by simp [Instr.findNow, hs, b]; omega, c, by simpa using d, f, g⟩
theorem run_checkKeyN {t : TypeDesc} {kt : TypeId} {kv : Value} {ka : AV} (b : Bool) (n : Nat) (ht : P.underlying kt = some t) (hk : Rep G kv ka) (hka : keyOk t ka = true) : (Instr.checkKey b (n + 1) kt kv).run P w = .ok () w := by
  cases t <;> cases ka <;> simp [keyOk] at hka
  · cases hk
    simp [Instr.checkKey, run_underlying ht]
  · cases hk
    simp [Instr.checkKey, run_underlying ht]
theorem run_checkKey {t : TypeDesc} {kt : TypeId} {kv : Value} {ka : AV} (b : Bool) (ht : P.underlying kt = some t) (hk : Rep G kv ka) (hka : keyOk t ka = true) : (Instr.checkKey b 10000 kt kv).run P w = .ok () w := run_checkKeyN b 9999 ht hk hka
theorem run_findKey {t : TypeDesc} {kt : TypeId} {kv : Value} {ka : AV} {es : List MapEntry} {xs : List (AV × AV)} (ht : P.underlying kt = some t) (hk : Rep G kv ka) (hka : keyOk t ka = true) (h : RepM G es xs) (hok : ∀ e ∈ xs, keyOk t e.1 = true) :
    (mfind ka xs = none ∧ (Instr.findKey kt kv es).run P w = .ok none w) ∨ ∃ (j : Nat) (v : Value) (va : AV) (e : MapEntry), mfind ka xs = some va ∧ (Instr.findKey kt kv es).run P w = .ok (some (j, v)) w ∧ Rep G v va ∧ es[j]? = some e ∧ e.val = v ∧ Instr.sameNow t kv e.key = some true := by
  rcases findNow_rep hk hka 0 h hok with ⟨a, b⟩ | ⟨j, v, va, e, a, b, c, d, f, g⟩
  · exact .inl ⟨a, by simp [Instr.findKey, run_underlying ht, b]⟩
  · exact .inr ⟨j, v, va, e, a, by simp [Instr.findKey, run_underlying ht, b], c, d, f, g⟩
theorem run_lookup_rep {t : TypeDesc} {mt kt et : TypeId} {kv : Value} {ka : AV} {r clock : Nat} {es : Array MapEntry} {xs : List (AV × AV)} {z : Value} {za : AV} (ok : Bool) (hm : P.underlying mt = some (.map kt et)) (ht : P.underlying kt = some t) (hk : Rep G kv ka) (hka : keyOk t ka = true)
    (hb : w.heap[r]? = some (.map es clock)) (h : RepM G es.toList xs) (hok : ∀ e ∈ xs, keyOk t e.1 = true) (hz : (zeroValue et).run P w = .ok z w) (hzr : Rep G z za) :
    ∃ v va, (mfind ka xs).getD za = va ∧ Rep G v va ∧ (Instr.lookup mt (.map (some r)) kv ok).run P w = .ok (if ok then .tuple #[v, .bool (mfind ka xs).isSome] else v) w := by
  rcases run_findKey (w := w) ht hk hka h hok with ⟨a, b⟩ | ⟨j, v, va, e, a, b, c, d, f, g⟩
  · refine ⟨z, za, by rw [a]; rfl, hzr, ?_⟩
    rw [a]
    simp [Instr.lookup, run_underlying hm, MapKept.run_getObj_map hb, run_checkKey _ ht hk hka, b, hz]
  · refine ⟨v, va, by rw [a]; rfl, c, ?_⟩
    rw [a]
    simp [Instr.lookup, run_underlying hm, MapKept.run_getObj_map hb, run_checkKey _ ht hk hka, b]
theorem msetL_none {k v : AV} : ∀ {xs : List (AV × AV)}, mfind k xs = none → msetL k v xs = xs ++ [(k, v)]
  | [], _ => rfl
  | e :: es, h => by
    simp only [mfind] at h
    split at h
    · cases h
    · rename_i hne
      simp only [msetL, hne, if_false, List.cons_append, msetL_none h]
      rfl
theorem findSet_rep {t : TypeDesc} {kv vv : Value} {ka va : AV} (hk : Rep G kv ka) (hka : keyOk t ka = true) (hv : Rep G vv va) : ∀ {es : List MapEntry} {xs : List (AV × AV)} (i : Nat), RepM G es xs → (∀ e ∈ xs, keyOk t e.1 = true) →
    (mfind ka xs = none ∧ Instr.findNow t kv es i = some none) ∨ ∃ (j : Nat) (v : Value) (e : MapEntry), Instr.findNow t kv es i = some (some (i + j, v)) ∧ es[j]? = some e ∧ Rep G e.key ka ∧ RepM G (es.modify j fun e => { e with key := kv, val := vv }) (msetL ka va xs)
  | _, _, i, .nil, _ => .inl ⟨rfl, rfl⟩
  | _, _, i, .cons (e := e) (k := k) (v := v) (es := es) (xs := xs) h1 h2 h, hok => by
    have hs := sameNow_rep hk h1 hka (hok _ List.mem_cons_self)
    cases he : keyEq ka k with
    | true =>
      right
      rw [he] at hs
      refine ⟨0, e.val, e, by simp [Instr.findNow, hs], rfl, ?_, ?_⟩
      · have : ka = k := by
          cases ka <;> cases k <;> simp [keyEq] at he
          · obtain ⟨rfl, rfl⟩ := he; rfl
          · subst he; rfl
        rw [this]; exact h1
      · simp only [msetL, he, if_true]
        exact .cons hk hv h
    | false =>
      rw [he] at hs
      rcases findSet_rep hk hka hv (i + 1) h (fun x hx => hok x (List.mem_cons_of_mem _ hx)) with ⟨a, b⟩ | ⟨j, v', e', a, b, c, d⟩
      · exact .inl ⟨by simp [mfind, he, a], by simp [Instr.findNow, hs, b]⟩
      · refine .inr ⟨j + 1, v', e', by simp [Instr.findNow, hs, a]; omega, by simpa using b, c, ?_⟩
        have : msetL ka va ((k, v) :: xs) = (k, v) :: msetL ka va xs := by simp [msetL, he]
        rw [this]
        exact .cons h1 h2 d
theorem RepM.snoc {es : List MapEntry} {xs : List (AV × AV)} (h : RepM G es xs) {e : MapEntry} {k v : AV} (h1 : Rep G e.key k) (h2 : Rep G e.val v) : RepM G (es ++ [e]) (xs ++ [(k, v)]) := by
  induction h with
  | nil => exact .cons h1 h2 .nil
  | cons a b _ ih => exact .cons a b ih
theorem sameBits_rep {t : TypeDesc} {a b : Value} {x : AV} (ha : Rep G a x) (hb : Rep G b x) (hx : keyOk t x = true) : Instr.sameBits 10000 a b = true := by
  cases t <;> cases x <;> simp [keyOk] at hx
  · cases ha; cases hb
    simp [Instr.sameBits]
  · cases ha with | @str s _ hs => cases hb with | @str s' _ hs' =>
    have : s = s' := ByteArray.ext (Array.toList_inj.1 (hs.trans hs'.symm))
    subst this
    simp only [Instr.sameBits]
    exact (MapKept.bytes_beq _ _).2 rfl
/-- the stamps of the entries of a map -/
def bornsOf (es : Array MapEntry) : List Nat := es.toList.map (·.born)
/-- the stamps are all different, and below the clock -/
def BornOk (es : Array MapEntry) (clock : Nat) : Prop := (bornsOf es).Nodup ∧ ∀ b ∈ bornsOf es, b < clock
/-- entries may have come behind those that there were -/
def Grown (es : Array MapEntry) (clock : Nat) (es' : Array MapEntry) (clock' : Nat) : Prop := (∀ (j b : Nat), (bornsOf es)[j]? = some b → (bornsOf es')[j]? = some b) ∧ es.size ≤ es'.size ∧ clock' + es.size = clock + es'.size
theorem Grown.rfl_ (es : Array MapEntry) (clock : Nat) : Grown es clock es clock := ⟨fun _ _ h => h, Nat.le_refl _, rfl⟩
theorem borns_modify (l : List MapEntry) (kv vv : Value) : ∀ j, (l.modify j fun e => { e with key := kv, val := vv }).map (·.born) = l.map (·.born) := by
  induction l with
  | nil => intro j; simp
  | cons x l ih =>
    intro j
    cases j with
    | zero => simp
    | succ j => simp [ih]
theorem run_mapUpdate_rep {t : TypeDesc} {mt kt et : TypeId} {kv vv : Value} {ka va : AV} {r clock : Nat} {es : Array MapEntry} {xs : List (AV × AV)} (hm : P.underlying mt = some (.map kt et)) (ht : P.underlying kt = some t) (hk : Rep G kv ka) (hka : keyOk t ka = true) (hv : Rep G vv va)
    (hb : w.heap[r]? = some (.map es clock)) (h : RepM G es.toList xs) (hok : ∀ e ∈ xs, keyOk t e.1 = true) (hbo : BornOk es clock) :
    ∃ (es' : Array MapEntry) (clock' : Nat) (w' : World), BornOk es' clock' ∧ Grown es clock es' clock' ∧ (Instr.mapUpdate mt (.map (some r)) kv vv).run P w = .ok () w' ∧ w'.heap[r]? = some (.map es' clock') ∧ RepM G es'.toList (msetL ka va xs) ∧ (∀ k, k ≠ r → w'.heap[k]? = w.heap[k]?) ∧ w'.heap.size = w.heap.size ∧ w'.os = w.os ∧ w'.tape = w.tape ∧ w'.output = w.output := by
  have hr : r < w.heap.size := (Array.getElem?_eq_some_iff.1 hb).1
  rcases findSet_rep hk hka hv 0 h hok with ⟨a, b⟩ | ⟨j, v, e, a, b, c, d⟩
  · refine ⟨es.push { key := kv, val := vv, born := clock }, clock + 1, { w with heap := w.heap.setIfInBounds r (.map (es.push { key := kv, val := vv, born := clock }) (clock + 1)) }, ?_, ?_, ?_, ?_, ?_, ?_, ?_, rfl, rfl, rfl⟩
    · refine ⟨?_, fun b hb' => ?_⟩
      · simp only [bornsOf, Array.toList_push, List.map_append, List.map_cons, List.map_nil]
        refine List.nodup_append.2 ⟨hbo.1, by simp, fun a ha b hb' => ?_⟩
        have := hbo.2 a ha
        simp at hb'; omega
      · simp only [bornsOf, Array.toList_push, List.map_append, List.map_cons, List.map_nil, List.mem_append, List.mem_singleton] at hb'
        rcases hb' with hb' | hb'
        · have := hbo.2 b hb'; omega
        · omega
    · refine ⟨fun j b hj => ?_, by simp, by first | (simp; done) | (simp; omega)⟩
      unfold bornsOf at hj ⊢
      simp only [Array.toList_push, List.map_append]
      rw [List.getElem?_append_left (List.getElem?_eq_some_iff.1 hj).1]; exact hj
    · simp [Instr.mapUpdate, run_underlying hm, MapKept.run_getObj_map hb, run_checkKey _ ht hk hka, Instr.findKey, run_underlying ht, b, MapKept.run_setObj_map _ hb]
    · simp [hr]
    · rw [msetL_none a]; simpa using h.snoc (e := { key := kv, val := vv, born := clock }) hk hv
    · intro k hkr; simp [Array.getElem?_setIfInBounds, Ne.symm hkr]
    · simp
  · have hsb := sameBits_rep c hk hka
    refine ⟨es.modify j fun e => { e with key := kv, val := vv }, clock, { w with heap := w.heap.setIfInBounds r (.map (es.modify j fun e => { e with key := kv, val := vv }) clock) }, ?_, ?_, ?_, ?_, ?_, ?_, ?_, rfl, rfl, rfl⟩
    · unfold BornOk bornsOf
      rw [Array.toList_modify, borns_modify]; exact hbo
    · refine ⟨fun j' b hj => ?_, by simp, by simp⟩
      unfold bornsOf at hj ⊢
      rw [Array.toList_modify, borns_modify]; exact hj
    · have hej : es[j]? = some e := by simpa using b
      simp only [Nat.zero_add] at a
      simp [Instr.mapUpdate, run_underlying hm, MapKept.run_getObj_map hb, run_checkKey _ ht hk hka, Instr.findKey, run_underlying ht, a, hej, Instr.keyThatStays, hsb, MapKept.run_setObj_map _ hb]
    · simp [hr]
    · simpa using d
    · intro k hkr; simp [Array.getElem?_setIfInBounds, Ne.symm hkr]
    · simp
theorem run_next_any {g bm since c0 : Nat} {seen : Array Nat} {es : Array MapEntry} {clock : Nat} (ty : TypeId) (hg : w.heap[g]? = some (.mapIter (some bm) since seen c0)) (hb : w.heap[bm]? = some (.map es clock)) (hold : ∀ x ∈ es.toList, x.born < since) (hsc : since ≤ c0) :
    ((leftOf es seen).size = 0 ∧ (Instr.next (.pointer (some ⟨g, 0, none⟩)) false ty).run P w = .ok (.tuple #[.bool false]) w) ∨
    ∃ e ∈ (leftOf es seen).toList, ∃ w1 : World, w1.heap = w.heap ∧ w1.os = w.os ∧ w1.tape = w.tape ∧ w1.output = w.output ∧ (Instr.next (.pointer (some ⟨g, 0, none⟩)) false ty).run P w = .ok (.tuple #[.bool true, e.key, e.val]) { w1 with heap := w1.heap.setIfInBounds g (.mapIter (some bm) since (seen.push e.born) clock) } := by
  simp only [Instr.next, getObj, Sem.run_bind, Sem.run, hg, hb, Result.andThen, next_test_false seen es since c0 hold hsc, Bool.false_eq_true, if_false]
  unfold leftOf
  have hmem : ∀ x ∈ (Array.filter (fun e => !seen.contains e.born) es).toList, x.born < since := fun x hx => hold x (by simp at hx ⊢; exact hx.1)
  generalize Array.filter (fun e => !seen.contains e.born) es = L at hmem ⊢
  have e1 : L.filter (fun x => decide (x.born < since)) = L := Array.filter_eq_self.2 (fun x hx => by simpa using hmem x (by simpa using hx))
  have e2 : L.filter (fun x => decide (x.born ≥ since)) = #[] := by
    rw [Array.filter_eq_empty_iff]
    intro x hx
    have := hmem x (by simpa using hx)
    simp
    omega
  simp only [e1, e2, Array.append_empty]
  by_cases h0 : L.size = 0
  · left
    have : L = #[] := Array.eq_empty_of_size_eq_zero h0
    subst this
    refine ⟨rfl, ?_⟩
    simp [choose, Sem.run, Question.forced]
  · right
    have hne : L.isEmpty = false := by simp [Array.isEmpty, h0]
    simp only [hne, Bool.false_eq_true, if_false, Array.empty_append, Array.size_map]
    have hch : ∃ (j : Nat) (w1 : World), j < L.size ∧ w1.heap = w.heap ∧ w1.os = w.os ∧ w1.tape = w.tape ∧ w1.output = w.output ∧ (choose (Question.mapNext L.size)).run P w = .ok j w1 := by
      by_cases hf : L.size ≤ 1
      · exact ⟨0, w, by omega, rfl, rfl, rfl, rfl, by simp [choose, Sem.run, Question.forced, hf]⟩
      · exact ⟨_, w.drew, Nat.mod_lt _ (by omega), rfl, rfl, rfl, rfl, by
          simp only [choose, Sem.run, Question.forced, decide_eq_true_eq, hf, if_false, Question.cut]
          rfl⟩
    obtain ⟨j, w1, hj, a1, a2, a3, a4, hrun⟩ := hch
    refine ⟨L[j], by simp, w1, a1, a2, a3, a4, ?_⟩
    have hset : ∀ o' : Obj, (setObj g o').run P w1 = .ok () { w1 with heap := w1.heap.setIfInBounds g o' } := fun o' => by
      simp only [setObj, Sem.run]
      rw [a1, hg]
    simp only [hrun, Array.getElem?_map, Array.getElem?_eq_getElem hj, Option.map_some, Sem.run_bind, hset, Result.andThen]
    rfl
theorem run_entry_any {g bm since : Nat} {seen : Array Nat} {es : Array MapEntry} {clock : Nat} {e : MapEntry} (hg : w.heap[g]? = some (.mapIter (some bm) since seen clock)) (hs : seen.back? = some e.born) (hb : w.heap[bm]? = some (.map es clock)) (he : e ∈ es.toList) (hn : (es.toList.map (·.born)).Nodup) :
    (Instr.entry (.pointer (some ⟨g, 0, none⟩))).run P w = .ok (.tuple #[e.key, e.val]) w := by
  have hf : es.find? (·.born == e.born) = some e := by rw [← Array.find?_toList]; exact find_born e es.toList hn he
  simp only [Instr.entry, getObj, Sem.run_bind, Sem.run, hg, hb, Result.andThen, hs, bne_self_eq_false, Bool.false_eq_true, if_false, hf]
  rfl
end
end Go.Proofs.YtnmkpadgogbgkaaDoor
namespace Go.Proofs.YtnmkpadgogbgkaaDoor
open Go.RowKit
def shpSz : Shp → Nat
  | none => 1
  | some s => s
def szP (P : Program) (e : TypeId) : Nat := ((P.info? e).map (·.size)).getD 0
def ObjOk (P : Program) (G : Gh) (w : World) (g : Nat) : AObj → Prop
  | .cells e cs => (∀ o, G.I g o = none) ∧ ∃ vs : Array Value, w.heap[g]? = some (.cells vs e (0, 0)) ∧ RepL G vs.toList cs ∧ ∀ x ∈ cs, x.one = true
  | .row e m => ∃ (cur : Array Value) (c : Nat) (fz : Nat × Nat), G.cap g = some (e, c) ∧ w.heap[g]? = some (.cells cur e fz) ∧ fz.2 ≤ m * szP P e ∧ m ≤ c ∧ c ≤ maxLen ∧ cur.size = c * szP P e ∧ ∀ o, m * szP P e ≤ o → G.I g o = none
  | .map kk es => ∃ (es' : Array MapEntry) (clock : Nat), w.heap[g]? = some (.map es' clock) ∧ RepM G es'.toList es ∧ (∀ e ∈ es, keyOkK kk e.1 = true) ∧ BornOk es' clock
  | .iter m len left cur => ∃ (since : Nat) (seen : Array Nat) (es' : Array MapEntry) (clock : Nat), w.heap[g]? = some (.mapIter (some m) since seen since) ∧ w.heap[m]? = some (.map es' clock) ∧ len ≤ es'.size ∧ clock + len = since + es'.size ∧
    left.Nodup ∧ (∀ j ∈ left, j < len) ∧ (∀ (j b : Nat), (bornsOf es')[j]? = some b → j < len → (j ∈ left ↔ b ∉ seen)) ∧ ∀ j, cur = some j → j < len ∧ ∃ b, (bornsOf es')[j]? = some b ∧ seen.back? = some b
structure Rel0 (P : Program) (w0 : World) (G : Gh) (n : Nat) (H : AHeap) (w : World) : Prop where
  ext : Ext w0 w
  lo : w0.heap.size ≤ n
  hi : n ≤ w.heap.size
  seal_ : ∀ b o v, G.I b o = some v → w.cell? ⟨b, o, none⟩ = some v
  caps : ∀ g e c, G.cap g = some (e, c) → ∃ (cur : Array Value) (fz : Nat × Nat), w.heap[g]? = some (.cells cur e fz) ∧ cur.size = c * szP P e
  capLo : ∀ g e c, G.cap g = some (e, c) → w0.heap.size ≤ g
  objs : ∀ g ob, H g = some ob → w0.heap.size ≤ g ∧ g < n ∧ ObjOk P G w g ob
abbrev APost := AV → Nat → AHeap → Prop
/-- the function, called at such data, hands back such data -/
def ACalls (P : Program) (f : Nat) (args : List AV) (n : Nat) (H : AHeap) (R : APost) : Prop :=
  (∀ g, n ≤ g → H g = none) → ∀ (w0 : World) (G : Gh) (w : World) (vs : List Value), Laid w0 → Rel0 P w0 G n H w → RepL G vs args →
    Calls P f vs.toArray w fun e w' => ∃ (v : Value) (r : AV) (G' : Gh) (n' : Nat) (H' : AHeap), e = .returned v ∧ R r n' H' ∧ Rep G' v r ∧ G.Le G' ∧ n ≤ n' ∧ Rel0 P w0 G' n' H' w'
def CallK (P : Program) (f : Nat) (args : List AV) (d : Option Nat) (K : AS → Prop) (s : AS) : Prop :=
  ∃ R, ACalls P f args s.n s.H R ∧ ∀ r n' H', s.n ≤ n' → (∀ g, n' ≤ g → H' g = none) → R r n' H' → K ⟨putO s.e d r, n', H'⟩
/-- the function, called at such data, hands back this, and turns nothing -/
def APure (P : Program) (f : Nat) (args : List AV) (v : AV) : Prop := ∀ n H, ACalls P f args n H fun r n' H' => r = v ∧ n' = n ∧ H' = H
def CallP (P : Program) (f : Nat) (args : List AV) (d : Option Nat) (K : AS → Prop) (s : AS) : Prop := ∃ args' v, APure P f args' v ∧ simL args args' ∧ K ⟨putO s.e d v, s.n, s.H⟩
/-- a function with a body -/
def callable (P : Program) (f : Nat) : Bool := match P.funcs[f]? with | some fn => fn.body.isSome && fn.name != "runtime.NumGoroutine" | none => false
def splice (cs : List AV) (o : Nat) (v : List AV) : List AV := cs.take o ++ v ++ cs.drop (o + v.length)
def ones (cs : List AV) : Prop := ∀ x ∈ cs, x.one = true
def appK (e sz by_ : Nat) (d : Option Nat) (K : AS → Prop) (s : AS) : AV → List AV → Prop
  | .sl z l t, m => (l.length + m.length) * by_ ≤ 140737488355328 ∧ l.length + m.length ≤ maxLen ∧
    match t with
    | .nil => (m = [] → K ⟨putO s.e d (.sl sz [] .nil), s.n, s.H⟩) ∧ (m ≠ [] → ∀ g, s.n ≤ g → K ⟨putO s.e d (.sl sz m (.own g)), g + 1, upd s.H g (some (.row e m.length))⟩)
    | .own g0 => z = sz ∧ s.H g0 = some (.row e l.length) ∧ ∀ g n', (g = g0 ∨ s.n ≤ g) → s.n ≤ n' → g < n' → K ⟨putO s.e d (.sl sz (l ++ m) (.own g)), n', upd (upd s.H g0 none) g (some (.row e (l.length + m.length)))⟩
    | .ro => False
  | _, _ => False
def appKS (e sz by_ : Nat) (d : Option Nat) (K : AS → Prop) (s : AS) (x : AV) : AV → Prop
  | .sl z m _ => (z = sz ∨ m = []) ∧ ∃ m', simL m m' ∧ appK e sz by_ d K s x m'
  | _ => False
/-- the bytes of a string -/
def byteA (s : List UInt8) : List AV := s.map fun u => AV.int .u8 u.toNat
def appKB (e by_ : Nat) (d : Option Nat) (K : AS → Prop) (s : AS) (x : AV) : AV → Prop
  | .str b => appK e 1 by_ d K s x (byteA b)
  | _ => False
def storeK (sh : Shp) (d : Option Nat) (K : AS → Prop) (s : AS) (v : AV) : AV → Prop
  | .ptr g o => match s.H g with
    | some (.cells e cs) => v.fits sh = true ∧ ones v.cells ∧ o + v.cells.length ≤ cs.length ∧ K ⟨putO s.e d .any, s.n, upd s.H g (some (.cells e (splice cs o v.cells)))⟩
    | _ => False
  | _ => False
/-- a pointer to a variable of type u, where one lies -/
def updnAV (P : Program) (H : AHeap) (u : TypeId) : AV → Option AV
  | .ptr g o => match H g with
    | some (.cells e cs) => if liesAt P P.depth e (cs.length / P.cellsOf e) o u 1 = true then some (.ptr g o) else none
    | _ => none
  | _ => none
/-- a value is put into a map -/
def msetS (kk : Option IntKind) (d : Option Nat) (K : AS → Prop) (s : AS) (k v : AV) : AV → Prop
  | .mp g => match s.H g with
    | some (.map kk' es) => kk' = kk ∧ keyOkK kk k = true ∧ K ⟨putO s.e d .any, s.n, upd s.H g (some (.map kk (msetL k v es)))⟩
    | _ => False
  | _ => False
/-- a slice of a number of empty elements, which may be turned -/
def mkslS (el : TypeId) (by_ : Nat) (z : AV) (d : Option Nat) (K : AS → Prop) (s : AS) : AV → AV → Prop
  | .int _ a, .int _ b => a = b ∧ 0 ≤ a ∧ (by_ : Int) * a ≤ 281474976710656 ∧ a ≤ maxLen ∧ ∀ g, s.n ≤ g → K ⟨putO s.e d (.slm 1 g 0 a.toNat), g + 1, upd s.H g (some (.cells el (List.replicate a.toNat z)))⟩
  | _, _ => False
/-- a round over a map begins -/
def rngS (d : Option Nat) (K : AS → Prop) (s : AS) : AV → Prop
  | .mp m => match s.H m with
    | some (.map _ es) => ∀ g, s.n ≤ g → K ⟨putO s.e d (.ptr g 0), g + 1, upd s.H g (some (.iter m es.length (List.range es.length) none))⟩
    | _ => False
  | _ => False
/-- its next entry, whichever -/
def nxtS (d : Option Nat) (K : AS → Prop) (s : AS) : AV → Prop
  | .ptr g o => o = 0 ∧ match s.H g with
    | some (.iter m len left _) => match s.H m with
      | some (.map _ es) => es.length = len ∧ (left = [] → K ⟨putO s.e d (.tup [.bool false]), s.n, s.H⟩) ∧ ∀ j ∈ left, ∀ k v, es[j]? = some (k, v) → K ⟨putO s.e d (.tup [.bool true, k, v]), s.n, upd s.H g (some (.iter m len (left.erase j) (some j)))⟩
      | _ => False
    | _ => False
  | _ => False
def awOp (P : Program) (d : Option Nat) (op : AOp) (K : AS → Prop) (s : AS) : Prop :=
  match op with
  | .alloc e z => ones z ∧ ∀ g, s.n ≤ g → K ⟨putO s.e d (.ptr g 0), g + 1, upd s.H g (some (.cells e z))⟩
  | .box e sh x => (ev s.e x).fits sh = true ∧ ones (ev s.e x).cells ∧ ∀ g, s.n ≤ g → K ⟨putO s.e d (.ptr g 0), g + 1, upd s.H g (some (.cells e (ev s.e x).cells))⟩
  | .store sh x v => storeK sh d K s (ev s.e v) (ev s.e x)
  | .bsl e sh xs => (∀ x ∈ xs, (ev s.e x).fits sh = true ∧ ones (ev s.e x).cells) ∧ ((∀ g, s.n ≤ g → K ⟨putO s.e d (.sl (shpSz sh) (xs.map (ev s.e)) (.own g)), g + 1, upd s.H g (some (.row e xs.length))⟩) ∨ (∀ g, s.n ≤ g → K ⟨putO s.e d (.slm (shpSz sh) g 0 xs.length), g + 1, upd s.H g (some (.cells e (flatA (xs.map (ev s.e)))))⟩))
  | .app e sz by_ x y => appKS e sz by_ d K s (ev s.e x) (ev s.e y)
  | .appB e by_ x y => appKB e by_ d K s (ev s.e x) (ev s.e y)
  | .s2b _ x => match ev s.e x with | .str b => b.length ≤ maxLen ∧ ∀ n', s.n ≤ n' → K ⟨putO s.e d (.sl 1 (b.map fun u => .int .u8 u.toNat) .ro), n', s.H⟩ | _ => False
  | .s2s x => match ev s.e x with | .sl sz l (.own g) => l ≠ [] ∧ K ⟨putO s.e d (.sl sz l .ro), s.n, upd s.H g none⟩ | _ => False
  | .mkmap kk => ∀ g, s.n ≤ g → K ⟨putO s.e d (.mp g), g + 1, upd s.H g (some (.map kk []))⟩
  | .mset kk m k v => msetS kk d K s (ev s.e k) (ev s.e v) (ev s.e m)
  | .mksl el b z x y => mkslS el b z d K s (ev s.e x) (ev s.e y)
  | .rng x => rngS d K s (ev s.e x)
  | .nxt x => nxtS d K s (ev s.e x)
  | .call f xs => CallK P f (xs.map (ev s.e)) d K s
  | .updn u x => K1 (updnAV P s.H u (ev s.e x)) fun v => K ⟨putO s.e d v, s.n, s.H⟩
  | .ust e x n => K1 (ustAV e (ev s.e x) (ev s.e n)) fun v => K ⟨putO s.e d v, s.n, s.H⟩
  | .callp f xs => CallP P f (xs.map (ev s.e)) d K s
  | .callv x xs => match ev s.e x with | .fn f a b => callable P f = true ∧ CallK P f (a ++ xs.map (ev s.e) ++ b) d K s | _ => False
  | op => K1 (pe op s.e s.H) fun v => K ⟨putO s.e d v, s.n, s.H⟩
def awO (P : Program) (o : AOper) (K : AS → Prop) (s : AS) : Prop :=
  match o.guard with
  | none => awOp P o.dst o.op K s
  | some (t, want) => match get s.e t with
    | .bool b => (b = want → awOp P o.dst o.op K s) ∧ (b ≠ want → K ⟨putO s.e o.dst .und, s.n, s.H⟩)
    | .und => K ⟨putO s.e o.dst .und, s.n, s.H⟩
    | _ => False
def awOps (P : Program) : List AOper → (AS → Prop) → AS → Prop
  | [], K, s => K s
  | o :: os, K, s => awO P o (awOps P os K) s
/-- the heap without the blocks that are stored to -/
def maskH : List Nat → AHeap → AHeap
  | [], H => H
  | g :: gs, H => fun k => if k = g then none else maskH gs H k
def gsC : AV → Option (List Nat) → Option (List Nat)
  | .ptr g _, some gs => some (g :: gs)
  | _, _ => none
def gsOf (e : AEnv) : List Nat → Option (List Nat)
  | [] => some []
  | t :: ts => gsC (get e t) (gsOf e ts)
def blkIn (gs : List Nat) : AV → Prop
  | .ptr g _ => g ∈ gs
  | _ => False
/-- a store that may come ahead of loads is to such a block -/
def blkSt (gs : List Nat) (v : AV) : Prop := gs = [] ∨ blkIn gs v
/-- what a load yields that may come late, wanted or not -/
def lvM (gs : List Nat) (sh : Shp) (x : Opd) (g : Option (Nat × Bool)) (e : AEnv) (H : AHeap) : Option AV := match g with
  | none => pe (.load sh x) e (maskH gs H)
  | some (t, want) => match get e t with
    | .bool b => if b = want then pe (.load sh x) e (maskH gs H) else some .und
    | .und => some .und
    | _ => none
/-- an operation of a region whose loads may come late: they look at no block that is stored to -/
def awOM (P : Program) (gs : List Nat) (o : AOper) (K : AS → Prop) (s : AS) : Prop :=
  match o with
  | ⟨d, .load sh x, g⟩ => K1 (lvM gs sh x g s.e s.H) fun v => K ⟨putO s.e d v, s.n, s.H⟩
  | ⟨d, .alloc t z, none⟩ => ones z ∧ ∀ g, s.n ≤ g → s.H g = none → K ⟨putO s.e d (.ptr g 0), g + 1, upd s.H g (some (.cells t z))⟩
  | ⟨d, .store sh x v, none⟩ => blkSt gs (ev s.e x) ∧ awOp P d (.store sh x v) K s
  | ⟨d, .bsl t sh xs, none⟩ => (∀ x ∈ xs, (ev s.e x).fits sh = true ∧ ones (ev s.e x).cells) ∧ ∀ g, s.n ≤ g → s.H g = none → K ⟨putO s.e d (.sl (shpSz sh) (xs.map (ev s.e)) (.own g)), g + 1, upd s.H g (some (.row t xs.length))⟩
  | o => awO P o K s
def awOpsM (P : Program) (gs : List Nat) : List AOper → (AS → Prop) → AS → Prop
  | [], K, s => K s
  | o :: os, K, s => awOM P gs o (awOpsM P gs os K) s
def gsK (P : Program) (o : Option (List Nat)) (ops : List AOper) (K : AS → Prop) (s : AS) : Prop :=
  match o with
  | some gs => awOpsM P gs ops K s
  | none => False
def guardK (want : Bool) (A B : Prop) : AV → Prop
  | .bool b => (b = want → A) ∧ (b ≠ want → B)
  | .und => B
  | _ => False
/-- what is not carried out yields nothing -/
def undE (e : AEnv) : List AOper → AEnv
  | [] => e
  | o :: os => undE (putO e o.dst .und) os
def anyE (e : AEnv) : List AOper → AEnv
  | [] => e
  | o :: os => anyE (putO e o.dst .any) os
/-- what only computes, one after the other -/
def evalOps : List AOper → AEnv → AHeap → Option AEnv
  | [], e, _ => some e
  | o :: os, e, H => match pe o.op e H with
    | some v => evalOps os (putO e o.dst v) H
    | none => none
/-- one of two values, of which the second is looked at only if the first does not decide -/
def scV (want : Bool) (x : Nat) : AV → Option AEnv → Option AV
  | .bool b, some e' => match get e' x with
    | .bool b' => some (.bool (if want then b && b' else b || b'))
    | _ => none
  | .bool b, none => if b = want then none else some (.bool (!want))
  | _, _ => none
def awSegs (P : Program) : List Seg → (AS → Prop) → AS → Prop
  | [], K, s => K s
  | ⟨none, ops, _⟩ :: l, K, s => awOps P ops (awSegs P l K) s
  | ⟨some (t, want), ops, some (d, x)⟩ :: l, K, s => K1 (scV want x (get s.e t) (evalOps ops s.e s.H)) fun v => awSegs P l K ⟨put (anyE s.e ops) d v, s.n, s.H⟩
  | ⟨some (t, want), ops, none⟩ :: l, K, s => guardK want (awOps P ops (awSegs P l K) s) (awSegs P l K ⟨undE s.e ops, s.n, s.H⟩) (get s.e t)
def thenA (X : AS → Prop) (Q : AExit → AS → Prop) : AExit → AS → Prop
  | .normal, s => X s
  | e, s => Q e s
def blockA (id : Nat) (Q : AExit → AS → Prop) : AExit → AS → Prop
  | .exit i, s => if i = id then Q .normal s else Q (.exit i) s
  | e, s => Q e s
def condK (A B : Prop) : AV → Prop
  | .bool b => (b = true → A) ∧ (b = false → B)
  | _ => False
def keepE (e : AEnv) (ks : List Nat) : AEnv := ks.map fun k => (k, get e k)
def keepQ (ks : List Nat) (Q : AExit → AS → Prop) : AExit → AS → Prop
  | .normal, s => Q .normal ⟨keepE s.e ks, s.n, s.H⟩
  | e, s => Q e s
/-- rounds of a loop, of which there is an end -/
def LoopK (B : (AExit → AS → Prop) → AS → Prop) (Q : AExit → AS → Prop) (s : AS) : Prop := ∀ X : AS → Prop, (∀ s, B (thenA X Q) s → X s) → X s
def aw (P : Program) : ACode → (AExit → AS → Prop) → AS → Prop
  | .skip, Q, s => Q .normal s
  | .reg ops, Q, s => awOps P ops (Q .normal) s
  | .regD S ops, Q, s => gsK P (gsOf s.e S) ops (Q .normal) s
  | .segs l, Q, s => awSegs P l (Q .normal) s
  | .seq a b, Q, s => aw P a (thenA (aw P b Q) Q) s
  | .cond c a b, Q, s => condK (aw P a Q s) (aw P b Q s) (ev s.e c)
  | .block id c, Q, s => aw P c (blockA id Q) s
  | .loop c, Q, s => LoopK (fun Q s => aw P c Q s) Q s
  | .exit id, Q, s => Q (.exit id) s
  | .ret, Q, s => Q .ret s
  | .bad, _, _ => False
  | .kp ks c, Q, s => aw P c Q ⟨keepE s.e ks, s.n, s.H⟩
  | .ke ks c, Q, s => aw P c (keepQ ks Q) s
/-! ### more is asked of less -/
theorem K1.mono {o : Option AV} {k k' : AV → Prop} (h : K1 o k) (hk : ∀ v, k v → k' v) : K1 o k' := by
  cases o with
  | none => exact h
  | some v => exact hk v h
theorem CallK.mono {P : Program} {f : Nat} {args : List AV} {d : Option Nat} {K K' : AS → Prop} {s : AS} (h : CallK P f args d K s) (hk : ∀ s, K s → K' s) : CallK P f args d K' s := by
  obtain ⟨R, h1, h2⟩ := h
  exact ⟨R, h1, fun r n' H' h3 h4 h5 => hk _ (h2 r n' H' h3 h4 h5)⟩
theorem CallP.mono {P : Program} {f : Nat} {args : List AV} {d : Option Nat} {K K' : AS → Prop} {s : AS} (h : CallP P f args d K s) (hk : ∀ s, K s → K' s) : CallP P f args d K' s := by
  obtain ⟨args', v, h1, hs, h2⟩ := h
  exact ⟨args', v, h1, hs, hk _ h2⟩
theorem appK_move {e sz by_ : Nat} {d : Option Nat} {K K' : AS → Prop} {s : AS} {e' : AEnv} {x : AV} {m : List AV} (h : appK e sz by_ d K s x m) (hk : ∀ r n' H', K ⟨putO s.e d r, n', H'⟩ → K' ⟨putO e' d r, n', H'⟩) : appK e sz by_ d K' ⟨e', s.n, s.H⟩ x m := by
  unfold appK at h ⊢
  split at h
  · refine ⟨h.1, h.2.1, ?_⟩
    have h4 := h.2.2
    split at h4
    · exact ⟨fun hm => hk _ _ _ (h4.1 hm), fun hm g hg => hk _ _ _ (h4.2 hm g hg)⟩
    · exact ⟨h4.1, h4.2.1, fun g n' h1 h2 h3 => hk _ _ _ (h4.2.2 g n' h1 h2 h3)⟩
    · exact h4
  · exact h
theorem appK_mono {e sz by_ : Nat} {d : Option Nat} {K K' : AS → Prop} {s : AS} {x : AV} {m : List AV} (h : appK e sz by_ d K s x m) (hk : ∀ s, K s → K' s) : appK e sz by_ d K' s x m :=
  appK_move (e' := s.e) h fun _ _ _ h' => hk _ h'
theorem awOp_mono {P : Program} {d : Option Nat} {op : AOp} {K K' : AS → Prop} {s : AS} (h : awOp P d op K s) (hk : ∀ s, K s → K' s) : awOp P d op K' s := by
  cases op <;> simp only [awOp] at h ⊢ <;> first
    | exact K1.mono h fun v hv => hk _ hv
    | exact ⟨h.1, fun g hg => hk _ (h.2 g hg)⟩
    | exact ⟨h.1, h.2.1, fun g hg => hk _ (h.2.2 g hg)⟩
    | exact h.mono hk
    | skip
  case store sh x v =>
    unfold storeK at h ⊢
    split at h
    · split at h
      · exact ⟨h.1, h.2.1, h.2.2.1, hk _ h.2.2.2⟩
      · exact h
    · exact h
  case app e sz by_ x y =>
    unfold appKS at h ⊢
    split at h
    · obtain ⟨h1, m', h2, h3⟩ := h
      exact ⟨h1, m', h2, appK_mono h3 hk⟩
    · exact h
  case appB e by_ x y =>
    unfold appKB at h ⊢
    split at h
    · exact appK_mono h hk
    · exact h
  case s2b e x =>
    split at h
    · exact ⟨h.1, fun n' hn => hk _ (h.2 n' hn)⟩
    · exact h
  case s2s x =>
    split at h
    · exact ⟨h.1, hk _ h.2⟩
    · exact h
  case mkmap kk => exact fun g hg => hk _ (h g hg)
  case bsl e sh xs => exact ⟨h.1, h.2.imp (fun h g hg => hk _ (h g hg)) (fun h g hg => hk _ (h g hg))⟩
  case mset kk m k v =>
    unfold msetS at h ⊢
    split at h
    · split at h
      · exact ⟨h.1, h.2.1, hk _ h.2.2⟩
      · exact h
    · exact h
  case mksl el b z x y =>
    unfold mkslS at h ⊢
    split at h
    · exact ⟨h.1, h.2.1, h.2.2.1, h.2.2.2.1, fun g hg => hk _ (h.2.2.2.2 g hg)⟩
    · exact h
  case rng x =>
    unfold rngS at h ⊢
    split at h
    · split at h
      · exact fun g hg => hk _ (h g hg)
      · exact h
    · exact h
  case nxt x =>
    unfold nxtS at h ⊢
    split at h
    · refine ⟨h.1, ?_⟩
      have h := h.2
      split at h
      · split at h
        · exact ⟨h.1, fun h0 => hk _ (h.2.1 h0), fun j hj k v hv => hk _ (h.2.2 j hj k v hv)⟩
        · exact h
      · exact h
    · exact h
  case callv x xs =>
    split at h
    · exact ⟨h.1, h.2.mono hk⟩
    · exact h
theorem awO_mono {P : Program} {o : AOper} {K K' : AS → Prop} {s : AS} (h : awO P o K s) (hk : ∀ s, K s → K' s) : awO P o K' s := by
  unfold awO at h ⊢
  split at h
  · exact awOp_mono h hk
  · split at h
    · exact ⟨fun hb => awOp_mono (h.1 hb) hk, fun hb => hk _ (h.2 hb)⟩
    · exact hk _ h
    · exact h
theorem awOps_mono {P : Program} {os : List AOper} {K K' : AS → Prop} {s : AS} (h : awOps P os K s) (hk : ∀ s, K s → K' s) : awOps P os K' s := by
  induction os generalizing s with
  | nil => exact hk _ h
  | cons o os ih => exact awO_mono h fun s' h' => ih h'
theorem awOM_mono {P : Program} {gs : List Nat} {o : AOper} {K K' : AS → Prop} {s : AS} (h : awOM P gs o K s) (hk : ∀ s, K s → K' s) : awOM P gs o K' s := by
  unfold awOM at h ⊢
  split at h
  · exact K1.mono h fun v hv => hk _ hv
  · exact ⟨h.1, fun g hg hn => hk _ (h.2 g hg hn)⟩
  · exact ⟨h.1, awOp_mono h.2 hk⟩
  · exact ⟨h.1, fun g hg hn => hk _ (h.2 g hg hn)⟩
  · exact awO_mono h hk
theorem awOpsM_mono {P : Program} {gs : List Nat} {os : List AOper} {K K' : AS → Prop} {s : AS} (h : awOpsM P gs os K s) (hk : ∀ s, K s → K' s) : awOpsM P gs os K' s := by
  induction os generalizing s with
  | nil => exact hk _ h
  | cons o os ih => exact awOM_mono h fun s' h' => ih h'
theorem gsK.mono {P : Program} {o : Option (List Nat)} {os : List AOper} {K K' : AS → Prop} {s : AS} (h : gsK P o os K s) (hk : ∀ s, K s → K' s) : gsK P o os K' s := by
  cases o with
  | none => exact h
  | some gs => exact awOpsM_mono h hk
theorem guardK.mono {want : Bool} {A B A' B' : Prop} {v : AV} (h : guardK want A B v) (ha : A → A') (hb : B → B') : guardK want A' B' v := by
  unfold guardK at h ⊢
  split at h
  · exact ⟨fun e => ha (h.1 e), fun e => hb (h.2 e)⟩
  · exact hb h
  · exact h
theorem awSegs_mono {P : Program} {l : List Seg} {K K' : AS → Prop} {s : AS} (h : awSegs P l K s) (hk : ∀ s, K s → K' s) : awSegs P l K' s := by
  induction l generalizing s with
  | nil => exact hk _ h
  | cons o os ih =>
    obtain ⟨g, ops, pk⟩ := o
    cases g with
    | none => exact awOps_mono h fun s' h' => ih h'
    | some gw =>
      cases pk with
      | none => exact guardK.mono h (fun h => awOps_mono h fun s' h' => ih h') ih
      | some dx => exact K1.mono h fun v hv => ih hv
theorem aw_mono {P : Program} {c : ACode} {Q Q' : AExit → AS → Prop} {s : AS} (h : aw P c Q s) (hq : ∀ e s, Q e s → Q' e s) : aw P c Q' s := by
  induction c generalizing Q Q' s with
  | skip => exact hq _ _ h
  | reg ops => exact awOps_mono h (hq _)
  | regD S ops => exact gsK.mono h (hq _)
  | segs l => exact awSegs_mono h (hq _)
  | seq a b iha ihb =>
    exact iha h fun e s' h' => by
      cases e with
      | normal => exact ihb h' hq
      | _ => exact hq _ _ h'
  | cond c a b iha ihb =>
    simp only [aw] at h ⊢
    unfold condK at h ⊢
    split at h
    · exact ⟨fun hb => iha (h.1 hb) hq, fun hb => ihb (h.2 hb) hq⟩
    · exact h
  | block id c ih =>
    exact ih h fun e s' h' => by
      cases e with
      | exit i => simp only [blockA] at h' ⊢; split <;> (rename_i hi; simp only [hi, if_true, if_false] at h'; exact hq _ _ h')
      | _ => exact hq _ _ h'
  | loop c ih =>
    exact fun X hX => h X fun s' h' => hX s' (ih h' fun e s'' h'' => by
      cases e with
      | normal => exact h''
      | _ => exact hq _ _ h'')
  | exit id => exact hq _ _ h
  | ret => exact hq _ _ h
  | bad => exact h
  | kp ks c ih => exact ih h hq
  | ke ks c ih =>
    exact ih h fun e s' h' => by
      cases e with
      | normal => exact hq _ _ h'
      | _ => exact hq _ _ h'
theorem LoopK.round {P : Program} {c : ACode} {Q : AExit → AS → Prop} {s : AS} (h : aw P c (thenA (LoopK (fun Q s => aw P c Q s) Q) Q) s) : LoopK (fun Q s => aw P c Q s) Q s :=
  fun X hX => hX s (aw_mono h fun e s' h' => by
    cases e with
    | normal => exact h' X hX
    | _ => exact h')
theorem LoopK.inv {P : Program} {c : ACode} {Q : AExit → AS → Prop} {s : AS} (I : Nat → AS → Prop) (m : Nat) (h0 : I m s)
    (round : ∀ m s, I m s → aw P c (thenA (fun s' => ∃ m', m' < m ∧ I m' s') Q) s) : LoopK (fun Q s => aw P c Q s) Q s := by
  induction m using Nat.strongRecOn generalizing s with
  | _ m ih =>
    exact LoopK.round (aw_mono (round m s h0) fun e s' h' => by
      cases e with
      | normal => obtain ⟨m', hm, hi⟩ := h'; exact ih m' hm hi
      | _ => exact h')
theorem LoopK.go {P : Program} {c : ACode} {Q : AExit → AS → Prop} {s : AS} (I : Nat → AS → Prop) (m : Nat) (h0 : I m s)
    (round : ∀ m s, I m s → ∀ J : AS → Prop, (∀ m' s', m' < m → I m' s' → J s') → aw P c (thenA J Q) s) : LoopK (fun Q s => aw P c Q s) Q s :=
  LoopK.inv I m h0 fun m s hi => round m s hi _ fun m' s' h1 h2 => ⟨m', h1, h2⟩
end Go.Proofs.YtnmkpadgogbgkaaDoor
