/- A small machine over plain data: values with their contents, and what a piece of code does to them; no condition. -/
import Derived.Calls
set_option linter.all false
set_option linter.unusedSimpArgs false
set_option linter.unusedVariables false
namespace Go.Proofs.YtnmkpadgogbgkaaDoor

/-- whose memory a slice has: none (nil), memory that only is read, or a block of the call's own, to which may be appended -/
inductive Tok where | nil | ro | own (g : Nat)

inductive AV where
  | bool (b : Bool) | int (k : IntKind) (n : Int) | str (s : List UInt8)
  | ptr (g o : Nat) | np | ref (x : AV)
  | sl (sz : Nat) (l : List AV) (t : Tok) | agg (cs : List AV)
  | fn (f : Nat) (fst cap : List AV) | nfn | tup (vs : List AV)
  | mp (g : Nat) | nmp | ifc (t : Nat) (v : AV) | nif | dat (e : TypeId) (l : List AV) | any | und

mutual
/-- the second says no more than the first: whose memory a slice has may be left out, and of no cells how large they are -/
def simA : AV → AV → Prop
  | .sl z l t, y => ∃ z' l' t', y = .sl z' l' t' ∧ (t' = .ro ∨ t' = t) ∧ (z' = z ∨ (l = [] ∧ t' = .ro)) ∧ simL l l'
  | .agg l, y => ∃ l', y = .agg l' ∧ simL l l'
  | .tup l, y => ∃ l', y = .tup l' ∧ simL l l'
  | .ref x, y => ∃ x', y = .ref x' ∧ simA x x'
  | .ifc t v, y => ∃ v', y = .ifc t v' ∧ simA v v'
  | .bool b, y => y = .bool b
  | .int k n, y => y = .int k n
  | .str s, y => y = .str s
  | .ptr g o, y => y = .ptr g o
  | .np, y => y = .np
  | .fn f a b, y => y = .fn f a b
  | .nfn, y => y = .nfn
  | .mp g, y => y = .mp g
  | .nmp, y => y = .nmp
  | .nif, y => y = .nif
  | .dat e l, y => y = .dat e l
  | .any, y => y = .any
  | .und, y => y = .und
def simL : List AV → List AV → Prop
  | [], y => y = []
  | x :: xs, y => ∃ x' xs', y = x' :: xs' ∧ simA x x' ∧ simL xs xs'
end
mutual
theorem simA_refl : ∀ x : AV, simA x x
  | .sl z l t => ⟨z, l, t, rfl, .inr rfl, .inl rfl, simL_refl l⟩
  | .agg l => ⟨l, rfl, simL_refl l⟩
  | .tup l => ⟨l, rfl, simL_refl l⟩
  | .ref x => ⟨x, rfl, simA_refl x⟩
  | .ifc _ v => ⟨v, rfl, simA_refl v⟩
  | .bool _ | .int _ _ | .str _ | .ptr _ _ | .np | .fn _ _ _ | .nfn | .mp _ | .nmp | .nif | .dat _ _ | .any | .und => rfl
theorem simL_refl : ∀ l : List AV, simL l l
  | [] => rfl
  | x :: xs => ⟨x, xs, rfl, simA_refl x, simL_refl xs⟩
end

inductive AObj where
  | cells (e : TypeId) (cs : List AV)
  | row (e : TypeId) (m : Nat)
  | map (kk : Option IntKind) (es : List (AV × AV))

abbrev AHeap := Nat → Option AObj
def upd (H : AHeap) (g : Nat) (x : Option AObj) : AHeap := fun k => if k = g then x else H k

abbrev AEnv := List (Nat × AV)
def get : AEnv → Nat → AV
  | [], _ => .any
  | (k, v) :: r, t => if k = t then v else get r t
def put : AEnv → Nat → AV → AEnv
  | [], t, v => [(t, v)]
  | (k, u) :: r, t, v => if k = t then (t, v) :: r else (k, u) :: put r t v
def putO (e : AEnv) (d : Option Nat) (v : AV) : AEnv := match d with | some t => put e t v | none => e

structure AS where
  e : AEnv
  n : Nat
  H : AHeap

inductive Opd where | t (i : Nat) | c (v : AV)
def ev (e : AEnv) : Opd → AV
  | .t i => get e i
  | .c v => v

/-- one cell, or an aggregate of some cells -/
abbrev Shp := Option Nat

def AV.cells : AV → List AV
  | .agg cs => cs
  | v => [v]
/-- the part at a place -/
def part (cs : List AV) (o : Nat) : Shp → Option AV
  | none => cs[o]?
  | some s => if o + s ≤ cs.length then some (.agg ((cs.drop o).take s)) else none
/-- the value is of that shape -/
def AV.fits : AV → Shp → Bool
  | .agg cs, some s => cs.length == s
  | .agg _, none => false
  | .tup _, _ => false
  | .any, _ => false
  | .und, _ => false
  | .dat _ _, _ => false
  | _, none => true
  | _, some _ => false

/-- a plain field -/
inductive FK where | i | b | s
inductive AOp where
  | mv (x : Opd)
  | pick (c a b : Opd)
  | bin (op : BinOp) (x y : Opd)
  | eqs (ks : List FK) (neg : Bool) (x y : Opd)
  | eqb (neg : Bool) (x y : Opd)
  | eqn (neg : Bool) (x : Opd)
  | eqp (neg : Bool) (x : Opd)
  | neg (x : Opd) | not (x : Opd)
  | cvi (k : IntKind) (x : Opd)
  | mkfn (f : Nat) (fst cap : List Opd)
  | cut (sz : Nat) (x : Opd) (lo hi : Option Opd)
  | cutS (x : Opd) (lo hi : Option Opd)
  | faddr (x : Opd) (off : Nat) (s : Shp)
  | field (x : Opd) (off : Nat) (s : Shp)
  | iaddr (sz : Nat) (s : Shp) (x i : Opd)
  | aaddr (len sz : Nat) (s : Shp) (x i : Opd)
  | sidx (x i : Opd)
  | aidx (len sz : Nat) (s : Shp) (x i : Opd)
  | len (x : Opd)
  | lenS (x : Opd)
  | clen (n : Nat)
  | extr (x : Opd) (i : Nat)
  | nilck (x : Opd)
  | load (s : Shp) (x : Opd)
  | build (z : List AV) (ps : List (Nat × Shp × Opd))
  | mm (mx : Bool) (x y : Opd)
  | b2s (x : Opd)
  | r2s (x : Opd)
  | upc (x : Opd)
  | eqpp (neg : Bool) (x y : Opd)
  | updn (u : TypeId) (x : Opd)
  -- what is not covered
  | nope
  | usd (e : TypeId) (x : Opd)
  | ust (e : TypeId) (x n : Opd)
  -- what makes or turns memory
  | alloc (e : TypeId) (z : List AV)
  | box (e : TypeId) (s : Shp) (x : Opd)
  | store (s : Shp) (x v : Opd)
  | bsl (e : TypeId) (s : Shp) (xs : List Opd)
  | app (e : TypeId) (sz by_ : Nat) (x y : Opd)
  | appB (e : TypeId) (by_ : Nat) (x y : Opd)
  | s2b (e : TypeId) (x : Opd)
  | s2s (x : Opd)
  | mkmap (kk : Option IntKind)
  | mset (kk : Option IntKind) (m k v : Opd)
  | mget (kk : Option IntKind) (z : AV) (ok : Bool) (m k : Opd)
  | call (f : Nat) (xs : List Opd)
  | callp (f : Nat) (xs : List Opd)
  | callv (f : Opd) (xs : List Opd)

structure AOper where
  dst : Option Nat
  op : AOp
  guard : Option (Nat × Bool)

/-- operations of a region, none of which has a guard of its own; they may have one in common -/
structure Seg where
  g : Option (Nat × Bool)
  ops : List AOper
  pk : Option (Nat × Nat)
inductive ACode where
  | skip
  | segs (l : List Seg)
  | reg (ops : List AOper)
  | regD (S : List Nat) (ops : List AOper)
  | seq (a b : ACode)
  | cond (c : Opd) (a b : ACode)
  | block (id : Nat) (c : ACode)
  | loop (c : ACode)
  | exit (id : Nat)
  | ret
  | bad
  | kp (ks : List Nat) (c : ACode)
  | ke (ks : List Nat) (c : ACode)

inductive AExit where | normal | exit (id : Nat) | ret

/-! ### values -/
def intBin (op : BinOp) (k : IntKind) (a b : Int) : Option AV :=
  match op with
  | .add => some (.int k (k.wrap (a + b)))
  | .sub => some (.int k (k.wrap (a - b)))
  | .mul => some (.int k (k.wrap (a * b)))
  | .quo => if b = 0 then none else some (.int k (k.wrap (a.tdiv b)))
  | .rem => if b = 0 then none else some (.int k (a.tmod b))
  | .eql => some (.bool (a == b))
  | .neq => some (.bool (a != b))
  | .lss => some (.bool (a < b))
  | .leq => some (.bool (a ≤ b))
  | .gtr => some (.bool (a > b))
  | .geq => some (.bool (a ≥ b))
  | _ => none
def strBin (op : BinOp) (a b : List UInt8) : Option AV :=
  match op with
  | .add => if ((a.length + b.length : Nat) : Int) > IntKind.i64.max then none else some (.str (a ++ b))
  | .eql => some (.bool (a == b))
  | .neq => some (.bool (!(a == b)))
  | .lss => some (.bool (Op.bytesLess a b))
  | .leq => some (.bool (Op.bytesLess a b || (a == b)))
  | .gtr => some (.bool (!(Op.bytesLess a b || (a == b))))
  | .geq => some (.bool (!Op.bytesLess a b))
  | _ => none
def binAV (op : BinOp) : AV → AV → Option AV
  | .int k a, .int k' b => if k = k' then intBin op k a b else none
  | .str a, .str b => strBin op a b
  | _, _ => none
def isNil : AV → Option Bool
  | .sl _ _ .nil => some true
  | .sl _ (_ :: _) _ | .sl _ [] (.own _) => some false
  | _ => none
def isNilP : AV → Option Bool
  | .np => some true
  | .ptr _ _ => some false
  | _ => none
/-- two rows of plain cells -/
def xz3p : List FK → List AV → List AV → Option Bool
  | [], [], [] => some true
  | .i :: ks, .int k a :: r, .int k' b :: r' => if k = k' then (xz3p ks r r').map ((a == b) && ·) else none
  | .s :: ks, .str a :: r, .str b :: r' => (xz3p ks r r').map ((a == b) && ·)
  | .b :: ks, .bool a :: r, .bool b :: r' => (xz3p ks r r').map ((a == b) && ·)
  | _, _, _ => none
def cutB (lo hi : Option AV) (len : Nat) : Option (Nat × Nat) :=
  match (match hi with | none => some (len : Int) | some (.int _ h) => some h | _ => none), (match lo with | none => some 0 | some (.int _ l) => some l | _ => none) with
  | some h, some l => if 0 ≤ l ∧ l ≤ h ∧ h ≤ len then some (l.toNat, h.toNat) else none
  | _, _ => none
def cutSV (x : AV) (lo hi : Option AV) : Option AV :=
  match x with
  | .str s => (cutB lo hi s.length).map fun (l, h) => .str ((s.take h).drop l)
  | _ => none
def cutAV (sz : Nat) (x : AV) (lo hi : Option AV) : Option AV :=
  match x with
  | .sl z xs _ => if z = sz ∨ xs = [] then (cutB lo hi xs.length).map fun (l, h) => .sl sz ((xs.take h).drop l) .ro else none
  | _ => none
def xz33 (x : AV) (off : Nat) (s : Shp) : Option AV :=
  match x with
  | .ptr g o => some (.ptr g (o + off))
  | .ref (.agg cs) => (part cs off s).map .ref
  | _ => none
def iaddrAV (sz : Nat) (s : Shp) (x i : AV) : Option AV :=
  match x, i with
  | .sl z l _, .int _ j => if z = sz ∧ 0 ≤ j then (match l[j.toNat]? with | some y => if y.fits s then some (.ref y) else none | none => none) else none
  | _, _ => none
def xz35 (len sz : Nat) (s : Shp) (x i : AV) : Option AV :=
  match x, i with
  | .ptr g o, .int _ j => if 0 ≤ j ∧ j < len then some (.ptr g (o + j.toNat * sz)) else none
  | .ref (.agg cs), .int _ j => if 0 ≤ j ∧ j < len then (part cs (j.toNat * sz) s).map .ref else none
  | _, _ => none
def loadAV (H : AHeap) (s : Shp) : AV → Option AV
  | .ptr g o => match H g with
    | some (.cells _ cs) => part cs o s
    | _ => none
  | .ref x => if x.fits s then some x else none
  | _ => none
def xz3o : List AV → List (Nat × AV) → List AV
  | cs, [] => cs
  | cs, (o, v) :: ps => xz3o (cs.take o ++ v.cells ++ cs.drop (o + v.cells.length)) ps
def xz3n : Nat → List (Nat × Shp × AV) → Bool
  | _, [] => true
  | n, (o, s, v) :: ps => v.fits s && decide (o + v.cells.length ≤ n) && xz3n n ps
def bytesOf : List AV → Option (List UInt8)
  | [] => some []
  | .int .u8 n :: r => (bytesOf r).map (UInt8.ofNat n.toNat :: ·)
  | _ => none

/-- a pointer into memory of the call's own -/
def upcAV (H : AHeap) : AV → Option AV
  | .ptr g o => match H g with
    | some (.cells _ cs) => if o < cs.length then some (.ptr g o) else none
    | _ => none
  | _ => none
/-- where a slice's bytes lie -/
def usdAV (H : AHeap) (e : TypeId) : AV → Option AV
  | .sl _ [] .nil => some (.dat e [])
  | .sl z (x :: l) (.own g) => match H g with
    | some (.row e' _) => if e' = e ∧ z = 1 then some (.dat e (x :: l)) else none
    | _ => none
  | _ => none
/-- no length is greater -/
def bigLen : Nat := 9223372036854775807
/-- the string of the bytes that lie there -/
def u8ok : AV → Bool
  | .int .u8 n => decide (0 ≤ n) && decide (n ≤ 255)
  | _ => false
def ustAV (e : TypeId) : AV → AV → Option AV
  | .dat e' l, .int .i64 n => if e' = e ∧ n = (l.length : Int) ∧ l.length ≤ bigLen ∧ l.all u8ok = true then (bytesOf l).map .str else none
  | _, _ => none
/-- two keys of maps, where they are of such a kind -/
def keyEq : AV → AV → Bool
  | .int k a, .int k' b => decide (k = k') && decide (a = b)
  | .str a, .str b => decide (a = b)
  | _, _ => false
/-- keys are integers of this kind, or strings -/
def keyOkK : Option IntKind → AV → Bool
  | some k, .int k' _ => decide (k = k')
  | none, .str _ => true
  | _, _ => false
def mfind (k : AV) : List (AV × AV) → Option AV
  | [] => none
  | e :: es => if keyEq k e.1 then some e.2 else mfind k es
def msetL (k v : AV) : List (AV × AV) → List (AV × AV)
  | [] => [(k, v)]
  | e :: es => if keyEq k e.1 then (k, v) :: es else e :: msetL k v es
/-- what a map holds for a key -/
def mgetV (H : AHeap) (kk : Option IntKind) (z : AV) (ok : Bool) : AV → AV → Option AV
  | .mp g, k => match H g with
    | some (.map kk' es) => if kk' = kk ∧ keyOkK kk k = true then some (if ok then .tup [(mfind k es).getD z, .bool (mfind k es).isSome] else (mfind k es).getD z) else none
    | _ => none
  | .nmp, k => if keyOkK kk k = true then some (if ok then .tup [z, .bool false] else z) else none
  | _, _ => none
/-- what only computes -/
def pe (op : AOp) (e : AEnv) (H : AHeap) : Option AV :=
  match op with
  | .mv x => some (ev e x)
  | .pick c a b => match ev e c with | .bool t => some (if t then ev e a else ev e b) | _ => none
  | .bin op x y => binAV op (ev e x) (ev e y)
  | .eqs ks ng x y => match ev e x, ev e y with | .agg a, .agg b => (xz3p ks a b).map fun t => .bool (if ng then !t else t) | _, _ => none
  | .eqb ng x y => match ev e x, ev e y with | .bool a, .bool b => some (.bool (if ng then !(a == b) else a == b)) | _, _ => none
  | .eqn ng x => (isNil (ev e x)).map fun t => .bool (if ng then !t else t)
  | .eqp ng x => (isNilP (ev e x)).map fun t => .bool (if ng then !t else t)
  | .neg x => match ev e x with | .int k n => some (.int k (k.wrap (0 - n))) | _ => none
  | .not x => match ev e x with | .bool b => some (.bool (!b)) | _ => none
  | .cvi k x => match ev e x with | .int _ n => some (.int k (k.wrap n)) | _ => none
  | .mkfn f a b => some (.fn f (a.map (ev e)) (b.map (ev e)))
  | .cutS x lo hi => cutSV (ev e x) (lo.map (ev e)) (hi.map (ev e))
  | .cut sz x lo hi => cutAV sz (ev e x) (lo.map (ev e)) (hi.map (ev e))
  | .faddr x off s => xz33 (ev e x) off s
  | .field x off s => match ev e x with | .agg cs => part cs off s | _ => none
  | .iaddr sz s x i => iaddrAV sz s (ev e x) (ev e i)
  | .aaddr len sz s x i => xz35 len sz s (ev e x) (ev e i)
  | .sidx x i => match ev e x, ev e i with | .str s, .int _ j => if 0 ≤ j then (s[j.toNat]?).map fun b => .int .u8 b.toNat else none | _, _ => none
  | .aidx len sz s x i => match ev e x, ev e i with | .agg cs, .int _ j => if 0 ≤ j ∧ j < len then part cs (j.toNat * sz) s else none | _, _ => none
  | .len x => match ev e x with | .sl _ l _ => some (.int .i64 l.length) | _ => none
  | .lenS x => match ev e x with | .str s => some (.int .i64 s.length) | _ => none
  | .clen n => some (.int .i64 n)
  | .extr x i => match ev e x with | .tup vs => vs[i]? | _ => none
  | .nilck x => match ev e x with | .ptr g o => some (.ptr g o) | .ref x => some (.ref x) | .fn f a b => if a.isEmpty then some (.fn f a b) else none | _ => none
  | .load s x => loadAV H s (ev e x)
  | .build z ps => if xz3n z.length (ps.map fun (o, s, x) => (o, s, ev e x)) then some (.agg (xz3o z (ps.map fun (o, _, x) => (o, ev e x)))) else none
  | .mm mx x y => match ev e x, ev e y with | .int k a, .int k' b => if k = k' then some (.int k (if mx then max a b else min a b)) else none | _, _ => none
  | .b2s x => match ev e x with | .sl _ l _ => (bytesOf l).map .str | _ => none
  | .r2s x => match ev e x with | .int _ n => some (.str (Utf8.encode n).data.toList) | _ => none
  | .upc x => upcAV H (ev e x)
  | .usd el x => usdAV H el (ev e x)
  | .eqpp ng x y => match ev e x, ev e y with | .ptr g o, .ptr g' o' => if g = g' then some (.bool (if ng then !(decide (o = o')) else decide (o = o'))) else none | _, _ => none
  | .mget kk z ok m k => mgetV H kk z ok (ev e m) (ev e k)
  | _ => none

/-- behind a value that may be missing -/
def K1 (o : Option AV) (k : AV → Prop) : Prop := match o with | some v => k v | none => False

end Go.Proofs.YtnmkpadgogbgkaaDoor
