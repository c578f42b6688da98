/- A small machine over plain data: values with their contents, and what a piece of code does to them; no condition. -/
import Derived.Calls
set_option linter.all false
namespace Go.Proofs.YtnfjgphfaemjcaaGreatDoor
inductive Tok where | nil | ro | own (g : Nat)
inductive AV where
 | bool (b : Bool) | int (k : IntKind) (n : Int) | str (s : List UInt8)
 | ptr (g o : Nat) | np | ref (x : AV)
 | sl (sz : Nat) (l : List AV) (t : Tok) | agg (cs : List AV)
 | fn (f : Nat) (fst cap : List AV) | nfn | tup (vs : List AV)
 | mp (g : Nat) | nmp | slm (sz g o n : Nat) | slg (sz g n : Nat) | ub | ifc (t : Nat) (v : AV) | nif | dat (e : TypeId) (l : List AV) | any | und
mutual
def A4 : AV → AV → Prop
 | .sl z l t, y => ∃ z' l' t', y = .sl z' l' t' ∧ (t' = .ro ∨ t' = t) ∧ (z' = z ∨ (l = [] ∧ t' = .ro)) ∧ A5 l l'
 | .agg l, y => ∃ l', y = .agg l' ∧ A5 l l'
 | .tup l, y => ∃ l', y = .tup l' ∧ A5 l l'
 | .ref x, y => ∃ x', y = .ref x' ∧ A4 x x'
 | .ifc t v, y => ∃ v', y = .ifc t v' ∧ A4 v v'
 | .bool b, y => y = .bool b
 | .int k n, y => y = .int k n
 | .str s, y => y = .str s
 | .ptr g o, y => y = .ptr g o
 | .np, y => y = .np
 | .fn f a b, y => y = .fn f a b
 | .nfn, y => y = .nfn
 | .mp g, y => y = .mp g
 | .nmp, y => y = .nmp
 | .slm a b c d, y => y = .slm a b c d
 | .slg a b c, y => y = .slg a b c
 | .ub, y => y = .ub
 | .nif, y => y = .nif
 | .dat e l, y => y = .dat e l
 | .any, y => y = .any
 | .und, y => y = .und
def A5 : List AV → List AV → Prop
 | [], y => y = []
 | x :: xs, y => ∃ x' xs', y = x' :: xs' ∧ A4 x x' ∧ A5 xs xs'
end
mutual
theorem A1 : ∀ x : AV, A4 x x
 | .sl z l t => ⟨z, l, t, rfl, .inr rfl, .inl rfl, A0 l⟩
 | .agg l => ⟨l, rfl, A0 l⟩
 | .tup l => ⟨l, rfl, A0 l⟩
 | .ref x => ⟨x, rfl, A1 x⟩
 | .ifc _ v => ⟨v, rfl, A1 v⟩
 | .bool _ | .int _ _ | .str _ | .ptr _ _ | .np | .fn _ _ _ | .nfn | .mp _ | .nmp | .slm _ _ _ _ | .slg _ _ _ | .ub | .nif | .dat _ _ | .any | .und => rfl
theorem A0 : ∀ l : List AV, A5 l l
 | [] => rfl
 | x :: xs => ⟨x, xs, rfl, A1 x, A0 xs⟩
end
inductive AObj where
 | cells (e : TypeId) (cs : List AV)
 | row (e : TypeId) (m : Nat)
 | map (kk : Option IntKind) (es : List (AV × AV))
 | iter (m len : Nat) (left : List Nat) (cur : Option Nat)
 | grow (e : TypeId) (cs : List AV)
abbrev A3 := Nat → Option AObj
def upd (H : A3) (g : Nat) (x : Option AObj) : A3 := fun k => if k = g then x else H k
abbrev AH := List (Nat × AV)
def get : AH → Nat → AV
 | [], _ => .any
 | (k, v) :: r, t => if k = t then v else get r t
def put (e : AH) (t : Nat) (v : AV) : AH := (t, v) :: e
def EW : AH → Nat → AV → AH
 | [], t, v => [(t, v)]
 | (k, u) :: r, t, v => if k = t then (t, v) :: r else (k, u) :: EW r t v
def AD (e : AH) (d : Option Nat) (v : AV) : AH := match d with | some t => put e t v | none => e
mutual
def Dg (g sz : Nat) (l : List AV) : AV → AV
 | .slg s' g' k => if s' = sz ∧ g' = g ∧ k = l.length then .sl sz l .ro else .slg s' g' k
 | .agg cs => .agg (Gv g sz l cs)
 | .tup vs => .tup (Gv g sz l vs)
 | x => x
def Gv (g sz : Nat) (l : List AV) : List AV → List AV
 | [] => []
 | x :: xs => Dg g sz l x :: Gv g sz l xs
end
def A07 (g sz : Nat) (l : List AV) (e : AH) : AH := e.map fun x => (x.1, Dg g sz l x.2)
def PG (g sz : Nat) (l : List AV) : AObj → AObj
 | .cells e cs => .cells e (Gv g sz l cs)
 | .grow e cs => .grow e (Gv g sz l cs)
 | o => o
def NR (ks : List Nat) (g sz : Nat) (l : List AV) (H : A3) : A3 := fun k => if k = g then none else if k ∈ ks then (H k).map (PG g sz l) else H k
structure AS where
 e : AH
 n : Nat
 H : A3
inductive Opd where | t (i : Nat) | c (v : AV)
def ev (e : AH) : Opd → AV
 | .t i => get e i
 | .c v => v
abbrev Cm := Option Nat
def AV.cells : AV → List AV
 | .agg cs => cs
 | v => [v]
def part (cs : List AV) (o : Nat) : Cm → Option AV
 | none => cs[o]?
 | some s => if o + s ≤ cs.length then some (.agg ((cs.drop o).take s)) else none
def AV.fits : AV → Cm → Bool
 | .agg cs, some s => cs.length == s
 | .agg _, none => false
 | .tup _, _ => false
 | .any, _ => false
 | .und, _ => false
 | .dat _ _, _ => false
 | _, none => true
 | _, some _ => false
inductive FK where | i | b | s
inductive AOp where
 | mv (x : Opd)
 | pick (c a b : Opd)
 | bin (op : BinOp) (x y : Opd)
 | eqs (ks : List FK) (neg : Bool) (x y : Opd)
 | eqb (neg : Bool) (x y : Opd)
 | eqn (neg : Bool) (x : Opd)
 | eqp (neg : Bool) (x : Opd)
 | eqi (neg : Bool) (x : Opd)
 | neg (x : Opd) | not (x : Opd)
 | cvi (k : IntKind) (x : Opd)
 | mkfn (f : Nat) (fst cap : List Opd)
 | cut (sz : Nat) (x : Opd) (lo hi : Option Opd)
 | cutS (x : Opd) (lo hi : Option Opd)
 | faddr (x : Opd) (off : Nat) (s : Cm)
 | field (x : Opd) (off : Nat) (s : Cm)
 | iaddr (sz : Nat) (s : Cm) (x i : Opd)
 | aaddr (len sz : Nat) (s : Cm) (x i : Opd)
 | sidx (x i : Opd)
 | aidx (len sz : Nat) (s : Cm) (x i : Opd)
 | len (x : Opd)
 | lenS (x : Opd)
 | clen (n : Nat)
 | extr (x : Opd) (i : Nat)
 | nilck (x : Opd)
 | load (s : Cm) (x : Opd)
 | build (z : List AV) (ps : List (Nat × Cm × Opd))
 | mm (mx : Bool) (x y : Opd)
 | b2s (x : Opd)
 | r2s (x : Opd)
 | upc (x : Opd)
 | eqpp (neg : Bool) (x y : Opd)
 | updn (u : TypeId) (x : Opd)
 -- what is not covered
 | nope
 | usd (e : TypeId) (x : Opd)
 | ust (e : TypeId) (x n : Opd)
 -- what makes or turns memory
 | alloc (e : TypeId) (z : List AV)
 | box (e : TypeId) (s : Cm) (x : Opd)
 | store (s : Cm) (x v : Opd)
 | bsl (e : TypeId) (s : Cm) (xs : List Opd)
 | app (e : TypeId) (sz by_ : Nat) (x y : Opd)
 | appB (e : TypeId) (by_ : Nat) (x y : Opd)
 | s2b (e : TypeId) (x : Opd)
 | s2s (x : Opd)
 | mkmap (kk : Option IntKind)
 | mset (kk : Option IntKind) (m k v : Opd)
 | rng (x : Opd)
 | mksl (e : TypeId) (by_ : Nat) (z : AV) (x y : Opd)
 | nxt (x : Opd)
 | ent (x : Opd)
 | mget (kk : Option IntKind) (z : AV) (ok : Bool) (m k : Opd)
 | call (f : Nat) (xs : List Opd)
 | callp (f : Nat) (xs : List Opd)
 | callv (f : Opd) (xs : List Opd)
 | dfr (f : Opd) (xs : List Opd)
structure AOper where
 dst : Option Nat
 op : AOp
 guard : Option (Nat × Bool)
structure Seg where
 g : Option (Nat × Bool)
 ops : List AOper
 pk : Option (Nat × Nat)
inductive Mode where | plain | late | last (q : Nat) | free | early | refs | copy
inductive ACode where
 | skip
 | segs (l : List Seg)
 | reg (ops : List AOper)
 | regD (m : Mode) (S : List Nat) (ops : List AOper)
 | seq (a b : ACode)
 | cond (c : Opd) (a b : ACode)
 | block (id : Nat) (c : ACode)
 | loop (c : ACode)
 | exit (id : Nat)
 | ret
 | bad
 | kp (ks : List Nat) (c : ACode)
 | ke (ks : List Nat) (c : ACode)
 | gh (c : ACode)
inductive AExit where | normal | exit (id : Nat) | ret
/-! ### values -/
def E6 (op : BinOp) (k : IntKind) (a b : Int) : Option AV :=
 match op with
 | .shr => if b < 0 then none else some (.int k (a.fdiv (2 ^ (min b.toNat k.bits))))
 | .shl => if b < 0 then none else some (.int k (k.wrap (a * 2 ^ (min b.toNat k.bits))))
 | _ => none
def D8 (op : BinOp) (k : IntKind) (a b : Int) : Option AV :=
 match op with
 | .and => some (.int k (k.wrap (BitVec.ofInt k.bits a &&& BitVec.ofInt k.bits b).toNat))
 | .or => some (.int k (k.wrap (BitVec.ofInt k.bits a ||| BitVec.ofInt k.bits b).toNat))
 | .xor => some (.int k (k.wrap (BitVec.ofInt k.bits a ^^^ BitVec.ofInt k.bits b).toNat))
 | .add => some (.int k (k.wrap (a + b)))
 | .sub => some (.int k (k.wrap (a - b)))
 | .mul => some (.int k (k.wrap (a * b)))
 | .quo => if b = 0 then none else some (.int k (k.wrap (a.tdiv b)))
 | .rem => if b = 0 then none else some (.int k (a.tmod b))
 | .eql => some (.bool (a == b))
 | .neq => some (.bool (a != b))
 | .lss => some (.bool (a < b))
 | .leq => some (.bool (a ≤ b))
 | .gtr => some (.bool (a > b))
 | .geq => some (.bool (a ≥ b))
 | op => E6 op k a b
def CE (op : BinOp) (a b : List UInt8) : Option AV :=
 match op with
 | .add => if ((a.length + b.length : Nat) : Int) > IntKind.i64.max then none else some (.str (a ++ b))
 | .eql => some (.bool (a == b))
 | .neq => some (.bool (!(a == b)))
 | .lss => some (.bool (Op.bytesLess a b))
 | .leq => some (.bool (Op.bytesLess a b || (a == b)))
 | .gtr => some (.bool (!(Op.bytesLess a b || (a == b))))
 | .geq => some (.bool (!Op.bytesLess a b))
 | _ => none
def Da (op : BinOp) : AV → AV → Option AV
 | .int k a, .int k' b => if k = k' then D8 op k a b else E6 op k a b
 | .str a, .str b => CE op a b
 | _, _ => none
def isNil : AV → Option Bool
 | .sl _ _ .nil => some true
 | .sl _ (_ :: _) _ | .sl _ [] (.own _) => some false
 | _ => none
def H9 (ng : Bool) : AV → Option AV
 | .sl _ [] .ro => some .ub
 | v => (isNil v).map fun t => .bool (if ng then !t else t)
def Cu : AV → Option Bool
 | .np => some true
 | .ptr _ _ => some false
 | _ => none
def D4 : AV → Option Bool
 | .nif => some true
 | .ifc _ _ => some false
 | _ => none
def CH : List FK → List AV → List AV → Option Bool
 | [], [], [] => some true
 | .i :: ks, .int k a :: r, .int k' b :: r' => if k = k' then (CH ks r r').map ((a == b) && ·) else none
 | .s :: ks, .str a :: r, .str b :: r' => (CH ks r r').map ((a == b) && ·)
 | .b :: ks, .bool a :: r, .bool b :: r' => (CH ks r r').map ((a == b) && ·)
 | _, _, _ => none
def EV (lo hi : Option AV) (len : Nat) : Option (Nat × Nat) :=
 match (match hi with | none => some (len : Int) | some (.int _ h) => some h | _ => none), (match lo with | none => some 0 | some (.int _ l) => some l | _ => none) with
 | some h, some l => if 0 ≤ l ∧ l ≤ h ∧ h ≤ len then some (l.toNat, h.toNat) else none
 | _, _ => none
def EN (x : AV) (lo hi : Option AV) : Option AV :=
 match x with
 | .str s => (EV lo hi s.length).map fun (l, h) => .str ((s.take h).drop l)
 | _ => none
def Ha (sz : Nat) (x : AV) (lo hi : Option AV) : Option AV :=
 match x with
 | .sl z xs _ => if z = sz ∨ xs = [] then (EV lo hi xs.length).map fun (l, h) => .sl sz ((xs.take h).drop l) .ro else none
 | .slg z g n => if z = sz then (EV lo hi n).bind fun (l, h) => if l = 0 then some (.slg sz g h) else none else none
 | _ => none
def Gz (x : AV) (off : Nat) (s : Cm) : Option AV :=
 match x with
 | .ptr g o => some (.ptr g (o + off))
 | .ref (.agg cs) => (part cs off s).map .ref
 | _ => none
def Cy (sz : Nat) (s : Cm) (x i : AV) : Option AV :=
 match x, i with
 | .sl z l _, .int _ j => if z = sz ∧ 0 ≤ j then (match l[j.toNat]? with | some y => if y.fits s then some (.ref y) else none | none => none) else none
 | .slm z g o n, .int _ j => if z = sz ∧ 0 ≤ j ∧ j < n then some (.ptr g (o + j.toNat * sz)) else none
 | .slg z g n, .int _ j => if z = sz ∧ 0 ≤ j ∧ j < n then some (.ptr g (j.toNat * sz)) else none
 | _, _ => none
def Gc (len sz : Nat) (s : Cm) (x i : AV) : Option AV :=
 match x, i with
 | .ptr g o, .int _ j => if 0 ≤ j ∧ j < len then some (.ptr g (o + j.toNat * sz)) else none
 | .ref (.agg cs), .int _ j => if 0 ≤ j ∧ j < len then (part cs (j.toNat * sz) s).map .ref else none
 | _, _ => none
def Ap (H : A3) (s : Cm) : AV → Option AV
 | .ptr g o => match H g with
  | some (.cells _ cs) => part cs o s
  | some (.grow _ cs) => part cs o s
  | _ => none
 | .ref x => if x.fits s then some x else none
 | _ => none
def Fo : List AV → List (Nat × AV) → List AV
 | cs, [] => cs
 | cs, (o, v) :: ps => Fo (cs.take o ++ v.cells ++ cs.drop (o + v.cells.length)) ps
def FA : Nat → List (Nat × Cm × AV) → Bool
 | _, [] => true
 | n, (o, s, v) :: ps => v.fits s && decide (o + v.cells.length ≤ n) && FA n ps
def bytesOf : List AV → Option (List UInt8)
 | [] => some []
 | .int .u8 n :: r => (bytesOf r).map (UInt8.ofNat n.toNat :: ·)
 | _ => none
def E5 (H : A3) : AV → Option AV
 | .ptr g o => match H g with
  | some (.cells _ cs) => if o < cs.length then some (.ptr g o) else none
  | _ => none
 | _ => none
def E7 (H : A3) (e : TypeId) : AV → Option AV
 | .sl _ [] .nil => some (.dat e [])
 | .sl z (x :: l) (.own g) => match H g with
  | some (.row e' _) => if e' = e ∧ z = 1 then some (.dat e (x :: l)) else none
  | _ => none
 | _ => none
def KA : Nat := 9223372036854775807
def QX : AV → Bool
 | .int .u8 n => decide (0 ≤ n) && decide (n ≤ 255)
 | _ => false
def DQ (e : TypeId) : AV → AV → Option AV
 | .dat e' l, .int .i64 n => if e' = e ∧ n = (l.length : Int) ∧ l.length ≤ KA ∧ l.all QX = true then (bytesOf l).map .str else none
 | _, _ => none
def DZ : AV → AV → Bool
 | .int k a, .int k' b => decide (k = k') && decide (a = b)
 | .str a, .str b => decide (a = b)
 | _, _ => false
def BN : Option IntKind → AV → Bool
 | some k, .int k' _ => decide (k = k')
 | none, .str _ => true
 | _, _ => false
def BR (k : AV) : List (AV × AV) → Option AV
 | [] => none
 | e :: es => if DZ k e.1 then some e.2 else BR k es
def C0 (k v : AV) : List (AV × AV) → List (AV × AV)
 | [] => [(k, v)]
 | e :: es => if DZ k e.1 then (k, v) :: es else e :: C0 k v es
def DY (H : A3) (kk : Option IntKind) (z : AV) (ok : Bool) : AV → AV → Option AV
 | .mp g, k => match H g with
  | some (.map kk' es) => if kk' = kk ∧ BN kk k = true then some (if ok then .tup [(BR k es).getD z, .bool (BR k es).isSome] else (BR k es).getD z) else none
  | _ => none
 | .nmp, k => if BN kk k = true then some (if ok then .tup [z, .bool false] else z) else none
 | _, _ => none
def Gt (H : A3) : AV → Option AV
 | .ptr g o => if o = 0 then match H g with
  | some (.iter m len _ (some j)) => match H m with
   | some (.map _ es) => if es.length = len then (es[j]?).map fun x => .tup [x.1, x.2] else none
   | _ => none
  | _ => none else none
 | _ => none
def pe (op : AOp) (e : AH) (H : A3) : Option AV :=
 match op with
 | .mv x => some (ev e x)
 | .pick c a b => match ev e c with | .bool t => some (if t then ev e a else ev e b) | _ => none
 | .bin op x y => Da op (ev e x) (ev e y)
 | .eqs ks ng x y => match ev e x, ev e y with | .agg a, .agg b => (CH ks a b).map fun t => .bool (if ng then !t else t) | _, _ => none
 | .eqb ng x y => match ev e x, ev e y with | .bool a, .bool b => some (.bool (if ng then !(a == b) else a == b)) | _, _ => none
 | .eqn ng x => H9 ng (ev e x)
 | .eqp ng x => (Cu (ev e x)).map fun t => .bool (if ng then !t else t)
 | .eqi ng x => (D4 (ev e x)).map fun t => .bool (if ng then !t else t)
 | .neg x => match ev e x with | .int k n => some (.int k (k.wrap (0 - n))) | _ => none
 | .not x => match ev e x with | .bool b => some (.bool (!b)) | _ => none
 | .cvi k x => match ev e x with | .int _ n => some (.int k (k.wrap n)) | _ => none
 | .mkfn f a b => some (.fn f (a.map (ev e)) (b.map (ev e)))
 | .cutS x lo hi => EN (ev e x) (lo.map (ev e)) (hi.map (ev e))
 | .cut sz x lo hi => Ha sz (ev e x) (lo.map (ev e)) (hi.map (ev e))
 | .faddr x off s => Gz (ev e x) off s
 | .field x off s => match ev e x with | .agg cs => part cs off s | _ => none
 | .iaddr sz s x i => Cy sz s (ev e x) (ev e i)
 | .aaddr len sz s x i => Gc len sz s (ev e x) (ev e i)
 | .sidx x i => match ev e x, ev e i with | .str s, .int _ j => if 0 ≤ j then (s[j.toNat]?).map fun b => .int .u8 b.toNat else none | _, _ => none
 | .aidx len sz s x i => match ev e x, ev e i with | .agg cs, .int _ j => if 0 ≤ j ∧ j < len then part cs (j.toNat * sz) s else none | _, _ => none
 | .len x => match ev e x with | .sl _ l _ => some (.int .i64 l.length) | .slm _ _ _ n => some (.int .i64 n) | .slg _ _ n => some (.int .i64 n) | _ => none
 | .lenS x => match ev e x with | .str s => some (.int .i64 s.length) | _ => none
 | .clen n => some (.int .i64 n)
 | .extr x i => match ev e x with | .tup vs => vs[i]? | _ => none
 | .nilck x => match ev e x with | .ptr g o => some (.ptr g o) | .ref x => some (.ref x) | .fn f a b => if a.isEmpty then some (.fn f a b) else none | _ => none
 | .load s x => Ap H s (ev e x)
 | .build z ps => if FA z.length (ps.map fun (o, s, x) => (o, s, ev e x)) then some (.agg (Fo z (ps.map fun (o, _, x) => (o, ev e x)))) else none
 | .mm mx x y => match ev e x, ev e y with | .int k a, .int k' b => if k = k' then some (.int k (if mx then max a b else min a b)) else none | _, _ => none
 | .b2s x => match ev e x with | .sl _ l _ => (bytesOf l).map .str | _ => none
 | .r2s x => match ev e x with | .int _ n => some (.str (Utf8.encode n).data.toList) | _ => none
 | .upc x => E5 H (ev e x)
 | .usd el x => E7 H el (ev e x)
 | .eqpp ng x y => match ev e x, ev e y with | .ptr g o, .ptr g' o' => if g = g' then some (.bool (if ng then !(decide (o = o')) else decide (o = o'))) else none | _, _ => none
 | .mget kk z ok m k => DY H kk z ok (ev e m) (ev e k)
 | .ent x => Gt H (ev e x)
 | _ => none
def K1 (o : Option AV) (k : AV → Prop) : Prop := match o with | some v => k v | none => False
end Go.Proofs.YtnfjgphfaemjcaaGreatDoor
