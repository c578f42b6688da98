/- From the program's operations to those on plain data; no condition. -/
import Derived.Test.YtnmkpadgogbgkaaDoorAmSem
set_option linter.all false
set_option linter.unusedSimpArgs false
set_option linter.unusedVariables false
namespace Go.Proofs.YtnmkpadgogbgkaaDoor

/-- the name of internal/abi's NoEscape -/
def noescN : String := match Extern.AbiNoEscape.rows with | x :: _ => x.1 | [] => ""
def cv0 : Value → Option AV
  | .bool b => some (.bool b)
  | .int k n => some (.int k n)
  | .string s => some (.str s.data.toList)
  | .slice none 0 0 => some (.sl 0 [] .nil)
  | .pointer none => some .np
  | .nilFunc => some .nfn
  | .map none => some .nmp
  | .nilIface => some .nif
  | _ => none
def cvL : List Value → Option (List AV)
  | [] => some []
  | v :: vs => match cv0 v, cvL vs with | some x, some xs => some (x :: xs) | _, _ => none
def cv : Value → Option AV
  | .agg cs => (cvL cs.toList).map .agg
  | v => cv0 v
def opd : Operand → Option Opd
  | .tmp t => some (.t t)
  | .const v => (cv v).map .c
  | .func f => some (.c (.fn f [] []))
  | .global _ => none
def opds : List Operand → Option (List Opd)
  | [] => some []
  | x :: xs => match opd x, opds xs with | some a, some as => some (a :: as) | _, _ => none
/-- the kind of a map's keys -/
def mkind (P : Program) (k : TypeId) : Option (Option IntKind) := match P.underlying k with
  | some (.int kk) => some (some kk)
  | some .string => some none
  | _ => none
def shp (P : Program) (t : TypeId) : Option Shp :=
  match P.underlying t with
  | some (.struct _) | some (.array _ _) => some (some (szP P t))
  | some _ => some none
  | none => none
/-- the type's shape, if its size is that of the shape -/
def shpOk (P : Program) (t : TypeId) : Option Shp :=
  match shp P t with
  | some s => if shpSz s = szP P t ∧ 0 < szP P t ∧ (P.info? t).isSome then some s else none
  | none => none
def zeroOf (P : Program) (t : TypeId) : Option (List AV) :=
  match (P.info? t).bind (·.zero) with
  | some z => cvL z.cells.toList
  | none => none
def bparts (P : Program) (fields : Array Field) : List (Nat × Operand) → Option (List (Nat × Shp × Opd))
  | [] => some []
  | (i, x) :: ps => match fields[i]?, opd x, bparts P fields ps with
    | some f, some a, some r => match shpOk P f.type with | some s => some ((f.offset, s, a) :: r) | none => none
    | _, _, _ => none
def aparts (e : Shp) (size : Nat) : List (Nat × Operand) → Option (List (Nat × Shp × Opd))
  | [] => some []
  | (i, x) :: ps => match opd x, aparts e size ps with
    | some a, some r => some ((i * size, e, a) :: r)
    | _, _ => none
def sparts (i : Nat) : List (Nat × Operand) → Option (List Opd)
  | [] => some []
  | (j, x) :: ps => if j = i then (match opd x, sparts (i + 1) ps with | some a, some r => some (a :: r) | _, _ => none) else none
/-- a struct of plain fields, one cell each -/
def plainFields (P : Program) : Nat → List Field → Option (List FK)
  | _, [] => some []
  | i, f :: fs => if f.offset = i ∧ f.name ≠ "_" then
      (match P.underlying f.type, plainFields P (i + 1) fs with
      | some (.int _), some ks => some (.i :: ks)
      | some .bool, some ks => some (.b :: ks)
      | some .string, some ks => some (.s :: ks)
      | _, _ => none) else none
def plainStruct (P : Program) (t : TypeId) (fs : Array Field) : Option (List FK) :=
  if P.stoodInHeld t = false ∧ P.eqGuardType P.depth t = false then plainFields P 0 fs.toList else none
def optOpd : Option Operand → Option (Option Opd)
  | none => some none
  | some x => (opd x).map some

def isStr (P : Program) (u : TypeId) : Bool := match P.underlying u with | some .string => true | _ => false
def cBuiltin (P : Program) : Builtin → List Operand → List TypeId → Option AOp
  | .len, [x], [t] => match P.underlying t, opd x with
    | some .string, some x => some (.lenS x)
    | some (.slice _), some x => some (.len x)
    | some (.array n _), some _ => some (.clen n)
    | _, _ => none
  | .append, [x, y], [t, u] => match P.underlying t, opd x, opd y with
    | some (.slice e), some x, some y => match P.info? e with
      | some i => if 0 < i.size ∧ (i.zero.map fun z => z.cells.size) = some i.size then (if u = t then some (.app e i.size i.bytes x y) else if isStr P u = true ∧ i.size = 1 then some (.appB e i.bytes x y) else none) else none
      | none => none
    | _, _, _ => none
  | .unsafeSliceData, [x], [t] => match P.underlying t, opd x with
    | some (.slice e), some x => some (.usd e x)
    | _, _ => none
  | .unsafeString, [x, n], [t, _] => match P.underlying t, opd x, opd n with
    | some (.pointer e), some x, some n => if P.cellsOf e = 1 ∧ (P.info? e).isSome then some (.ust e x n) else none
    | _, _, _ => none
  | .max, [x, y], [_, _] => match opd x, opd y with
    | some x, some y => some (.mm true x y)
    | _, _ => none
  | .min, [x, y], [_, _] => match opd x, opd y with
    | some x, some y => some (.mm false x y)
    | _, _ => none
  | _, _, _ => none
def cCall (P : Program) (ef : List Nat) (c : Call) : Option AOp :=
  match c.callee with
  | .value (.func f) => match opds c.args.toList with
    | some xs => match P.funcs[f]? with
      | some fn => if fn.body.isSome && fn.name != "runtime.NumGoroutine" then some (if ef.contains f then .call f xs else .callp f xs) else (match xs with | [x] => if fn.body.isNone && fn.name == noescN && fn.origin == "" then some (.mv x) else none | _ => none)
      | none => none
    | none => none
  | .value (.tmp t) => match opds c.args.toList with | some xs => some (.callv (.t t) xs) | none => none
  | .builtin b => cBuiltin P b c.args.toList c.argTypes.toList
  | _ => none
def cPtrEq (P : Program) (el : TypeId) (op : BinOp) (y : Operand) (x' y' : Opd) : Option AOp :=
  match op, y with
  | .eql, .const (.pointer none) => some (.eqp false x')
  | .neq, .const (.pointer none) => some (.eqp true x')
  | .eql, .tmp _ => if (P.info? el).isSome ∧ szP P el ≠ 0 then some (.eqpp false x' y') else none
  | .neq, .tmp _ => if (P.info? el).isSome ∧ szP P el ≠ 0 then some (.eqpp true x' y') else none
  | _, _ => none
def cOp (P : Program) (ef : List Nat) (op : Op) : Option AOp :=
  match op with
  | .move x | .assign x => (opd x).map .mv
  | .pick c a b => match opd c, opd a, opd b with | some c, some a, some b => some (.pick c a b) | _, _, _ => none
  | .alloc e => match zeroOf P e with | some z => some (.alloc e z) | none => none
  | .box e x => match shpOk P e, opd x with | some s, some x => some (.box e s x) | _, _ => none
  | .build t ps => match P.underlying t, zeroOf P t with
    | some (.struct fs), some z => if (fs.toList.mapM (fun f => (P.info? f.type).map fun i => (f.offset, i.size))).isSome then (bparts P fs ps.toList).map (.build z) else none
    | some (.array _ e), some z => match shpOk P e with | some s => (aparts s (szP P e) ps.toList).map (.build z) | none => none
    | _, _ => none
  | .buildSlice t len ps => match P.underlying t with
    | some (.slice e) => match shpOk P e, sparts 0 ps.toList with
      | some s, some xs => if xs.length = len ∧ len * szP P e ≤ 1000 ∧ (len = 0 ∨ ((P.info? e).bind (·.zero)).isSome) then some (.bsl e s xs) else none
      | _, _ => none
    | _ => none
  | .load t a => match shpOk P t, opd a with | some s, some a => some (.load s a) | _, _ => none
  | .store t a x => match shpOk P t, opd a, opd x with | some s, some a, some x => some (.store s a x) | _, _, _ => none
  | .nilCheck x => (opd x).map .nilck
  | .binOp op t x y _ => match opd x, opd y with
    | some x', some y' => match P.underlying t with
      | some (.int _) | some .string => some (.bin op x' y')
      | some .bool => match op with | .eql => some (.eqb false x' y') | .neq => some (.eqb true x' y') | _ => none
      | some (.slice _) => match op, y with | .eql, .const (.slice none 0 0) => some (.eqn false x') | .neq, .const (.slice none 0 0) => some (.eqn true x') | _, _ => none
      | some (.pointer el) => cPtrEq P el op y x' y'
      | some (.struct fs) => match plainStruct P t fs, op with | some ks, .eql => some (.eqs ks false x' y') | some ks, .neq => some (.eqs ks true x' y') | _, _ => none
      | _ => none
    | _, _ => none
  | .unOp .neg _ x => (opd x).map .neg
  | .unOp .not _ x => (opd x).map .not
  | .convert src dst x => match opd x, P.underlying src, P.underlying dst with
    | some x, some (.int _), some (.int k) => some (.cvi k x)
    | some x, some (.int _), some .string => some (.r2s x)
    | some x, some (.slice e), some .string => match P.underlying e with | some (.int .u8) => some (.b2s x) | _ => none
    | some x, some (.pointer t), some .unsafePointer => if (P.info? t).isSome ∧ szP P t ≠ 0 then some (.upc x) else none
    | some x, some .unsafePointer, some (.pointer u) => if (P.info? u).isSome ∧ szP P u ≠ 0 then some (.updn u x) else none
    | some x, some .string, some (.slice e) => match P.underlying e with | some (.int .u8) => some (.s2b e x) | _ => none
    | some x, some (.slice e), some (.slice _) => match P.underlying e with | some (.int .u8) => if src = dst then some (.s2s x) else none | _ => none
    | _, _, _ => none
  | .makeMap t none => match P.underlying t with | some (.map k _) => (mkind P k).map .mkmap | _ => none
  | .lookup t x ix ok => match P.underlying t, opd x, opd ix with
    | some (.map k el), some x, some ix => match mkind P k, (P.info? el).bind (·.zero) with
      | some kk, some z => (cv z).map fun z => .mget kk z ok x ix
      | _, _ => none
    | _, _, _ => none
  | .mapUpdate t m k x | .insert t m k x => match P.underlying t, opd m, opd k, opd x with
    | some (.map kt _), some m, some k, some x => (mkind P kt).map fun kk => .mset kk m k x
    | _, _, _, _ => none
  | .makeFunc (.func f) a b => match opds a.toList, opds b.toList with | some a, some b => some (.mkfn f a b) | _, _ => none
  | .slice t x lo hi none => match P.underlying t, opd x, optOpd lo, optOpd hi with
    | some .string, some x, some lo, some hi => some (.cutS x lo hi)
    | some (.slice e), some x, some lo, some hi => if (P.info? e).isSome then some (.cut (szP P e) x lo hi) else none
    | _, _, _, _ => none
  | .fieldAddr s x f => match P.underlying s, opd x with
    | some (.struct fs), some x => match fs[f]? with
      | some fd => match shpOk P fd.type with | some sh => some (.faddr x fd.offset sh) | none => none
      | none => none
    | _, _ => none
  | .field s x f => match P.underlying s, opd x with
    | some (.struct fs), some x => match fs[f]? with
      | some fd => match shpOk P fd.type with | some sh => some (.field x fd.offset sh) | none => none
      | none => none
    | _, _ => none
  | .indexAddr t x i => match P.underlying t, opd x, opd i with
    | some (.slice e), some x, some i => match shpOk P e with | some s => some (.iaddr (szP P e) s x i) | none => none
    | some (.array len e), some x, some i => match shpOk P e with | some s => some (.aaddr len (szP P e) s x i) | none => none
    | _, _, _ => none
  | .index t x i => match P.underlying t, opd x, opd i with
    | some .string, some x, some i => some (.sidx x i)
    | some (.array len e), some x, some i => match shpOk P e with | some s => some (.aidx len (szP P e) s x i) | none => none
    | _, _, _ => none
  | .extract x i => (opd x).map fun x => .extr x i
  | .call c => cCall P ef c
  | _ => none

def dstOk (nt : Nat) : Option Nat → Bool
  | some d => decide (d < nt)
  | none => true
def cOper (P : Program) (ef : List Nat) (ops : Array Oper) (nt : Nat) (o : Oper) : Option AOper :=
  match cOp P ef o.op with
  | some op => if dstOk nt o.dst = true then
    (match o.guard with
    | none => some ⟨o.dst, op, none⟩
    | some (j, want) => match (ops[j]?).bind (·.dst) with
      | some t => some ⟨o.dst, op, some (t, want)⟩
      | none => none) else none
  | none => some ⟨none, .nope, none⟩
def cOpers (P : Program) (ef : List Nat) (ops : Array Oper) (nt : Nat) : List Oper → Option (List AOper)
  | [] => some []
  | o :: os => match cOper P ef ops nt o, cOpers P ef ops nt os with | some a, some as => some (a :: as) | _, _ => none

/-- in whatever order the operations of a region are carried out -/
inductive Cls where | pure | rd | eff
def AOp.cls : AOp → Cls
  | .load _ _ | .upc _ | .updn _ _ | .usd _ _ | .mget _ _ _ _ _ => .rd
  | .alloc _ _ | .box _ _ _ | .store _ _ _ | .bsl _ _ _ | .app _ _ _ _ _ | .appB _ _ _ _ | .s2b _ _ | .s2s _ | .mkmap _ | .mset _ _ _ _ | .call _ _ | .callv _ _ => .eff
  | _ => .pure
def Cls.comm : Cls → Cls → Bool
  | .pure, _ => true
  | .rd, .pure | .rd, .rd => true
  | _, _ => false
def Opd.use : Opd → List Nat
  | .t i => [i]
  | .c _ => []
def useO : Option Opd → List Nat
  | some x => x.use
  | none => []
def useL : List Opd → List Nat
  | [] => []
  | x :: xs => x.use ++ useL xs
def useP : List (Nat × Shp × Opd) → List Nat
  | [] => []
  | x :: xs => x.2.2.use ++ useP xs
def AOp.uses : AOp → List Nat
  | .mv x | .neg x | .not x | .cvi _ x | .faddr x _ _ | .field x _ _ | .len x | .lenS x | .extr x _ | .nilck x | .load _ x | .b2s x | .r2s x | .box _ _ x | .s2b _ x | .s2s x | .eqn _ x | .eqp _ x | .upc x | .updn _ x | .usd _ x => x.use
  | .pick c a b => c.use ++ a.use ++ b.use
  | .bin _ x y | .eqpp _ x y | .ust _ x y | .eqs _ _ x y | .eqb _ x y | .iaddr _ _ x y | .aaddr _ _ _ x y | .sidx x y | .aidx _ _ _ x y | .mm _ x y | .store _ x y | .app _ _ _ x y | .appB _ _ x y => x.use ++ y.use
  | .mkfn _ a b => useL a ++ useL b
  | .cut _ x lo hi | .cutS x lo hi => x.use ++ useO lo ++ useO hi
  | .mget _ _ _ x y => x.use ++ y.use
  | .mset _ m k v => m.use ++ k.use ++ v.use
  | .clen _ | .alloc _ _ | .mkmap _ | .nope => []
  | .build _ ps => useP ps
  | .bsl _ _ xs | .call _ xs | .callp _ xs => useL xs
  | .callv f xs => f.use ++ useL xs
def AOper.uses (o : AOper) : List Nat := o.op.uses ++ (match o.guard with | some (t, _) => [t] | none => [])
def aApart (x y : AOper) : Bool :=
  (match x.dst with | some d => !y.uses.contains d && (match y.dst with | some d' => d != d' | none => true) | none => true) &&
  (match y.dst with | some d => !x.uses.contains d | none => true)
def ordOk (P : Program) (ef : List Nat) (ops : Array Oper) (nt : Nat) : Bool :=
  let b := Region.before ops
  P.follows .mixedOrders &&
  ops.toList.zipIdx.all (fun (o, i) => o.after.all fun e => !Region.binds .any e || decide (e.on < i)) &&
  ops.toList.zipIdx.all fun (y, j) => ops.toList.zipIdx.all fun (x, i) =>
    decide (j ≤ i) || (b.getD j 0).testBit i ||
      (match cOper P ef ops nt x, cOper P ef ops nt y with | some a, some c => aApart a c && a.op.cls.comm c.op.cls | _, _ => false)

/-- what may come late -/
def AOper.late (x y : AOper) : Bool := match x, y with
  | ⟨_, .load _ _, none⟩, ⟨_, .alloc _ _, none⟩ => true
  | ⟨_, .load _ _, none⟩, ⟨_, .store _ _ _, none⟩ => true
  | _, _ => false
def ordOkD (P : Program) (ef : List Nat) (ops : Array Oper) (nt : Nat) : Bool :=
  let b := Region.before ops
  P.follows .mixedOrders &&
  ops.toList.zipIdx.all (fun (o, i) => o.after.all fun e => !Region.binds .any e || decide (e.on < i)) &&
  ops.toList.zipIdx.all fun (y, j) => ops.toList.zipIdx.all fun (x, i) =>
    decide (j ≤ i) || (b.getD j 0).testBit i ||
      (match cOper P ef ops nt x, cOper P ef ops nt y with | some a, some c => aApart a c && (a.op.cls.comm c.op.cls || a.late c) | _, _ => false)
/-- where a region stores to -/
def stT (all : List AOper) : List AOper → List Nat
  | [] => []
  | ⟨_, .store _ (.t q) _, none⟩ :: os => if all.all fun o => o.dst != some q then q :: stT all os else stT all os
  | _ :: os => stT all os
def cReg (P : Program) (ef : List Nat) (nt : Nat) (ops : Array Oper) (draw : Bool) : Option ACode :=
  if draw && !ordOk P ef ops nt then (if ordOkD P ef ops nt then (cOpers P ef ops nt ops.toList).map (fun os => .regD (stT os os) os) else some .bad) else (cOpers P ef ops nt ops.toList).map .reg
def cCode (P : Program) (ef : List Nat) (nt : Nat) : Code → Option ACode
  | .skip => some .skip
  | .region _ ops draw => cReg P ef nt ops draw
  | .seq a b => match cCode P ef nt a, cCode P ef nt b with | some a, some b => some (.seq a b) | _, _ => none
  | .cond c a b => match opd c, cCode P ef nt a, cCode P ef nt b with | some c, some a, some b => some (.cond c a b) | _, _, _ => none
  | .block id c => (cCode P ef nt c).map (.block id)
  | .loop c => (cCode P ef nt c).map .loop
  | .exit id => some (.exit id)
  | .ret => some .ret
  | _ => some .bad
def Seg.flat (s : Seg) : List AOper := match s.g with
  | none => s.ops
  | some gw => (s.ops.map fun o => { o with guard := some gw }) ++ (match s.pk with
    | none => []
    | some (d, x) => [⟨some d, if gw.2 then .pick (.t gw.1) (.t x) (.c (.bool false)) else .pick (.t gw.1) (.c (.bool true)) (.t x), none⟩])
def Seg.ok (s : Seg) : Bool := match s.g with
  | none => true
  | some gw => s.ops.all fun o => o.guard.isNone && o.dst != some gw.1
def segsOk : List Seg → Bool
  | [] => true
  | s :: l => s.ok && (match s.g, s.pk with
    | some _, some _ => s.ops.all fun o => (match o.dst with
      | some t => !((l.flatMap Seg.flat).flatMap AOper.uses).contains t
      | none => true)
    | _, _ => true) && segsOk l
def bare : ACode → ACode
  | .segs l => if segsOk l then .reg (l.flatMap Seg.flat) else .kp [] .skip
  | .seq a b => .seq (bare a) (bare b)
  | .cond c a b => .cond c (bare a) (bare b)
  | .block id c => .block id (bare c)
  | .loop c => .loop (bare c)
  | .kp _ c => bare c
  | .ke _ c => bare c
  | c => c

inductive ARes where | tmp (t : Nat) | cell (t : Nat) (s : Shp)
def cRes (P : Program) : List ResultVar → Option (List ARes)
  | [] => some []
  | .tmp t :: rs => (cRes P rs).map (.tmp t :: ·)
  | .cell t ty :: rs => match shpOk P ty, cRes P rs with | some s, some r => some (.cell t s :: r) | _, _ => none
/-- a function on plain data -/
structure AFun where
  nargs : Nat
  nt : Nat
  res : List ARes
  code : ACode
def cFun (P : Program) (ef : List Nat) (fn : Func) : Option AFun :=
  match fn.body with
  | some c => match cCode P ef fn.ntmps c, cRes P fn.results.toList with
    | some ac, some r => if fn.params.size + fn.nfree ≤ fn.ntmps then some ⟨fn.params.size + fn.nfree, fn.ntmps, r, ac⟩ else none
    | _, _ => none
  | none => none
end Go.Proofs.YtnmkpadgogbgkaaDoor
