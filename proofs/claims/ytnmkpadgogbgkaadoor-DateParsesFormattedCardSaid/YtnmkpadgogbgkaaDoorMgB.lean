/- From the program's operations to those on plain data; no condition. -/
import Derived.Test.YtnmkpadgogbgkaaDoorMgA
set_option linter.all false
set_option linter.unusedSimpArgs false
set_option linter.unusedVariables false
namespace Go.Proofs.YtnmkpadgogbgkaaDoor
/-- the name of internal/abi's NoEscape -/
def noescN : String := match Extern.AbiNoEscape.rows with | x :: _ => x.1 | [] => ""
def cv0 : Value → Option AV
  | .bool b => some (.bool b)
  | .int k n => some (.int k n)
  | .string s => some (.str s.data.toList)
  | .slice none 0 0 => some (.sl 0 [] .nil)
  | .pointer none => some .np
  | .nilFunc => some .nfn
  | .map none => some .nmp
  | .nilIface => some .nif
  | _ => none
def cvL : List Value → Option (List AV)
  | [] => some []
  | v :: vs => match cv0 v, cvL vs with | some x, some xs => some (x :: xs) | _, _ => none
def cv : Value → Option AV
  | .agg cs => (cvL cs.toList).map .agg
  | v => cv0 v
def opd : Operand → Option Opd
  | .tmp t => some (.t t)
  | .const v => (cv v).map .c
  | .func f => some (.c (.fn f [] []))
  | .global _ => none
def opds : List Operand → Option (List Opd)
  | [] => some []
  | x :: xs => match opd x, opds xs with | some a, some as => some (a :: as) | _, _ => none
/-- the kind of a map's keys -/
def mkind (P : Program) (k : TypeId) : Option (Option IntKind) := match P.underlying k with
  | some (.int kk) => some (some kk)
  | some .string => some none
  | _ => none
def shp (P : Program) (t : TypeId) : Option Shp :=
  match P.underlying t with
  | some (.struct _) | some (.array _ _) => some (some (szP P t))
  | some _ => some none
  | none => none
/-- the type's shape, if its size is that of the shape -/
def shpOk (P : Program) (t : TypeId) : Option Shp :=
  match shp P t with
  | some s => if shpSz s = szP P t ∧ 0 < szP P t ∧ (P.info? t).isSome then some s else none
  | none => none
def zeroOf (P : Program) (t : TypeId) : Option (List AV) :=
  match (P.info? t).bind (·.zero) with
  | some z => cvL z.cells.toList
  | none => none
def bparts (P : Program) (fields : Array Field) : List (Nat × Operand) → Option (List (Nat × Shp × Opd))
  | [] => some []
  | (i, x) :: ps => match fields[i]?, opd x, bparts P fields ps with
    | some f, some a, some r => match shpOk P f.type with | some s => some ((f.offset, s, a) :: r) | none => none
    | _, _, _ => none
def aparts (e : Shp) (size : Nat) : List (Nat × Operand) → Option (List (Nat × Shp × Opd))
  | [] => some []
  | (i, x) :: ps => match opd x, aparts e size ps with
    | some a, some r => some ((i * size, e, a) :: r)
    | _, _ => none
def sparts (i : Nat) : List (Nat × Operand) → Option (List Opd)
  | [] => some []
  | (j, x) :: ps => if j = i then (match opd x, sparts (i + 1) ps with | some a, some r => some (a :: r) | _, _ => none) else none
/-- a struct of plain fields, one cell each -/
def plainFields (P : Program) : Nat → List Field → Option (List FK)
  | _, [] => some []
  | i, f :: fs => if f.offset = i ∧ f.name ≠ "_" then
      (match P.underlying f.type, plainFields P (i + 1) fs with
      | some (.int _), some ks => some (.i :: ks)
      | some .bool, some ks => some (.b :: ks)
      | some .string, some ks => some (.s :: ks)
      | _, _ => none) else none
def plainStruct (P : Program) (t : TypeId) (fs : Array Field) : Option (List FK) :=
  if P.stoodInHeld t = false ∧ P.eqGuardType P.depth t = false then plainFields P 0 fs.toList else none
def optOpd : Option Operand → Option (Option Opd)
  | none => some none
  | some x => (opd x).map some
def isStr (P : Program) (u : TypeId) : Bool := match P.underlying u with | some .string => true | _ => false
def cBuiltin (P : Program) : Builtin → List Operand → List TypeId → Option AOp
  | .len, [x], [t] => match P.underlying t, opd x with
    | some .string, some x => some (.lenS x)
    | some (.slice _), some x => some (.len x)
    | some (.array n _), some _ => some (.clen n)
    | _, _ => none
  | .append, [x, y], [t, u] => match P.underlying t, opd x, opd y with
    | some (.slice e), some x, some y => match P.info? e with
      | some i => if 0 < i.size ∧ (i.zero.map fun z => z.cells.size) = some i.size then (if u = t then some (.app e i.size i.bytes x y) else if isStr P u = true ∧ i.size = 1 then some (.appB e i.bytes x y) else none) else none
      | none => none
    | _, _, _ => none
  | .unsafeSliceData, [x], [t] => match P.underlying t, opd x with
    | some (.slice e), some x => some (.usd e x)
    | _, _ => none
  | .unsafeString, [x, n], [t, _] => match P.underlying t, opd x, opd n with
    | some (.pointer e), some x, some n => if P.cellsOf e = 1 ∧ (P.info? e).isSome then some (.ust e x n) else none
    | _, _, _ => none
  | .max, [x, y], [_, _] => match opd x, opd y with
    | some x, some y => some (.mm true x y)
    | _, _ => none
  | .min, [x, y], [_, _] => match opd x, opd y with
    | some x, some y => some (.mm false x y)
    | _, _ => none
  | _, _, _ => none
def cCall (P : Program) (ef : List Nat) (c : Call) : Option AOp :=
  match c.callee with
  | .value (.func f) => match opds c.args.toList with
    | some xs => match P.funcs[f]? with
      | some fn => if fn.body.isSome && fn.name != "runtime.NumGoroutine" then some (if ef.contains f then .call f xs else .callp f xs) else (match xs with | [x] => if fn.body.isNone && fn.name == noescN && fn.origin == "" then some (.mv x) else none | _ => none)
      | none => none
    | none => none
  | .value (.tmp t) => match opds c.args.toList with | some xs => some (.callv (.t t) xs) | none => none
  | .builtin b => cBuiltin P b c.args.toList c.argTypes.toList
  | _ => none
def cPtrEq (P : Program) (el : TypeId) (op : BinOp) (y : Operand) (x' y' : Opd) : Option AOp :=
  match op, y with
  | .eql, .const (.pointer none) => some (.eqp false x')
  | .neq, .const (.pointer none) => some (.eqp true x')
  | .eql, .tmp _ => if (P.info? el).isSome ∧ szP P el ≠ 0 then some (.eqpp false x' y') else none
  | .neq, .tmp _ => if (P.info? el).isSome ∧ szP P el ≠ 0 then some (.eqpp true x' y') else none
  | _, _ => none
def cOp (P : Program) (ef : List Nat) (op : Op) : Option AOp :=
  match op with
  | .move x | .assign x => (opd x).map .mv
  | .pick c a b => match opd c, opd a, opd b with | some c, some a, some b => some (.pick c a b) | _, _, _ => none
  | .alloc e => match zeroOf P e with | some z => some (.alloc e z) | none => none
  | .box e x => match shpOk P e, opd x with | some s, some x => some (.box e s x) | _, _ => none
  | .build t ps => match P.underlying t, zeroOf P t with
    | some (.struct fs), some z => if (fs.toList.mapM (fun f => (P.info? f.type).map fun i => (f.offset, i.size))).isSome then (bparts P fs ps.toList).map (.build z) else none
    | some (.array _ e), some z => match shpOk P e with | some s => (aparts s (szP P e) ps.toList).map (.build z) | none => none
    | _, _ => none
  | .buildSlice t len ps => match P.underlying t with
    | some (.slice e) => match shpOk P e, sparts 0 ps.toList with
      | some s, some xs => if xs.length = len ∧ len * szP P e ≤ 1000 ∧ (len = 0 ∨ ((P.info? e).bind (·.zero)).isSome) then some (.bsl e s xs) else none
      | _, _ => none
    | _ => none
  | .load t a => match shpOk P t, opd a with | some s, some a => some (.load s a) | _, _ => none
  | .store t a x => match shpOk P t, opd a, opd x with | some s, some a, some x => some (.store s a x) | _, _, _ => none
  | .nilCheck x => (opd x).map .nilck
  | .binOp op t x y _ => match opd x, opd y with
    | some x', some y' => match P.underlying t with
      | some (.int _) | some .string => some (.bin op x' y')
      | some .bool => match op with | .eql => some (.eqb false x' y') | .neq => some (.eqb true x' y') | _ => none
      | some (.slice _) => match op, y with | .eql, .const (.slice none 0 0) => some (.eqn false x') | .neq, .const (.slice none 0 0) => some (.eqn true x') | _, _ => none
      | some (.pointer el) => cPtrEq P el op y x' y'
      | some (.interface _) => match op, y with | .eql, .const .nilIface => some (.eqi false x') | .neq, .const .nilIface => some (.eqi true x') | _, _ => none
      | some (.struct fs) => match plainStruct P t fs, op with | some ks, .eql => some (.eqs ks false x' y') | some ks, .neq => some (.eqs ks true x' y') | _, _ => none
      | _ => none
    | _, _ => none
  | .unOp .neg _ x => (opd x).map .neg
  | .unOp .not _ x => (opd x).map .not
  | .convert src dst x => match opd x, P.underlying src, P.underlying dst with
    | some x, some (.int _), some (.int k) => some (.cvi k x)
    | some x, some (.int _), some .string => some (.r2s x)
    | some x, some (.slice e), some .string => match P.underlying e with | some (.int .u8) => some (.b2s x) | _ => none
    | some x, some (.pointer t), some .unsafePointer => if (P.info? t).isSome ∧ szP P t ≠ 0 then some (.upc x) else none
    | some x, some .unsafePointer, some (.pointer u) => if (P.info? u).isSome ∧ szP P u ≠ 0 then some (.updn u x) else none
    | some x, some .string, some (.slice e) => match P.underlying e with | some (.int .u8) => some (.s2b e x) | _ => none
    | some x, some (.slice e), some (.slice _) => match P.underlying e with | some (.int .u8) => if src = dst then some (.s2s x) else none | _ => none
    | _, _, _ => none
  | .makeMap t none => match P.underlying t with | some (.map k _) => (mkind P k).map .mkmap | _ => none
  | .lookup t x ix ok => match P.underlying t, opd x, opd ix with
    | some (.map k el), some x, some ix => match mkind P k, (P.info? el).bind (·.zero) with
      | some kk, some z => (cv z).map fun z => .mget kk z ok x ix
      | _, _ => none
    | _, _, _ => none
  | .mapUpdate t m k x | .insert t m k x => match P.underlying t, opd m, opd k, opd x with
    | some (.map kt _), some m, some k, some x => (mkind P kt).map fun kk => .mset kk m k x
    | _, _, _, _ => none
  | .makeFunc (.func f) a b => match opds a.toList, opds b.toList with | some a, some b => some (.mkfn f a b) | _, _ => none
  | .slice t x lo hi none => match P.underlying t, opd x, optOpd lo, optOpd hi with
    | some .string, some x, some lo, some hi => some (.cutS x lo hi)
    | some (.slice e), some x, some lo, some hi => if (P.info? e).isSome then some (.cut (szP P e) x lo hi) else none
    | _, _, _, _ => none
  | .fieldAddr s x f => match P.underlying s, opd x with
    | some (.struct fs), some x => match fs[f]? with
      | some fd => match shpOk P fd.type with | some sh => some (.faddr x fd.offset sh) | none => none
      | none => none
    | _, _ => none
  | .field s x f => match P.underlying s, opd x with
    | some (.struct fs), some x => match fs[f]? with
      | some fd => match shpOk P fd.type with | some sh => some (.field x fd.offset sh) | none => none
      | none => none
    | _, _ => none
  | .indexAddr t x i => match P.underlying t, opd x, opd i with
    | some (.slice e), some x, some i => match shpOk P e with | some s => some (.iaddr (szP P e) s x i) | none => none
    | some (.array len e), some x, some i => match shpOk P e with | some s => some (.aaddr len (szP P e) s x i) | none => none
    | _, _, _ => none
  | .index t x i => match P.underlying t, opd x, opd i with
    | some .string, some x, some i => some (.sidx x i)
    | some (.array len e), some x, some i => match shpOk P e with | some s => some (.aidx len (szP P e) s x i) | none => none
    | _, _, _ => none
  | .extract x i => (opd x).map fun x => .extr x i
  | .call c => cCall P ef c
  | .range t x => match P.underlying t, opd x with | some (.map _ _), some x => some (.rng x) | _, _ => none
  | .next x false => (opd x).map .nxt
  | .entry x => (opd x).map .ent
  | .makeSlice t l c => match P.underlying t, opd l, opd c with
    | some (.slice e), some x, some y => match zeroOf P e, P.info? e with
      | some [z], some i => if i.size = 1 then some (.mksl e i.bytes z x y) else none
      | _, _ => none
    | _, _, _ => none
  | _ => none
def dstOk (nt : Nat) : Option Nat → Bool
  | some d => decide (d < nt)
  | none => true
def cOper (P : Program) (ef : List Nat) (ops : Array Oper) (nt : Nat) (o : Oper) : Option AOper :=
  match cOp P ef o.op with
  | some op => if dstOk nt o.dst = true then
    (match o.guard with
    | none => some ⟨o.dst, op, none⟩
    | some (j, want) => match (ops[j]?).bind (·.dst) with
      | some t => some ⟨o.dst, op, some (t, want)⟩
      | none => none) else none
  | none => some ⟨none, .nope, none⟩
def cOpers (P : Program) (ef : List Nat) (ops : Array Oper) (nt : Nat) : List Oper → Option (List AOper)
  | [] => some []
  | o :: os => match cOper P ef ops nt o, cOpers P ef ops nt os with | some a, some as => some (a :: as) | _, _ => none
/-- in whatever order the operations of a region are carried out -/
inductive Cls where | pure | rd | eff
def AOp.cls : AOp → Cls
  | .load _ _ | .upc _ | .updn _ _ | .usd _ _ | .mget _ _ _ _ _ | .ent _ => .rd
  | .alloc _ _ | .box _ _ _ | .store _ _ _ | .bsl _ _ _ | .app _ _ _ _ _ | .appB _ _ _ _ | .s2b _ _ | .s2s _ | .mkmap _ | .mset _ _ _ _ | .mksl _ _ _ _ _ | .rng _ | .nxt _ | .call _ _ | .callv _ _ => .eff
  | _ => .pure
def Cls.comm : Cls → Cls → Bool
  | .pure, _ => true
  | .rd, .pure | .rd, .rd => true
  | _, _ => false
def Opd.use : Opd → List Nat
  | .t i => [i]
  | .c _ => []
def useO : Option Opd → List Nat
  | some x => x.use
  | none => []
def useL : List Opd → List Nat
  | [] => []
  | x :: xs => x.use ++ useL xs
def useP : List (Nat × Shp × Opd) → List Nat
  | [] => []
  | x :: xs => x.2.2.use ++ useP xs
def AOp.uses : AOp → List Nat
  | .mv x | .neg x | .not x | .cvi _ x | .faddr x _ _ | .field x _ _ | .len x | .lenS x | .extr x _ | .nilck x | .load _ x | .b2s x | .r2s x | .box _ _ x | .s2b _ x | .s2s x | .eqn _ x | .eqp _ x | .eqi _ x | .upc x | .updn _ x | .usd _ x | .rng x | .nxt x | .ent x => x.use
  | .pick c a b => c.use ++ a.use ++ b.use
  | .bin _ x y | .eqpp _ x y | .ust _ x y | .eqs _ _ x y | .eqb _ x y | .iaddr _ _ x y | .aaddr _ _ _ x y | .sidx x y | .aidx _ _ _ x y | .mm _ x y | .store _ x y | .app _ _ _ x y | .appB _ _ x y | .mksl _ _ _ x y => x.use ++ y.use
  | .mkfn _ a b => useL a ++ useL b
  | .cut _ x lo hi | .cutS x lo hi => x.use ++ useO lo ++ useO hi
  | .mget _ _ _ x y => x.use ++ y.use
  | .mset _ m k v => m.use ++ k.use ++ v.use
  | .clen _ | .alloc _ _ | .mkmap _ | .nope => []
  | .build _ ps => useP ps
  | .bsl _ _ xs | .call _ xs | .callp _ xs => useL xs
  | .callv f xs => f.use ++ useL xs
def AOper.uses (o : AOper) : List Nat := o.op.uses ++ (match o.guard with | some (t, _) => [t] | none => [])
def aApart (x y : AOper) : Bool :=
  (match x.dst with | some d => !y.uses.contains d && (match y.dst with | some d' => d != d' | none => true) | none => true) &&
  (match y.dst with | some d => !x.uses.contains d | none => true)
def ordOk (P : Program) (ef : List Nat) (ops : Array Oper) (nt : Nat) : Bool :=
  let b := Region.before ops
  P.follows .mixedOrders &&
  ops.toList.zipIdx.all (fun (o, i) => o.after.all fun e => !Region.binds .any e || decide (e.on < i)) &&
  ops.toList.zipIdx.all fun (y, j) => ops.toList.zipIdx.all fun (x, i) =>
    decide (j ≤ i) || (b.getD j 0).testBit i ||
      (match cOper P ef ops nt x, cOper P ef ops nt y with | some a, some c => aApart a c && a.op.cls.comm c.op.cls | _, _ => false)
/-- what may come late -/
def AOper.late (st : Bool) (x y : AOper) : Bool := match x, y with
  | ⟨_, .load _ _, _⟩, ⟨_, .alloc _ _, none⟩ => true
  | ⟨_, .load _ _, _⟩, ⟨_, .store _ _ _, none⟩ => st
  | ⟨_, .load _ _, _⟩, ⟨_, .bsl _ _ _, none⟩ => true
  | _, _ => false
def ordOkD (P : Program) (ef : List Nat) (ops : Array Oper) (nt : Nat) (st : Bool) : Bool :=
  let b := Region.before ops
  P.follows .mixedOrders &&
  ops.toList.zipIdx.all (fun (o, i) => o.after.all fun e => !Region.binds .any e || decide (e.on < i)) &&
  ops.toList.zipIdx.all fun (y, j) => ops.toList.zipIdx.all fun (x, i) =>
    decide (j ≤ i) || (b.getD j 0).testBit i ||
      (match cOper P ef ops nt x, cOper P ef ops nt y with | some a, some c => aApart a c && (a.op.cls.comm c.op.cls || a.late st c) | _, _ => false)
/-- where a region stores to -/
def stT (all : List AOper) : List AOper → List Nat
  | [] => []
  | ⟨_, .store _ (.t q) _, none⟩ :: os => if all.all fun o => o.dst != some q then q :: stT all os else stT all os
  | _ :: os => stT all os
def cReg (P : Program) (ef : List Nat) (nt : Nat) (ops : Array Oper) (draw : Bool) : Option ACode :=
  if draw && !ordOk P ef ops nt then (if ordOkD P ef ops nt false then (cOpers P ef ops nt ops.toList).map (fun os => .regD [] os) else if ordOkD P ef ops nt true then (cOpers P ef ops nt ops.toList).map (fun os => if (stT os os).isEmpty then .bad else .regD (stT os os) os) else some .bad) else (cOpers P ef ops nt ops.toList).map .reg
def cCode (P : Program) (ef : List Nat) (nt : Nat) : Code → Option ACode
  | .skip => some .skip
  | .region _ ops draw => cReg P ef nt ops draw
  | .seq a b => match cCode P ef nt a, cCode P ef nt b with | some a, some b => some (.seq a b) | _, _ => none
  | .cond c a b => match opd c, cCode P ef nt a, cCode P ef nt b with | some c, some a, some b => some (.cond c a b) | _, _, _ => none
  | .block id c => (cCode P ef nt c).map (.block id)
  | .loop c => (cCode P ef nt c).map .loop
  | .exit id => some (.exit id)
  | .ret => some .ret
  | _ => some .bad
def Seg.flat (s : Seg) : List AOper := match s.g with
  | none => s.ops
  | some gw => (s.ops.map fun o => { o with guard := some gw }) ++ (match s.pk with
    | none => []
    | some (d, x) => [⟨some d, if gw.2 then .pick (.t gw.1) (.t x) (.c (.bool false)) else .pick (.t gw.1) (.c (.bool true)) (.t x), none⟩])
def Seg.ok (s : Seg) : Bool := match s.g with
  | none => true
  | some gw => s.ops.all fun o => o.guard.isNone && o.dst != some gw.1
def segsOk : List Seg → Bool
  | [] => true
  | s :: l => s.ok && (match s.g, s.pk with
    | some _, some _ => s.ops.all fun o => (match o.dst with
      | some t => !((l.flatMap Seg.flat).flatMap AOper.uses).contains t
      | none => true)
    | _, _ => true) && segsOk l
def bare : ACode → ACode
  | .segs l => if segsOk l then .reg (l.flatMap Seg.flat) else .kp [] .skip
  | .seq a b => .seq (bare a) (bare b)
  | .cond c a b => .cond c (bare a) (bare b)
  | .block id c => .block id (bare c)
  | .loop c => .loop (bare c)
  | .kp _ c => bare c
  | .ke _ c => bare c
  | c => c
inductive ARes where | tmp (t : Nat) | cell (t : Nat) (s : Shp)
def cRes (P : Program) : List ResultVar → Option (List ARes)
  | [] => some []
  | .tmp t :: rs => (cRes P rs).map (.tmp t :: ·)
  | .cell t ty :: rs => match shpOk P ty, cRes P rs with | some s, some r => some (.cell t s :: r) | _, _ => none
/-- a function on plain data -/
structure AFun where
  nargs : Nat
  nt : Nat
  res : List ARes
  code : ACode
def cFun (P : Program) (ef : List Nat) (fn : Func) : Option AFun :=
  match fn.body with
  | some c => match cCode P ef fn.ntmps c, cRes P fn.results.toList with
    | some ac, some r => if fn.params.size + fn.nfree ≤ fn.ntmps then some ⟨fn.params.size + fn.nfree, fn.ntmps, r, ac⟩ else none
    | _, _ => none
  | none => none
end Go.Proofs.YtnmkpadgogbgkaaDoor
namespace Go.Proofs.YtnmkpadgogbgkaaDoor
def resV (s : AS) : ARes → Option AV
  | .tmp t => some (get s.e t)
  | .cell t sh => loadAV s.H sh (get s.e t)
def resVs (s : AS) : List ARes → Option (List AV)
  | [] => some []
  | r :: rs => match resV s r, resVs s rs with | some x, some xs => some (x :: xs) | _, _ => none
def resOf (s : AS) (rs : List ARes) : Option AV :=
  match resVs s rs with
  | some [x] => some x
  | some xs => some (.tup xs)
  | none => none
/-- below n the two are one -/
def SameB (n : Nat) (H H' : AHeap) : Prop := ∀ k, k < n → H' k = H k
def finP (v : AV) (n : Nat) (H : AHeap) (res : List ARes) : AExit → AS → Prop
  | .normal, s | .ret, s => (∃ x, resOf s res = some x ∧ simA x v) ∧ n ≤ s.n ∧ SameB n H s.H
  | _, _ => False
def fin (R : APost) (n : Nat) (res : List ARes) : AExit → AS → Prop
  | .normal, s | .ret, s => ∃ r n' H', (∃ x, resOf s res = some x ∧ simA x r) ∧ n ≤ n' ∧ n' ≤ s.n ∧ (∀ k, n' ≤ k → H' k = none) ∧ SameB n' H' s.H ∧ R r n' H'
  | _, _ => False
theorem SameB.rfl_ (n : Nat) (H : AHeap) : SameB n H H := fun _ _ => rfl
theorem fin_ret {R : APost} {n m : Nat} {res : List ARes} {e : AEnv} {H : AHeap} {r : AV} (h1 : resOf ⟨e, m, H⟩ res = some r) (h2 : n ≤ m) (h3 : ∀ k, m ≤ k → H k = none) (h4 : R r m H) : fin R n res .ret ⟨e, m, H⟩ :=
  ⟨r, m, H, ⟨r, h1, simA_refl _⟩, h2, Nat.le_refl _, h3, SameB.rfl_ _ _, h4⟩
theorem SameB.upd {n : Nat} {H H' : AHeap} (h : SameB n H H') {g : Nat} (hg : n ≤ g) (x : Option AObj) : SameB n H (upd H' g x) := fun k hk => by
  unfold Go.Proofs.YtnmkpadgogbgkaaDoor.upd; rw [if_neg (by omega)]; exact h k hk
theorem xz4f (H : AHeap) (g : Nat) (x : Option AObj) : upd H g x g = x := by simp [upd]
theorem upd_ne {H : AHeap} {g k : Nat} {x : Option AObj} (h : k ≠ g) : upd H g x k = H k := by simp [upd, h]
theorem upd_upd (H : AHeap) (g : Nat) (x y : Option AObj) : upd (upd H g x) g y = upd H g y := by funext k; simp only [upd]; split <;> rfl
def ngV (ng t : Bool) : AV := .bool (if ng then !t else t)
def eqsV (ks : List FK) (ng : Bool) : AV → AV → Option AV
  | .agg a, .agg b => (xz4e ks a b).map (ngV ng)
  | _, _ => none
def eqbV (ng : Bool) : AV → AV → Option AV
  | .bool a, .bool b => some (.bool (if ng then !(a == b) else a == b))
  | _, _ => none
def negV : AV → Option AV | .int k n => some (.int k (k.wrap (0 - n))) | _ => none
def notV : AV → Option AV | .bool b => some (.bool (!b)) | _ => none
def cviV (k : IntKind) : AV → Option AV | .int _ n => some (.int k (k.wrap n)) | _ => none
def fieldV (x : AV) (o : Nat) (s : Shp) : Option AV := match x with | .agg cs => part cs o s | _ => none
def sidxV : AV → AV → Option AV
  | .str s, .int _ j => if 0 ≤ j then (s[j.toNat]?).map fun b => .int .u8 b.toNat else none
  | _, _ => none
def aidxV (len sz : Nat) (s : Shp) : AV → AV → Option AV
  | .agg cs, .int _ j => if 0 ≤ j ∧ j < len then part cs (j.toNat * sz) s else none
  | _, _ => none
def lenV : AV → Option AV | .sl _ l _ => some (.int .i64 l.length) | .slm _ _ _ n => some (.int .i64 n) | _ => none
def lenSV : AV → Option AV | .str s => some (.int .i64 s.length) | _ => none
def extrV (i : Nat) : AV → Option AV | .tup vs => vs[i]? | _ => none
def nilckV : AV → Option AV | .ptr g o => some (.ptr g o) | .ref x => some (.ref x) | .fn f a b => if a.isEmpty then some (.fn f a b) else none | _ => none
def buildV (z : List AV) (ps : List (Nat × Shp × AV)) : Option AV := if xz4c z.length ps then some (.agg (xz4d z (ps.map fun (o, _, x) => (o, x)))) else none
def mmV (mx : Bool) : AV → AV → Option AV
  | .int k a, .int k' b => if k = k' then some (.int k (if mx then max a b else min a b)) else none
  | _, _ => none
def b2sV : AV → Option AV | .sl _ l _ => (bytesOf l).map .str | _ => none
def r2sV : AV → Option AV | .int _ n => some (.str (Utf8.encode n).data.toList) | _ => none
def eqppV (ng : Bool) : AV → AV → Option AV
  | .ptr g o, .ptr g' o' => if g = g' then some (.bool (if ng then !(decide (o = o')) else decide (o = o'))) else none
  | _, _ => none
def s2bK (d : Option Nat) (K : AS → Prop) (e : AEnv) (n : Nat) (H : AHeap) : AV → Prop
  | .str b => b.length ≤ maxLen ∧ ∀ n', n ≤ n' → K ⟨putO e d (.sl 1 (b.map fun u => .int .u8 u.toNat) .ro), n', H⟩
  | _ => False
def s2sK (d : Option Nat) (K : AS → Prop) (e : AEnv) (n : Nat) (H : AHeap) : AV → Prop
  | .sl sz l (.own g) => l ≠ [] ∧ K ⟨putO e d (.sl sz l .ro), n, upd H g none⟩
  | _ => False
def newM (kk : Option IntKind) (d : Option Nat) (K : AS → Prop) (e : AEnv) (n : Nat) (H : AHeap) : Prop := ∀ g, n ≤ g → K ⟨putO e d (.mp g), g + 1, upd H g (some (.map kk []))⟩
def callvK (P : Program) (d : Option Nat) (K : AS → Prop) (e : AEnv) (n : Nat) (H : AHeap) (xs : List AV) : AV → Prop
  | .fn f a b => callable P f = true ∧ CallK P f (a ++ xs ++ b) d K ⟨e, n, H⟩
  | _ => False
/-- a value that may lie in a cell, or in cells -/
def fitOk (sh : Shp) (x : AV) : Prop := x.fits sh = true ∧ ones x.cells
def bslOk (sh : Shp) (l : List AV) : Prop := ∀ x ∈ l, fitOk sh x
theorem xz49 {sh : Shp} : bslOk sh [] = True := by simp [bslOk]
theorem xz4a {sh : Shp} {x : AV} {l : List AV} : bslOk sh (x :: l) = (fitOk sh x ∧ bslOk sh l) := by simp [bslOk]
theorem xz3x {s : List UInt8} : fitOk none (.str s) = True := by simp [fitOk, AV.fits, ones, AV.cells, AV.one]
theorem xz3y {k : IntKind} {i : Int} : fitOk none (.int k i) = True := by simp [fitOk, AV.fits, ones, AV.cells, AV.one]
theorem xz3z {b : Bool} : fitOk none (.bool b) = True := by simp [fitOk, AV.fits, ones, AV.cells, AV.one]
theorem xz40 {z : Nat} {l : List AV} {t : Tok} : fitOk none (.sl z l t) = True := by simp [fitOk, AV.fits, ones, AV.cells, AV.one]
theorem xz41 {g o : Nat} : fitOk none (.ptr g o) = True := by simp [fitOk, AV.fits, ones, AV.cells, AV.one]
theorem xz42 : fitOk none .np = True := by simp [fitOk, AV.fits, ones, AV.cells, AV.one]
theorem xz43 {x : AV} : fitOk none (.ref x) = True := by simp [fitOk, AV.fits, ones, AV.cells, AV.one]
theorem xz44 {f : Nat} {a b : List AV} : fitOk none (.fn f a b) = True := by simp [fitOk, AV.fits, ones, AV.cells, AV.one]
theorem xz45 : fitOk none .nfn = True := by simp [fitOk, AV.fits, ones, AV.cells, AV.one]
theorem xz46 {t : Nat} {v : AV} : fitOk none (.ifc t v) = True := by simp [fitOk, AV.fits, ones, AV.cells, AV.one]
theorem xz47 : fitOk none .nif = True := by simp [fitOk, AV.fits, ones, AV.cells, AV.one]
theorem xz48 {s : Nat} {cs : List AV} : fitOk (some s) (.agg cs) = (cs.length = s ∧ ones cs) := by simp [fitOk, AV.fits, AV.cells]
def stoK (sh : Shp) (d : Option Nat) (K : AS → Prop) (e : AEnv) (n : Nat) (H : AHeap) (v : AV) (g o : Nat) : Option AObj → Prop
  | some (.cells t cs) => fitOk sh v ∧ o + v.cells.length ≤ cs.length ∧ K ⟨putO e d .any, n, upd H g (some (.cells t (splice cs o v.cells)))⟩
  | _ => False
theorem xz3v {sh : Shp} {d : Option Nat} {K : AS → Prop} {e : AEnv} {n : Nat} {H : AHeap} {v : AV} {g o : Nat} : storeK sh d K ⟨e, n, H⟩ v (.ptr g o) = stoK sh d K e n H v g o (H g) := by
  show (match H g with | some (.cells e' cs) => _ | _ => False) = _
  cases H g with
  | none => rfl
  | some ob => cases ob with
    | cells t cs => exact propext and_assoc.symm
    | _ => rfl
theorem xz3w {sh : Shp} {d : Option Nat} {K : AS → Prop} {e : AEnv} {n : Nat} {H : AHeap} {v : AV} {g o : Nat} {t : TypeId} {cs : List AV} : stoK sh d K e n H v g o (some (.cells t cs)) = (fitOk sh v ∧ o + v.cells.length ≤ cs.length ∧ K ⟨putO e d .any, n, upd H g (some (.cells t (splice cs o v.cells)))⟩) := rfl
theorem xz4l {z g o m : Nat} : lenV (.slm z g o m) = some (.int .i64 m) := rfl
theorem xz4m {sz z g o m : Nat} {s : Shp} {k : IntKind} {j : Int} : iaddrAV sz s (.slm z g o m) (.int k j) = if z = sz ∧ 0 ≤ j ∧ j < m then some (.ptr g (o + j.toNat * sz)) else none := rfl
theorem xz4n : flatA [] = [] := rfl
theorem xz4o {x : AV} {l : List AV} : flatA (x :: l) = x.cells ++ flatA l := rfl
theorem xz3l {z : Nat} {l : List AV} {t : Tok} : lenV (.sl z l t) = some (.int .i64 l.length) := rfl
theorem xz3t {sz z : Nat} {s : Shp} {l : List AV} {t : Tok} {k : IntKind} {j : Int} : iaddrAV sz s (.sl z l t) (.int k j) = if z = sz ∧ 0 ≤ j then (match l[j.toNat]? with | some y => if y.fits s then some (.ref y) else none | none => none) else none := rfl
theorem xz4b {sz z : Nat} {l : List AV} {t : Tok} {lo hi : Option AV} : cutAV sz (.sl z l t) lo hi = if z = sz ∨ l = [] then (cutB lo hi l.length).map fun (a, b) => .sl sz ((l.take b).drop a) .ro else none := rfl
def newP (ob : AObj) (d : Option Nat) (K : AS → Prop) (e : AEnv) (n : Nat) (H : AHeap) : Prop := ∀ g, n ≤ g → K ⟨putO e d (.ptr g 0), g + 1, upd H g (some ob)⟩
def newS (sz : Nat) (l : List AV) (ob : AObj) (d : Option Nat) (K : AS → Prop) (e : AEnv) (n : Nat) (H : AHeap) : Prop := ∀ g, n ≤ g → K ⟨putO e d (.sl sz l (.own g)), g + 1, upd H g (some ob)⟩
/-- behind a value that may be missing; what follows is not looked into -/
def KS (o : Option AV) (d : Option Nat) (K : AS → Prop) (e : AEnv) (n : Nat) (H : AHeap) : Prop :=
  match o with
  | some v => K ⟨putO e d v, n, H⟩
  | none => False
theorem xz3j {v : AV} {d : Option Nat} {K : AS → Prop} {e : AEnv} {n : Nat} {H : AHeap} : KS (some v) d K e n H = K ⟨putO e d v, n, H⟩ := rfl
theorem xz3k {d : Option Nat} {K : AS → Prop} {e : AEnv} {n : Nat} {H : AHeap} : KS none d K e n H = False := rfl
section
variable {P : Program} {e : AEnv} {n : Nat} {H : AHeap} {Q : AExit → AS → Prop} {K : AS → Prop}
theorem xz00 : aw P .skip Q ⟨e, n, H⟩ = Q .normal ⟨e, n, H⟩ := rfl
theorem aw_reg {ops : List AOper} : aw P (.reg ops) Q ⟨e, n, H⟩ = awOps P ops (Q .normal) ⟨e, n, H⟩ := rfl
theorem aw_seq {a b : ACode} : aw P (.seq a b) Q ⟨e, n, H⟩ = aw P a (thenA (aw P b Q) Q) ⟨e, n, H⟩ := rfl
theorem xz01 {c : Opd} {a b : ACode} : aw P (.cond c a b) Q ⟨e, n, H⟩ = condK (aw P a Q ⟨e, n, H⟩) (aw P b Q ⟨e, n, H⟩) (ev e c) := rfl
theorem xz02 {id : Nat} {c : ACode} : aw P (.block id c) Q ⟨e, n, H⟩ = aw P c (blockA id Q) ⟨e, n, H⟩ := rfl
theorem xz03 {c : ACode} : aw P (.loop c) Q ⟨e, n, H⟩ = LoopK (fun Q s => aw P c Q s) Q ⟨e, n, H⟩ := rfl
theorem xz04 {id : Nat} : aw P (.exit id) Q ⟨e, n, H⟩ = Q (.exit id) ⟨e, n, H⟩ := rfl
theorem aw_ret : aw P .ret Q ⟨e, n, H⟩ = Q .ret ⟨e, n, H⟩ := rfl
theorem aw_bad : aw P .bad Q ⟨e, n, H⟩ = False := rfl
theorem aw_kp {ks : List Nat} {c : ACode} : aw P (.kp ks c) Q ⟨e, n, H⟩ = aw P c Q ⟨keepE e ks, n, H⟩ := rfl
theorem aw_ke {ks : List Nat} {c : ACode} : aw P (.ke ks c) Q ⟨e, n, H⟩ = aw P c (keepQ ks Q) ⟨e, n, H⟩ := rfl
theorem xz05 {ks : List Nat} : keepQ ks Q .normal ⟨e, n, H⟩ = Q .normal ⟨keepE e ks, n, H⟩ := rfl
theorem xz06 {ks : List Nat} {i : Nat} {s : AS} : keepQ ks Q (.exit i) s = Q (.exit i) s := rfl
theorem xz07 {ks : List Nat} {s : AS} : keepQ ks Q .ret s = Q .ret s := rfl
theorem xz08 {l : List Seg} : aw P (.segs l) Q ⟨e, n, H⟩ = awSegs P l (Q .normal) ⟨e, n, H⟩ := rfl
theorem xz09 : awSegs P [] K ⟨e, n, H⟩ = K ⟨e, n, H⟩ := rfl
def segK (o : Option AV) (d : Nat) (ops : List AOper) (K : AS → Prop) (e : AEnv) (n : Nat) (H : AHeap) : Prop :=
  match o with
  | some v => K ⟨put (anyE e ops) d v, n, H⟩
  | none => False
theorem xz0d {v : AV} {d : Nat} {ops : List AOper} {K : AS → Prop} {e : AEnv} {n : Nat} {H : AHeap} : segK (some v) d ops K e n H = K ⟨put (anyE e ops) d v, n, H⟩ := rfl
theorem xz0e {d : Nat} {ops : List AOper} {K : AS → Prop} {e : AEnv} {n : Nat} {H : AHeap} : segK none d ops K e n H = False := rfl
theorem xz0c {t d x : Nat} {want : Bool} {ops : List AOper} {l : List Seg} : awSegs P (⟨some (t, want), ops, some (d, x)⟩ :: l) K ⟨e, n, H⟩ = segK (scV want x (get e t) (evalOps ops e H)) d ops (awSegs P l K) e n H := rfl
def evS (o : Option AV) (d : Option Nat) (os : List AOper) (e : AEnv) (H : AHeap) : Option AEnv :=
  match o with
  | some v => evalOps os (putO e d v) H
  | none => none
theorem xz0h {v : AV} {d : Option Nat} {os : List AOper} {H : AHeap} : evS (some v) d os e H = evalOps os (putO e d v) H := rfl
theorem xz0i {d : Option Nat} {os : List AOper} {H : AHeap} : evS none d os e H = none := rfl
theorem xz0f {H : AHeap} : evalOps [] e H = some e := rfl
theorem xz0g {d : Option Nat} {op : AOp} {g : Option (Nat × Bool)} {os : List AOper} {H : AHeap} : evalOps (⟨d, op, g⟩ :: os) e H = evS (pe op e H) d os e H := rfl
theorem xz0a {ops : List AOper} {l : List Seg} {p : Option (Nat × Nat)} : awSegs P (⟨none, ops, p⟩ :: l) K ⟨e, n, H⟩ = awOps P ops (awSegs P l K) ⟨e, n, H⟩ := rfl
theorem put_get {v : AV} (hv : v ≠ .any) : ∀ {e : AEnv} {t : Nat}, get e t = v → put e t v = e
  | [], t, h => absurd h.symm hv
  | (k, u) :: r, t, h => by
    simp only [get] at h
    simp only [put]
    split
    · rename_i hk; rw [if_pos hk] at h; rw [h, hk]
    · rename_i hk; rw [if_neg hk] at h; rw [put_get hv h]
def guardJ (want : Bool) (A B C : Prop) : AV → Prop
  | .bool b => (b = want → A) ∧ (b ≠ want → B)
  | .und => C
  | _ => False
theorem xz0b {t : Nat} {want : Bool} {ops : List AOper} {l : List Seg} : awSegs P (⟨some (t, want), ops, none⟩ :: l) K ⟨e, n, H⟩ = guardJ want (awOps P ops (awSegs P l K) ⟨put e t (.bool want), n, H⟩) (awSegs P l K ⟨undE (put e t (.bool (!want))) ops, n, H⟩) (awSegs P l K ⟨undE e ops, n, H⟩) (get e t) := by
  show guardK want _ (awSegs P l K ⟨undE e ops, n, H⟩) _ = _
  generalize hg : get e t = v
  cases v <;> try rfl
  rename_i b
  simp only [guardK, guardJ, eq_iff_iff]
  by_cases hb : b = want
  · subst hb
    rw [put_get (by simp) hg]
    simp
  · have hb' : b = !want := by cases b <;> cases want <;> simp_all
    subst hb'
    rw [put_get (by simp) hg]
    simp
theorem xz0j : awOps P [] K ⟨e, n, H⟩ = K ⟨e, n, H⟩ := rfl
theorem xz0k {d : Option Nat} {op : AOp} {os : List AOper} : awOps P (⟨d, op, none⟩ :: os) K ⟨e, n, H⟩ = awOp P d op (awOps P os K) ⟨e, n, H⟩ := rfl
theorem xz0l {S : List Nat} {ops : List AOper} : aw P (.regD S ops) Q ⟨e, n, H⟩ = gsK P (gsOf e S) ops (Q .normal) ⟨e, n, H⟩ := rfl
theorem xz0m {gs : List Nat} {ops : List AOper} {s : AS} : gsK P (some gs) ops K s = awOpsM P gs ops K s := rfl
theorem xz0n : gsOf e [] = some [] := rfl
theorem xz0o {t : Nat} {ts : List Nat} : gsOf e (t :: ts) = gsC (get e t) (gsOf e ts) := rfl
theorem xz0p {g o : Nat} {gs : List Nat} : gsC (.ptr g o) (some gs) = some (g :: gs) := rfl
def newPM (ob : AObj) (d : Option Nat) (K : AS → Prop) (e : AEnv) (n : Nat) (H : AHeap) : Prop := ∀ g, n ≤ g → H g = none → K ⟨putO e d (.ptr g 0), g + 1, upd H g (some ob)⟩
theorem newPM_of {ob : AObj} {d : Option Nat} {H : AHeap} (h : newP ob d K e n H) : newPM ob d K e n H := fun g hg _ => h g hg
def newSM (sz : Nat) (l : List AV) (ob : AObj) (d : Option Nat) (K : AS → Prop) (e : AEnv) (n : Nat) (H : AHeap) : Prop := ∀ g, n ≤ g → H g = none → K ⟨putO e d (.sl sz l (.own g)), g + 1, upd H g (some ob)⟩
theorem newSM_of {sz : Nat} {l : List AV} {ob : AObj} {d : Option Nat} {H : AHeap} (h : newS sz l ob d K e n H) : newSM sz l ob d K e n H := fun g hg _ => h g hg
theorem xz0q {gs : List Nat} : awOpsM P gs [] K ⟨e, n, H⟩ = K ⟨e, n, H⟩ := rfl
theorem xz0r {gs : List Nat} {d : Option Nat} {sh : Shp} {x : Opd} {os : List AOper} : awOpsM P gs (⟨d, .load sh x, none⟩ :: os) K ⟨e, n, H⟩ = KS (loadAV (maskH gs H) sh (ev e x)) d (awOpsM P gs os K) e n H := rfl
theorem xz0s {gs : List Nat} {d : Option Nat} {t : TypeId} {z : List AV} {os : List AOper} : awOpsM P gs (⟨d, .alloc t z, none⟩ :: os) K ⟨e, n, H⟩ = (ones z ∧ newPM (.cells t z) d (awOpsM P gs os K) e n H) := rfl
theorem xz0t {gs : List Nat} {d : Option Nat} {sh : Shp} {x v : Opd} {os : List AOper} : awOpsM P gs (⟨d, .store sh x v, none⟩ :: os) K ⟨e, n, H⟩ = (blkSt gs (ev e x) ∧ storeK sh d (awOpsM P gs os K) ⟨e, n, H⟩ (ev e v) (ev e x)) := rfl
theorem spg_mv {gs : List Nat} {t : Nat} {want : Bool} {d : Option Nat} {x : Opd} {os : List AOper} : awOpsM P gs (⟨d, .mv x, some (t, want)⟩ :: os) K ⟨e, n, H⟩ = guardK want (awOp P d (.mv x) (awOpsM P gs os K) ⟨e, n, H⟩) (awOpsM P gs os K ⟨putO e d .und, n, H⟩) (get e t) := by
  show (match get e t with | .bool b => _ | .und => _ | _ => False) = _
  cases get e t <;> rfl
theorem xz0u {gs : List Nat} {t : Nat} {want : Bool} {d : Option Nat} {op : BinOp} {x y : Opd} {os : List AOper} : awOpsM P gs (⟨d, .bin op x y, some (t, want)⟩ :: os) K ⟨e, n, H⟩ = guardK want (awOp P d (.bin op x y) (awOpsM P gs os K) ⟨e, n, H⟩) (awOpsM P gs os K ⟨putO e d .und, n, H⟩) (get e t) := by
  show (match get e t with | .bool b => _ | .und => _ | _ => False) = _
  cases get e t <;> rfl
theorem xz0v {gs : List Nat} {t : Nat} {want : Bool} {d : Option Nat} {ks : List FK} {neg : Bool} {x y : Opd} {os : List AOper} : awOpsM P gs (⟨d, .eqs ks neg x y, some (t, want)⟩ :: os) K ⟨e, n, H⟩ = guardK want (awOp P d (.eqs ks neg x y) (awOpsM P gs os K) ⟨e, n, H⟩) (awOpsM P gs os K ⟨putO e d .und, n, H⟩) (get e t) := by
  show (match get e t with | .bool b => _ | .und => _ | _ => False) = _
  cases get e t <;> rfl
theorem xz0w {gs : List Nat} {t : Nat} {want : Bool} {d : Option Nat} {neg : Bool} {x y : Opd} {os : List AOper} : awOpsM P gs (⟨d, .eqb neg x y, some (t, want)⟩ :: os) K ⟨e, n, H⟩ = guardK want (awOp P d (.eqb neg x y) (awOpsM P gs os K) ⟨e, n, H⟩) (awOpsM P gs os K ⟨putO e d .und, n, H⟩) (get e t) := by
  show (match get e t with | .bool b => _ | .und => _ | _ => False) = _
  cases get e t <;> rfl
theorem xz0x {gs : List Nat} {t : Nat} {want : Bool} {d : Option Nat} {neg : Bool} {x : Opd} {os : List AOper} : awOpsM P gs (⟨d, .eqn neg x, some (t, want)⟩ :: os) K ⟨e, n, H⟩ = guardK want (awOp P d (.eqn neg x) (awOpsM P gs os K) ⟨e, n, H⟩) (awOpsM P gs os K ⟨putO e d .und, n, H⟩) (get e t) := by
  show (match get e t with | .bool b => _ | .und => _ | _ => False) = _
  cases get e t <;> rfl
theorem xz0y {gs : List Nat} {t : Nat} {want : Bool} {d : Option Nat} {neg : Bool} {x : Opd} {os : List AOper} : awOpsM P gs (⟨d, .eqp neg x, some (t, want)⟩ :: os) K ⟨e, n, H⟩ = guardK want (awOp P d (.eqp neg x) (awOpsM P gs os K) ⟨e, n, H⟩) (awOpsM P gs os K ⟨putO e d .und, n, H⟩) (get e t) := by
  show (match get e t with | .bool b => _ | .und => _ | _ => False) = _
  cases get e t <;> rfl
theorem xz0z {gs : List Nat} {t : Nat} {want : Bool} {d : Option Nat} {neg : Bool} {x : Opd} {os : List AOper} : awOpsM P gs (⟨d, .eqi neg x, some (t, want)⟩ :: os) K ⟨e, n, H⟩ = guardK want (awOp P d (.eqi neg x) (awOpsM P gs os K) ⟨e, n, H⟩) (awOpsM P gs os K ⟨putO e d .und, n, H⟩) (get e t) := by
  show (match get e t with | .bool b => _ | .und => _ | _ => False) = _
  cases get e t <;> rfl
theorem xz10 {gs : List Nat} {t : Nat} {want : Bool} {d : Option Nat} {x : Opd} {os : List AOper} : awOpsM P gs (⟨d, .neg x, some (t, want)⟩ :: os) K ⟨e, n, H⟩ = guardK want (awOp P d (.neg x) (awOpsM P gs os K) ⟨e, n, H⟩) (awOpsM P gs os K ⟨putO e d .und, n, H⟩) (get e t) := by
  show (match get e t with | .bool b => _ | .und => _ | _ => False) = _
  cases get e t <;> rfl
theorem xz11 {gs : List Nat} {t : Nat} {want : Bool} {d : Option Nat} {x : Opd} {os : List AOper} : awOpsM P gs (⟨d, .not x, some (t, want)⟩ :: os) K ⟨e, n, H⟩ = guardK want (awOp P d (.not x) (awOpsM P gs os K) ⟨e, n, H⟩) (awOpsM P gs os K ⟨putO e d .und, n, H⟩) (get e t) := by
  show (match get e t with | .bool b => _ | .und => _ | _ => False) = _
  cases get e t <;> rfl
theorem xz12 {gs : List Nat} {t : Nat} {want : Bool} {d : Option Nat} {k : IntKind} {x : Opd} {os : List AOper} : awOpsM P gs (⟨d, .cvi k x, some (t, want)⟩ :: os) K ⟨e, n, H⟩ = guardK want (awOp P d (.cvi k x) (awOpsM P gs os K) ⟨e, n, H⟩) (awOpsM P gs os K ⟨putO e d .und, n, H⟩) (get e t) := by
  show (match get e t with | .bool b => _ | .und => _ | _ => False) = _
  cases get e t <;> rfl
theorem xz13 {gs : List Nat} {t : Nat} {want : Bool} {d : Option Nat} {sz : Nat} {x : Opd} {lo hi : Option Opd} {os : List AOper} : awOpsM P gs (⟨d, .cut sz x lo hi, some (t, want)⟩ :: os) K ⟨e, n, H⟩ = guardK want (awOp P d (.cut sz x lo hi) (awOpsM P gs os K) ⟨e, n, H⟩) (awOpsM P gs os K ⟨putO e d .und, n, H⟩) (get e t) := by
  show (match get e t with | .bool b => _ | .und => _ | _ => False) = _
  cases get e t <;> rfl
theorem xz14 {gs : List Nat} {t : Nat} {want : Bool} {d : Option Nat} {x : Opd} {lo hi : Option Opd} {os : List AOper} : awOpsM P gs (⟨d, .cutS x lo hi, some (t, want)⟩ :: os) K ⟨e, n, H⟩ = guardK want (awOp P d (.cutS x lo hi) (awOpsM P gs os K) ⟨e, n, H⟩) (awOpsM P gs os K ⟨putO e d .und, n, H⟩) (get e t) := by
  show (match get e t with | .bool b => _ | .und => _ | _ => False) = _
  cases get e t <;> rfl
theorem xz15 {gs : List Nat} {t : Nat} {want : Bool} {d : Option Nat} {x : Opd} {off : Nat} {s : Shp} {os : List AOper} : awOpsM P gs (⟨d, .faddr x off s, some (t, want)⟩ :: os) K ⟨e, n, H⟩ = guardK want (awOp P d (.faddr x off s) (awOpsM P gs os K) ⟨e, n, H⟩) (awOpsM P gs os K ⟨putO e d .und, n, H⟩) (get e t) := by
  show (match get e t with | .bool b => _ | .und => _ | _ => False) = _
  cases get e t <;> rfl
theorem xz16 {gs : List Nat} {t : Nat} {want : Bool} {d : Option Nat} {x : Opd} {off : Nat} {s : Shp} {os : List AOper} : awOpsM P gs (⟨d, .field x off s, some (t, want)⟩ :: os) K ⟨e, n, H⟩ = guardK want (awOp P d (.field x off s) (awOpsM P gs os K) ⟨e, n, H⟩) (awOpsM P gs os K ⟨putO e d .und, n, H⟩) (get e t) := by
  show (match get e t with | .bool b => _ | .und => _ | _ => False) = _
  cases get e t <;> rfl
theorem xz17 {gs : List Nat} {t : Nat} {want : Bool} {d : Option Nat} {sz : Nat} {s : Shp} {x i : Opd} {os : List AOper} : awOpsM P gs (⟨d, .iaddr sz s x i, some (t, want)⟩ :: os) K ⟨e, n, H⟩ = guardK want (awOp P d (.iaddr sz s x i) (awOpsM P gs os K) ⟨e, n, H⟩) (awOpsM P gs os K ⟨putO e d .und, n, H⟩) (get e t) := by
  show (match get e t with | .bool b => _ | .und => _ | _ => False) = _
  cases get e t <;> rfl
theorem xz18 {gs : List Nat} {t : Nat} {want : Bool} {d : Option Nat} {len sz : Nat} {s : Shp} {x i : Opd} {os : List AOper} : awOpsM P gs (⟨d, .aaddr len sz s x i, some (t, want)⟩ :: os) K ⟨e, n, H⟩ = guardK want (awOp P d (.aaddr len sz s x i) (awOpsM P gs os K) ⟨e, n, H⟩) (awOpsM P gs os K ⟨putO e d .und, n, H⟩) (get e t) := by
  show (match get e t with | .bool b => _ | .und => _ | _ => False) = _
  cases get e t <;> rfl
theorem xz19 {gs : List Nat} {t : Nat} {want : Bool} {d : Option Nat} {x i : Opd} {os : List AOper} : awOpsM P gs (⟨d, .sidx x i, some (t, want)⟩ :: os) K ⟨e, n, H⟩ = guardK want (awOp P d (.sidx x i) (awOpsM P gs os K) ⟨e, n, H⟩) (awOpsM P gs os K ⟨putO e d .und, n, H⟩) (get e t) := by
  show (match get e t with | .bool b => _ | .und => _ | _ => False) = _
  cases get e t <;> rfl
theorem xz1a {gs : List Nat} {t : Nat} {want : Bool} {d : Option Nat} {len sz : Nat} {s : Shp} {x i : Opd} {os : List AOper} : awOpsM P gs (⟨d, .aidx len sz s x i, some (t, want)⟩ :: os) K ⟨e, n, H⟩ = guardK want (awOp P d (.aidx len sz s x i) (awOpsM P gs os K) ⟨e, n, H⟩) (awOpsM P gs os K ⟨putO e d .und, n, H⟩) (get e t) := by
  show (match get e t with | .bool b => _ | .und => _ | _ => False) = _
  cases get e t <;> rfl
theorem xz1b {gs : List Nat} {t : Nat} {want : Bool} {d : Option Nat} {x : Opd} {os : List AOper} : awOpsM P gs (⟨d, .len x, some (t, want)⟩ :: os) K ⟨e, n, H⟩ = guardK want (awOp P d (.len x) (awOpsM P gs os K) ⟨e, n, H⟩) (awOpsM P gs os K ⟨putO e d .und, n, H⟩) (get e t) := by
  show (match get e t with | .bool b => _ | .und => _ | _ => False) = _
  cases get e t <;> rfl
theorem xz1c {gs : List Nat} {t : Nat} {want : Bool} {d : Option Nat} {x : Opd} {os : List AOper} : awOpsM P gs (⟨d, .lenS x, some (t, want)⟩ :: os) K ⟨e, n, H⟩ = guardK want (awOp P d (.lenS x) (awOpsM P gs os K) ⟨e, n, H⟩) (awOpsM P gs os K ⟨putO e d .und, n, H⟩) (get e t) := by
  show (match get e t with | .bool b => _ | .und => _ | _ => False) = _
  cases get e t <;> rfl
theorem xz1d {gs : List Nat} {t : Nat} {want : Bool} {d : Option Nat} {x : Opd} {i : Nat} {os : List AOper} : awOpsM P gs (⟨d, .extr x i, some (t, want)⟩ :: os) K ⟨e, n, H⟩ = guardK want (awOp P d (.extr x i) (awOpsM P gs os K) ⟨e, n, H⟩) (awOpsM P gs os K ⟨putO e d .und, n, H⟩) (get e t) := by
  show (match get e t with | .bool b => _ | .und => _ | _ => False) = _
  cases get e t <;> rfl
theorem xz1e {gs : List Nat} {t : Nat} {want : Bool} {d : Option Nat} {z : List AV} {ps : List (Nat × Shp × Opd)} {os : List AOper} : awOpsM P gs (⟨d, .build z ps, some (t, want)⟩ :: os) K ⟨e, n, H⟩ = guardK want (awOp P d (.build z ps) (awOpsM P gs os K) ⟨e, n, H⟩) (awOpsM P gs os K ⟨putO e d .und, n, H⟩) (get e t) := by
  show (match get e t with | .bool b => _ | .und => _ | _ => False) = _
  cases get e t <;> rfl
theorem spg_mm {gs : List Nat} {t : Nat} {want : Bool} {d : Option Nat} {mx : Bool} {x y : Opd} {os : List AOper} : awOpsM P gs (⟨d, .mm mx x y, some (t, want)⟩ :: os) K ⟨e, n, H⟩ = guardK want (awOp P d (.mm mx x y) (awOpsM P gs os K) ⟨e, n, H⟩) (awOpsM P gs os K ⟨putO e d .und, n, H⟩) (get e t) := by
  show (match get e t with | .bool b => _ | .und => _ | _ => False) = _
  cases get e t <;> rfl
theorem xz1f {gs : List Nat} {t : Nat} {want : Bool} {d : Option Nat} {sh : Shp} {x : Opd} {os : List AOper} : awOpsM P gs (⟨d, .load sh x, some (t, want)⟩ :: os) K ⟨e, n, H⟩ = guardK want (KS (loadAV (maskH gs H) sh (ev e x)) d (awOpsM P gs os K) e n H) (awOpsM P gs os K ⟨putO e d .und, n, H⟩) (get e t) := by
  show K1 (lvM gs sh x (some (t, want)) e H) _ = _
  unfold lvM
  simp only
  cases get e t <;> try rfl
  rename_i b
  simp only [guardK, eq_iff_iff]
  by_cases hb : b = want
  · rw [if_pos hb]
    exact ⟨fun h => ⟨fun _ => h, fun hne => absurd hb hne⟩, fun h => h.1 hb⟩
  · rw [if_neg hb]
    exact ⟨fun h => ⟨fun he => absurd he hb, fun _ => h⟩, fun h => h.2 hb⟩
theorem spm_mv {gs : List Nat} {d : Option Nat} {x : Opd} {os : List AOper} : awOpsM P gs (⟨d, .mv x, none⟩ :: os) K ⟨e, n, H⟩ = awOp P d (.mv x) (awOpsM P gs os K) ⟨e, n, H⟩ := rfl
theorem xz1g {gs : List Nat} {d : Option Nat} {c a b : Opd} {os : List AOper} : awOpsM P gs (⟨d, .pick c a b, none⟩ :: os) K ⟨e, n, H⟩ = awOp P d (.pick c a b) (awOpsM P gs os K) ⟨e, n, H⟩ := rfl
theorem xz1h {gs : List Nat} {d : Option Nat} {op : BinOp} {x y : Opd} {os : List AOper} : awOpsM P gs (⟨d, .bin op x y, none⟩ :: os) K ⟨e, n, H⟩ = awOp P d (.bin op x y) (awOpsM P gs os K) ⟨e, n, H⟩ := rfl
theorem xz1i {gs : List Nat} {d : Option Nat} {ks : List FK} {neg : Bool} {x y : Opd} {os : List AOper} : awOpsM P gs (⟨d, .eqs ks neg x y, none⟩ :: os) K ⟨e, n, H⟩ = awOp P d (.eqs ks neg x y) (awOpsM P gs os K) ⟨e, n, H⟩ := rfl
theorem xz1j {gs : List Nat} {d : Option Nat} {neg : Bool} {x y : Opd} {os : List AOper} : awOpsM P gs (⟨d, .eqb neg x y, none⟩ :: os) K ⟨e, n, H⟩ = awOp P d (.eqb neg x y) (awOpsM P gs os K) ⟨e, n, H⟩ := rfl
theorem xz1k {gs : List Nat} {d : Option Nat} {neg : Bool} {x : Opd} {os : List AOper} : awOpsM P gs (⟨d, .eqn neg x, none⟩ :: os) K ⟨e, n, H⟩ = awOp P d (.eqn neg x) (awOpsM P gs os K) ⟨e, n, H⟩ := rfl
theorem xz1l {gs : List Nat} {d : Option Nat} {neg : Bool} {x : Opd} {os : List AOper} : awOpsM P gs (⟨d, .eqp neg x, none⟩ :: os) K ⟨e, n, H⟩ = awOp P d (.eqp neg x) (awOpsM P gs os K) ⟨e, n, H⟩ := rfl
theorem xz1m {gs : List Nat} {d : Option Nat} {neg : Bool} {x : Opd} {os : List AOper} : awOpsM P gs (⟨d, .eqi neg x, none⟩ :: os) K ⟨e, n, H⟩ = awOp P d (.eqi neg x) (awOpsM P gs os K) ⟨e, n, H⟩ := rfl
theorem xz1n {gs : List Nat} {d : Option Nat} {x : Opd} {os : List AOper} : awOpsM P gs (⟨d, .neg x, none⟩ :: os) K ⟨e, n, H⟩ = awOp P d (.neg x) (awOpsM P gs os K) ⟨e, n, H⟩ := rfl
theorem xz1o {gs : List Nat} {d : Option Nat} {x : Opd} {os : List AOper} : awOpsM P gs (⟨d, .not x, none⟩ :: os) K ⟨e, n, H⟩ = awOp P d (.not x) (awOpsM P gs os K) ⟨e, n, H⟩ := rfl
theorem xz1p {gs : List Nat} {d : Option Nat} {k : IntKind} {x : Opd} {os : List AOper} : awOpsM P gs (⟨d, .cvi k x, none⟩ :: os) K ⟨e, n, H⟩ = awOp P d (.cvi k x) (awOpsM P gs os K) ⟨e, n, H⟩ := rfl
theorem xz1q {gs : List Nat} {d : Option Nat} {f : Nat} {fst cap : List Opd} {os : List AOper} : awOpsM P gs (⟨d, .mkfn f fst cap, none⟩ :: os) K ⟨e, n, H⟩ = awOp P d (.mkfn f fst cap) (awOpsM P gs os K) ⟨e, n, H⟩ := rfl
theorem xz1r {gs : List Nat} {d : Option Nat} {sz : Nat} {x : Opd} {lo hi : Option Opd} {os : List AOper} : awOpsM P gs (⟨d, .cut sz x lo hi, none⟩ :: os) K ⟨e, n, H⟩ = awOp P d (.cut sz x lo hi) (awOpsM P gs os K) ⟨e, n, H⟩ := rfl
theorem xz1s {gs : List Nat} {d : Option Nat} {x : Opd} {lo hi : Option Opd} {os : List AOper} : awOpsM P gs (⟨d, .cutS x lo hi, none⟩ :: os) K ⟨e, n, H⟩ = awOp P d (.cutS x lo hi) (awOpsM P gs os K) ⟨e, n, H⟩ := rfl
theorem xz1t {gs : List Nat} {d : Option Nat} {x : Opd} {off : Nat} {s : Shp} {os : List AOper} : awOpsM P gs (⟨d, .faddr x off s, none⟩ :: os) K ⟨e, n, H⟩ = awOp P d (.faddr x off s) (awOpsM P gs os K) ⟨e, n, H⟩ := rfl
theorem xz1u {gs : List Nat} {d : Option Nat} {x : Opd} {off : Nat} {s : Shp} {os : List AOper} : awOpsM P gs (⟨d, .field x off s, none⟩ :: os) K ⟨e, n, H⟩ = awOp P d (.field x off s) (awOpsM P gs os K) ⟨e, n, H⟩ := rfl
theorem xz1v {gs : List Nat} {d : Option Nat} {sz : Nat} {s : Shp} {x i : Opd} {os : List AOper} : awOpsM P gs (⟨d, .iaddr sz s x i, none⟩ :: os) K ⟨e, n, H⟩ = awOp P d (.iaddr sz s x i) (awOpsM P gs os K) ⟨e, n, H⟩ := rfl
theorem xz1w {gs : List Nat} {d : Option Nat} {len sz : Nat} {s : Shp} {x i : Opd} {os : List AOper} : awOpsM P gs (⟨d, .aaddr len sz s x i, none⟩ :: os) K ⟨e, n, H⟩ = awOp P d (.aaddr len sz s x i) (awOpsM P gs os K) ⟨e, n, H⟩ := rfl
theorem xz1x {gs : List Nat} {d : Option Nat} {x i : Opd} {os : List AOper} : awOpsM P gs (⟨d, .sidx x i, none⟩ :: os) K ⟨e, n, H⟩ = awOp P d (.sidx x i) (awOpsM P gs os K) ⟨e, n, H⟩ := rfl
theorem xz1y {gs : List Nat} {d : Option Nat} {len sz : Nat} {s : Shp} {x i : Opd} {os : List AOper} : awOpsM P gs (⟨d, .aidx len sz s x i, none⟩ :: os) K ⟨e, n, H⟩ = awOp P d (.aidx len sz s x i) (awOpsM P gs os K) ⟨e, n, H⟩ := rfl
theorem xz1z {gs : List Nat} {d : Option Nat} {x : Opd} {os : List AOper} : awOpsM P gs (⟨d, .len x, none⟩ :: os) K ⟨e, n, H⟩ = awOp P d (.len x) (awOpsM P gs os K) ⟨e, n, H⟩ := rfl
theorem xz20 {gs : List Nat} {d : Option Nat} {x : Opd} {os : List AOper} : awOpsM P gs (⟨d, .lenS x, none⟩ :: os) K ⟨e, n, H⟩ = awOp P d (.lenS x) (awOpsM P gs os K) ⟨e, n, H⟩ := rfl
theorem xz21 {gs : List Nat} {d : Option Nat} {j : Nat} {os : List AOper} : awOpsM P gs (⟨d, .clen j, none⟩ :: os) K ⟨e, n, H⟩ = awOp P d (.clen j) (awOpsM P gs os K) ⟨e, n, H⟩ := rfl
theorem xz22 {gs : List Nat} {d : Option Nat} {x : Opd} {i : Nat} {os : List AOper} : awOpsM P gs (⟨d, .extr x i, none⟩ :: os) K ⟨e, n, H⟩ = awOp P d (.extr x i) (awOpsM P gs os K) ⟨e, n, H⟩ := rfl
theorem xz23 {gs : List Nat} {d : Option Nat} {x : Opd} {os : List AOper} : awOpsM P gs (⟨d, .nilck x, none⟩ :: os) K ⟨e, n, H⟩ = awOp P d (.nilck x) (awOpsM P gs os K) ⟨e, n, H⟩ := rfl
theorem xz24 {gs : List Nat} {d : Option Nat} {z : List AV} {ps : List (Nat × Shp × Opd)} {os : List AOper} : awOpsM P gs (⟨d, .build z ps, none⟩ :: os) K ⟨e, n, H⟩ = awOp P d (.build z ps) (awOpsM P gs os K) ⟨e, n, H⟩ := rfl
theorem spm_mm {gs : List Nat} {d : Option Nat} {mx : Bool} {x y : Opd} {os : List AOper} : awOpsM P gs (⟨d, .mm mx x y, none⟩ :: os) K ⟨e, n, H⟩ = awOp P d (.mm mx x y) (awOpsM P gs os K) ⟨e, n, H⟩ := rfl
theorem xz25 {gs : List Nat} {d : Option Nat} {x : Opd} {os : List AOper} : awOpsM P gs (⟨d, .b2s x, none⟩ :: os) K ⟨e, n, H⟩ = awOp P d (.b2s x) (awOpsM P gs os K) ⟨e, n, H⟩ := rfl
theorem xz26 {gs : List Nat} {d : Option Nat} {x : Opd} {os : List AOper} : awOpsM P gs (⟨d, .r2s x, none⟩ :: os) K ⟨e, n, H⟩ = awOp P d (.r2s x) (awOpsM P gs os K) ⟨e, n, H⟩ := rfl
theorem xz27 {gs : List Nat} {d : Option Nat} {x : Opd} {os : List AOper} : awOpsM P gs (⟨d, .upc x, none⟩ :: os) K ⟨e, n, H⟩ = awOp P d (.upc x) (awOpsM P gs os K) ⟨e, n, H⟩ := rfl
theorem xz28 {gs : List Nat} {d : Option Nat} {neg : Bool} {x y : Opd} {os : List AOper} : awOpsM P gs (⟨d, .eqpp neg x y, none⟩ :: os) K ⟨e, n, H⟩ = awOp P d (.eqpp neg x y) (awOpsM P gs os K) ⟨e, n, H⟩ := rfl
theorem xz29 {gs : List Nat} {d : Option Nat} {u : TypeId} {x : Opd} {os : List AOper} : awOpsM P gs (⟨d, .updn u x, none⟩ :: os) K ⟨e, n, H⟩ = awOp P d (.updn u x) (awOpsM P gs os K) ⟨e, n, H⟩ := rfl
theorem xz2a {gs : List Nat} {d : Option Nat} {el : TypeId} {x : Opd} {os : List AOper} : awOpsM P gs (⟨d, .usd el x, none⟩ :: os) K ⟨e, n, H⟩ = awOp P d (.usd el x) (awOpsM P gs os K) ⟨e, n, H⟩ := rfl
theorem xz2b {gs : List Nat} {d : Option Nat} {el : TypeId} {x j : Opd} {os : List AOper} : awOpsM P gs (⟨d, .ust el x j, none⟩ :: os) K ⟨e, n, H⟩ = awOp P d (.ust el x j) (awOpsM P gs os K) ⟨e, n, H⟩ := rfl
theorem xz2c {gs : List Nat} {d : Option Nat} {el : TypeId} {s : Shp} {x : Opd} {os : List AOper} : awOpsM P gs (⟨d, .box el s x, none⟩ :: os) K ⟨e, n, H⟩ = awOp P d (.box el s x) (awOpsM P gs os K) ⟨e, n, H⟩ := rfl
theorem xz2d {gs : List Nat} {d : Option Nat} {el : TypeId} {s : Shp} {xs : List Opd} {os : List AOper} : awOpsM P gs (⟨d, .bsl el s xs, none⟩ :: os) K ⟨e, n, H⟩ = (bslOk s (xs.map (ev e)) ∧ newSM (shpSz s) (xs.map (ev e)) (.row el xs.length) d (awOpsM P gs os K) e n H) := by
  have h : bslOk s (xs.map (ev e)) = (∀ x ∈ xs, (ev e x).fits s = true ∧ ones (ev e x).cells) := by simp [bslOk, fitOk]
  rw [h]; rfl
theorem xz2e {gs : List Nat} {d : Option Nat} {el sz by_ : Nat} {x y : Opd} {os : List AOper} : awOpsM P gs (⟨d, .app el sz by_ x y, none⟩ :: os) K ⟨e, n, H⟩ = awOp P d (.app el sz by_ x y) (awOpsM P gs os K) ⟨e, n, H⟩ := rfl
theorem xz2f {gs : List Nat} {d : Option Nat} {el by_ : Nat} {x y : Opd} {os : List AOper} : awOpsM P gs (⟨d, .appB el by_ x y, none⟩ :: os) K ⟨e, n, H⟩ = awOp P d (.appB el by_ x y) (awOpsM P gs os K) ⟨e, n, H⟩ := rfl
theorem xz2g {gs : List Nat} {d : Option Nat} {el : TypeId} {x : Opd} {os : List AOper} : awOpsM P gs (⟨d, .s2b el x, none⟩ :: os) K ⟨e, n, H⟩ = awOp P d (.s2b el x) (awOpsM P gs os K) ⟨e, n, H⟩ := rfl
theorem xz2h {gs : List Nat} {d : Option Nat} {x : Opd} {os : List AOper} : awOpsM P gs (⟨d, .s2s x, none⟩ :: os) K ⟨e, n, H⟩ = awOp P d (.s2s x) (awOpsM P gs os K) ⟨e, n, H⟩ := rfl
theorem xz2i {gs : List Nat} {d : Option Nat} {kk : Option IntKind} {os : List AOper} : awOpsM P gs (⟨d, .mkmap kk, none⟩ :: os) K ⟨e, n, H⟩ = awOp P d (.mkmap kk) (awOpsM P gs os K) ⟨e, n, H⟩ := rfl
theorem xz2j {gs : List Nat} {d : Option Nat} {kk : Option IntKind} {m k v : Opd} {os : List AOper} : awOpsM P gs (⟨d, .mset kk m k v, none⟩ :: os) K ⟨e, n, H⟩ = awOp P d (.mset kk m k v) (awOpsM P gs os K) ⟨e, n, H⟩ := rfl
theorem xz2k {gs : List Nat} {d : Option Nat} {kk : Option IntKind} {z : AV} {ok : Bool} {m k : Opd} {os : List AOper} : awOpsM P gs (⟨d, .mget kk z ok m k, none⟩ :: os) K ⟨e, n, H⟩ = awOp P d (.mget kk z ok m k) (awOpsM P gs os K) ⟨e, n, H⟩ := rfl
theorem xz2l {gs : List Nat} {d : Option Nat} {f : Nat} {xs : List Opd} {os : List AOper} : awOpsM P gs (⟨d, .call f xs, none⟩ :: os) K ⟨e, n, H⟩ = awOp P d (.call f xs) (awOpsM P gs os K) ⟨e, n, H⟩ := rfl
theorem xz2m {gs : List Nat} {d : Option Nat} {f : Nat} {xs : List Opd} {os : List AOper} : awOpsM P gs (⟨d, .callp f xs, none⟩ :: os) K ⟨e, n, H⟩ = awOp P d (.callp f xs) (awOpsM P gs os K) ⟨e, n, H⟩ := rfl
theorem xz2n {gs : List Nat} {d : Option Nat} {f : Opd} {xs : List Opd} {os : List AOper} : awOpsM P gs (⟨d, .callv f xs, none⟩ :: os) K ⟨e, n, H⟩ = awOp P d (.callv f xs) (awOpsM P gs os K) ⟨e, n, H⟩ := rfl
theorem xz2o {v : AV} : blkSt [] v = True := by simp [blkSt]
theorem xz2p {a : Nat} {gs : List Nat} {v : AV} : blkSt (a :: gs) v = blkIn (a :: gs) v := by simp [blkSt]
theorem xz2q {gs : List Nat} {g o : Nat} : blkIn gs (.ptr g o) = (g ∈ gs) := rfl
theorem xz2r {a : Nat} {gs : List Nat} {H : AHeap} {k : Nat} : maskH (a :: gs) H k = if k = a then none else maskH gs H k := rfl
theorem xz2s {H : AHeap} {k : Nat} : maskH [] H k = H k := rfl
theorem op_mv {d : Option Nat} {x : Opd} : awOp P d (.mv x) K ⟨e, n, H⟩ = KS (some (ev e x)) d K e n H := rfl
theorem xz2t {d : Option Nat} {c a b : Opd} : awOp P d (.pick c a b) K ⟨e, n, H⟩ = KS (match ev e c with | .bool t => some (if t then ev e a else ev e b) | _ => none) d K e n H := rfl
theorem op_bin {d : Option Nat} {o : BinOp} {x y : Opd} : awOp P d (.bin o x y) K ⟨e, n, H⟩ = KS (binAV o (ev e x) (ev e y)) d K e n H := rfl
theorem op_eqs {d : Option Nat} {ks : List FK} {ng : Bool} {x y : Opd} : awOp P d (.eqs ks ng x y) K ⟨e, n, H⟩ = KS (eqsV ks ng (ev e x) (ev e y)) d K e n H := rfl
theorem op_eqb {d : Option Nat} {ng : Bool} {x y : Opd} : awOp P d (.eqb ng x y) K ⟨e, n, H⟩ = KS (eqbV ng (ev e x) (ev e y)) d K e n H := rfl
theorem op_eqn {d : Option Nat} {ng : Bool} {x : Opd} : awOp P d (.eqn ng x) K ⟨e, n, H⟩ = KS ((isNil (ev e x)).map (ngV ng)) d K e n H := rfl
theorem op_eqp {d : Option Nat} {ng : Bool} {x : Opd} : awOp P d (.eqp ng x) K ⟨e, n, H⟩ = KS ((isNilP (ev e x)).map (ngV ng)) d K e n H := rfl
theorem op_eqi {d : Option Nat} {ng : Bool} {x : Opd} : awOp P d (.eqi ng x) K ⟨e, n, H⟩ = KS ((isNilI (ev e x)).map (ngV ng)) d K e n H := rfl
theorem op_neg {d : Option Nat} {x : Opd} : awOp P d (.neg x) K ⟨e, n, H⟩ = KS (negV (ev e x)) d K e n H := rfl
theorem op_not {d : Option Nat} {x : Opd} : awOp P d (.not x) K ⟨e, n, H⟩ = KS (notV (ev e x)) d K e n H := rfl
theorem op_cvi {d : Option Nat} {k : IntKind} {x : Opd} : awOp P d (.cvi k x) K ⟨e, n, H⟩ = KS (cviV k (ev e x)) d K e n H := rfl
theorem xz2u {d : Option Nat} {f : Nat} {a b : List Opd} : awOp P d (.mkfn f a b) K ⟨e, n, H⟩ = KS (some (.fn f (a.map (ev e)) (b.map (ev e)))) d K e n H := rfl
theorem xz2v {d : Option Nat} {x : Opd} {lo hi : Option Opd} : awOp P d (.cutS x lo hi) K ⟨e, n, H⟩ = KS (cutSV (ev e x) (lo.map (ev e)) (hi.map (ev e))) d K e n H := rfl
theorem op_cut {d : Option Nat} {sz : Nat} {x : Opd} {lo hi : Option Opd} : awOp P d (.cut sz x lo hi) K ⟨e, n, H⟩ = KS (cutAV sz (ev e x) (lo.map (ev e)) (hi.map (ev e))) d K e n H := rfl
theorem xz2w {d : Option Nat} {x : Opd} {o : Nat} {s : Shp} : awOp P d (.faddr x o s) K ⟨e, n, H⟩ = KS (xz3s (ev e x) o s) d K e n H := rfl
theorem xz2x {d : Option Nat} {x : Opd} {o : Nat} {s : Shp} : awOp P d (.field x o s) K ⟨e, n, H⟩ = KS (fieldV (ev e x) o s) d K e n H := rfl
theorem xz2y {d : Option Nat} {sz : Nat} {s : Shp} {x i : Opd} : awOp P d (.iaddr sz s x i) K ⟨e, n, H⟩ = KS (iaddrAV sz s (ev e x) (ev e i)) d K e n H := rfl
theorem xz2z {d : Option Nat} {l sz : Nat} {s : Shp} {x i : Opd} : awOp P d (.aaddr l sz s x i) K ⟨e, n, H⟩ = KS (xz3u l sz s (ev e x) (ev e i)) d K e n H := rfl
theorem xz30 {d : Option Nat} {x i : Opd} : awOp P d (.sidx x i) K ⟨e, n, H⟩ = KS (sidxV (ev e x) (ev e i)) d K e n H := rfl
theorem xz31 {d : Option Nat} {l sz : Nat} {s : Shp} {x i : Opd} : awOp P d (.aidx l sz s x i) K ⟨e, n, H⟩ = KS (aidxV l sz s (ev e x) (ev e i)) d K e n H := rfl
theorem op_len {d : Option Nat} {x : Opd} : awOp P d (.len x) K ⟨e, n, H⟩ = KS (lenV (ev e x)) d K e n H := rfl
theorem xz32 {d : Option Nat} {x : Opd} : awOp P d (.lenS x) K ⟨e, n, H⟩ = KS (lenSV (ev e x)) d K e n H := rfl
theorem xz33 {d : Option Nat} {m : Nat} : awOp P d (.clen m) K ⟨e, n, H⟩ = KS (some (.int .i64 m)) d K e n H := rfl
theorem xz34 {d : Option Nat} {x : Opd} {i : Nat} : awOp P d (.extr x i) K ⟨e, n, H⟩ = KS (extrV i (ev e x)) d K e n H := rfl
theorem xz35 {d : Option Nat} {x : Opd} : awOp P d (.nilck x) K ⟨e, n, H⟩ = KS (nilckV (ev e x)) d K e n H := rfl
theorem xz36 {d : Option Nat} {s : Shp} {x : Opd} : awOp P d (.load s x) K ⟨e, n, H⟩ = KS (loadAV H s (ev e x)) d K e n H := rfl
theorem xz37 {d : Option Nat} {z : List AV} {ps : List (Nat × Shp × Opd)} : awOp P d (.build z ps) K ⟨e, n, H⟩ = KS (buildV z (ps.map fun (o, s, x) => (o, s, ev e x))) d K e n H := by
  have h : (ps.map fun (o, _, x) => (o, ev e x)) = (ps.map fun (o, s, x) => (o, s, ev e x)).map fun (o, _, x) => (o, x) := by rw [List.map_map]; rfl
  show K1 (if _ then some (.agg (xz4d z _)) else none) _ = _
  rw [h]; unfold KS buildV; split <;> rfl
theorem op_mm {d : Option Nat} {mx : Bool} {x y : Opd} : awOp P d (.mm mx x y) K ⟨e, n, H⟩ = KS (mmV mx (ev e x) (ev e y)) d K e n H := rfl
theorem op_b2s {d : Option Nat} {x : Opd} : awOp P d (.b2s x) K ⟨e, n, H⟩ = KS (b2sV (ev e x)) d K e n H := rfl
theorem op_r2s {d : Option Nat} {x : Opd} : awOp P d (.r2s x) K ⟨e, n, H⟩ = KS (r2sV (ev e x)) d K e n H := rfl
theorem op_upc {d : Option Nat} {x : Opd} : awOp P d (.upc x) K ⟨e, n, H⟩ = KS (upcAV H (ev e x)) d K e n H := rfl
theorem op_usd {d : Option Nat} {el : TypeId} {x : Opd} : awOp P d (.usd el x) K ⟨e, n, H⟩ = KS (usdAV H el (ev e x)) d K e n H := rfl
theorem xz38 {d : Option Nat} {ng : Bool} {x y : Opd} : awOp P d (.eqpp ng x y) K ⟨e, n, H⟩ = KS (eqppV ng (ev e x) (ev e y)) d K e n H := rfl
theorem xz39 {d : Option Nat} {u : TypeId} {x : Opd} : awOp P d (.updn u x) K ⟨e, n, H⟩ = KS (updnAV P H u (ev e x)) d K e n H := rfl
theorem op_ust {d : Option Nat} {t : TypeId} {x m : Opd} : awOp P d (.ust t x m) K ⟨e, n, H⟩ = KS (ustAV t (ev e x) (ev e m)) d K e n H := rfl
theorem xz3a {d : Option Nat} {t : TypeId} {z : List AV} : awOp P d (.alloc t z) K ⟨e, n, H⟩ = (ones z ∧ newP (.cells t z) d K e n H) := rfl
theorem op_box {d : Option Nat} {t : TypeId} {sh : Shp} {x : Opd} : awOp P d (.box t sh x) K ⟨e, n, H⟩ = ((fitOk sh (ev e x) ∧ newP (.cells t (ev e x).cells) d K e n H)) := propext and_assoc.symm
theorem xz3b {d : Option Nat} {sh : Shp} {x v : Opd} : awOp P d (.store sh x v) K ⟨e, n, H⟩ = storeK sh d K ⟨e, n, H⟩ (ev e v) (ev e x) := rfl
/-- a slice of new elements: one to append to, or one whose elements may be turned -/
def newB (el sz : Nat) (l : List AV) (d : Option Nat) (K : AS → Prop) (e : AEnv) (n : Nat) (H : AHeap) : Prop := newS sz l (.row el l.length) d K e n H ∨ ∀ g, n ≤ g → K ⟨putO e d (.slm sz g 0 l.length), g + 1, upd H g (some (.cells el (flatA l)))⟩
theorem newB_own {el sz : Nat} {l : List AV} {d : Option Nat} (h : newS sz l (.row el l.length) d K e n H) : newB el sz l d K e n H := .inl h
theorem newB_mut {el sz : Nat} {l : List AV} {d : Option Nat} (h : ∀ g, n ≤ g → K ⟨putO e d (.slm sz g 0 l.length), g + 1, upd H g (some (.cells el (flatA l)))⟩) : newB el sz l d K e n H := .inr h
theorem op_bsl {d : Option Nat} {t : TypeId} {sh : Shp} {xs : List Opd} : awOp P d (.bsl t sh xs) K ⟨e, n, H⟩ = (bslOk sh (xs.map (ev e)) ∧ newB t (shpSz sh) (xs.map (ev e)) d K e n H) := by
  have h : bslOk sh (xs.map (ev e)) = (∀ x ∈ xs, (ev e x).fits sh = true ∧ ones (ev e x).cells) := by simp [bslOk, fitOk]
  rw [h]
  unfold newB newS
  rw [List.length_map]; rfl
theorem op_app {d : Option Nat} {t sz b : Nat} {x y : Opd} : awOp P d (.app t sz b x y) K ⟨e, n, H⟩ = appKS t sz b d K ⟨e, n, H⟩ (ev e x) (ev e y) := rfl
theorem xz3c {d : Option Nat} {t b : Nat} {x y : Opd} : awOp P d (.appB t b x y) K ⟨e, n, H⟩ = appKB t b d K ⟨e, n, H⟩ (ev e x) (ev e y) := rfl
theorem op_s2b {d : Option Nat} {t : TypeId} {x : Opd} : awOp P d (.s2b t x) K ⟨e, n, H⟩ = s2bK d K e n H (ev e x) := rfl
theorem op_s2s {d : Option Nat} {x : Opd} : awOp P d (.s2s x) K ⟨e, n, H⟩ = s2sK d K e n H (ev e x) := rfl
theorem xz3d {d : Option Nat} {kk : Option IntKind} : awOp P d (.mkmap kk) K ⟨e, n, H⟩ = newM kk d K e n H := rfl
theorem xz3e {d : Option Nat} {kk : Option IntKind} {m k v : Opd} : awOp P d (.mset kk m k v) K ⟨e, n, H⟩ = msetS kk d K ⟨e, n, H⟩ (ev e k) (ev e v) (ev e m) := rfl
/-- a round over a map begins -/
def newI (m : Nat) (o : Option AObj) (d : Option Nat) (K : AS → Prop) (e : AEnv) (n : Nat) (H : AHeap) : Prop := match o with
  | some (.map _ es) => ∀ g, n ≤ g → K ⟨putO e d (.ptr g 0), g + 1, upd H g (some (.iter m es.length (List.range es.length) none))⟩
  | _ => False
/-- its next entry, whichever -/
def nxtJ (g m len : Nat) (left : List Nat) (o : Option AObj) (d : Option Nat) (K : AS → Prop) (e : AEnv) (n : Nat) (H : AHeap) : Prop := match o with
  | some (.map _ es) => es.length = len ∧ (left = [] → K ⟨putO e d (.tup [.bool false]), n, H⟩) ∧ ∀ j ∈ left, ∀ k v, es[j]? = some (k, v) → K ⟨putO e d (.tup [.bool true, k, v]), n, upd H g (some (.iter m len (left.erase j) (some j)))⟩
  | _ => False
def nxtK (g : Nat) (o : Option AObj) (d : Option Nat) (K : AS → Prop) (e : AEnv) (n : Nat) (H : AHeap) : Prop := match o with
  | some (.iter m len left _) => nxtJ g m len left (H m) d K e n H
  | _ => False
theorem xz4k {g m len : Nat} {left : List Nat} {cur d : Option Nat} : nxtK g (some (.iter m len left cur)) d K e n H = nxtJ g m len left (H m) d K e n H := rfl
theorem xz4i {m : Nat} {d : Option Nat} : rngS d K ⟨e, n, H⟩ (.mp m) = newI m (H m) d K e n H := rfl
theorem xz4j {g : Nat} {d : Option Nat} : nxtS d K ⟨e, n, H⟩ (.ptr g 0) = nxtK g (H g) d K e n H := propext ⟨fun h => h.2, fun h => ⟨rfl, h⟩⟩
theorem newI_go {m : Nat} {kk : Option IntKind} {es : List (AV × AV)} {d : Option Nat} (h : ∀ g, n ≤ g → K ⟨putO e d (.ptr g 0), g + 1, upd H g (some (.iter m es.length (List.range es.length) none))⟩) : newI m (some (.map kk es)) d K e n H := h
theorem nxtJ_go {g m len : Nat} {left : List Nat} {kk : Option IntKind} {es : List (AV × AV)} {d : Option Nat} (hl : es.length = len) (h0 : left = [] → K ⟨putO e d (.tup [.bool false]), n, H⟩)
    (h1 : ∀ j ∈ left, ∀ k v, es[j]? = some (k, v) → K ⟨putO e d (.tup [.bool true, k, v]), n, upd H g (some (.iter m len (left.erase j) (some j)))⟩) : nxtJ g m len left (some (.map kk es)) d K e n H := ⟨hl, h0, h1⟩
/-- a slice of a number of empty elements -/
def newE (el : TypeId) (z : AV) (m : Nat) (d : Option Nat) (K : AS → Prop) (e : AEnv) (n : Nat) (H : AHeap) : Prop := ∀ g, n ≤ g → K ⟨putO e d (.slm 1 g 0 m), g + 1, upd H g (some (.cells el (List.replicate m z)))⟩
theorem xz4q {el : TypeId} {b : Nat} {z : AV} {d : Option Nat} {k k' : IntKind} {p q : Int} : mkslS el b z d K ⟨e, n, H⟩ (.int k p) (.int k' q) = (p = q ∧ 0 ≤ p ∧ (b : Int) * p ≤ 281474976710656 ∧ p ≤ maxLen ∧ newE el z p.toNat d K e n H) := rfl
theorem xz4p {d : Option Nat} {el : TypeId} {b : Nat} {z : AV} {x y : Opd} : awOp P d (.mksl el b z x y) K ⟨e, n, H⟩ = mkslS el b z d K ⟨e, n, H⟩ (ev e x) (ev e y) := rfl
theorem op_rng {d : Option Nat} {x : Opd} : awOp P d (.rng x) K ⟨e, n, H⟩ = rngS d K ⟨e, n, H⟩ (ev e x) := rfl
theorem op_nxt {d : Option Nat} {x : Opd} : awOp P d (.nxt x) K ⟨e, n, H⟩ = nxtS d K ⟨e, n, H⟩ (ev e x) := rfl
theorem op_ent {d : Option Nat} {x : Opd} : awOp P d (.ent x) K ⟨e, n, H⟩ = KS (entV H (ev e x)) d K e n H := rfl
theorem xz3f {d : Option Nat} {kk : Option IntKind} {z : AV} {ok : Bool} {m k : Opd} : awOp P d (.mget kk z ok m k) K ⟨e, n, H⟩ = KS (mgetV H kk z ok (ev e m) (ev e k)) d K e n H := rfl
theorem xz3g {d : Option Nat} {f : Nat} {xs : List Opd} : awOp P d (.call f xs) K ⟨e, n, H⟩ = CallK P f (xs.map (ev e)) d K ⟨e, n, H⟩ := rfl
theorem xz3h {d : Option Nat} {f : Nat} {xs : List Opd} : awOp P d (.callp f xs) K ⟨e, n, H⟩ = CallP P f (xs.map (ev e)) d K ⟨e, n, H⟩ := rfl
theorem xz3i {d : Option Nat} {x : Opd} {xs : List Opd} : awOp P d (.callv x xs) K ⟨e, n, H⟩ = callvK P d K e n H (xs.map (ev e)) (ev e x) := rfl
theorem appS_nil {el sz by_ z z' : Nat} {d : Option Nat} {m m' : List AV} {t : Tok} (hz : z' = sz ∨ m = []) (hs : simL m m') (hm : m ≠ []) (hb : m.length * by_ ≤ 140737488355328) (hx : m.length ≤ maxLen) (h : ∀ g, n ≤ g → K ⟨putO e d (.sl sz m' (.own g)), g + 1, upd H g (some (.row el m'.length))⟩) : appKS el sz by_ d K ⟨e, n, H⟩ (.sl z [] .nil) (.sl z' m t) := by
  have hl := simL_len hs
  exact ⟨hz, m', hs, by simpa [hl] using hb, by simpa [hl] using hx, fun h' => absurd h' (fun e => hm (List.length_eq_zero_iff.1 (by rw [hl, e]; rfl))), fun _ => h⟩
theorem appS_own {el sz by_ g0 z' : Nat} {d : Option Nat} {l m m' : List AV} {t : Tok} (hz : z' = sz ∨ m = []) (hs : simL m m') (hr : H g0 = some (.row el l.length)) (hb : (l.length + m.length) * by_ ≤ 140737488355328) (hx : l.length + m.length ≤ maxLen) (h : ∀ g n', (g = g0 ∨ n ≤ g) → n ≤ n' → g < n' → K ⟨putO e d (.sl sz (l ++ m') (.own g)), n', upd (upd H g0 none) g (some (.row el (l.length + m'.length)))⟩) : appKS el sz by_ d K ⟨e, n, H⟩ (.sl sz l (.own g0)) (.sl z' m t) := by
  have hl := simL_len hs
  exact ⟨hz, m', hs, by rw [← hl]; exact hb, by rw [← hl]; exact hx, rfl, hr, h⟩
theorem xz3m {X : AS → Prop} {s : AS} : thenA X Q .normal s = X s := rfl
theorem xz3n {X : AS → Prop} {s : AS} {i : Nat} : thenA X Q (.exit i) s = Q (.exit i) s := rfl
theorem xz3o {X : AS → Prop} {s : AS} : thenA X Q .ret s = Q .ret s := rfl
theorem xz3p {id : Nat} {s : AS} : blockA id Q .normal s = Q .normal s := rfl
theorem xz3q {id i : Nat} {s : AS} : blockA id Q (.exit i) s = if i = id then Q .normal s else Q (.exit i) s := rfl
theorem xz3r {id : Nat} {s : AS} : blockA id Q .ret s = Q .ret s := rfl
end
end Go.Proofs.YtnmkpadgogbgkaaDoor
