/- The program's operations that only compute agree with those on plain data; no condition. -/
import Derived.Test.YtnfjgphfaemjcaaGreatDoorMgD
import Derived.WalkKit
import Derived.Laws.StructEq
import Derived.Laws.BytesString
import Derived.Laws.Tables
import Derived.Lib.UnsafeStr
import Derived.Laws.Externs
import Derived.KernelRfl
import Derived.Laws.CopyRow
import Derived.Lib.FrozenHead
set_option linter.all false
set_option maxHeartbeats 1000000
namespace Go.Proofs.YtnfjgphfaemjcaaGreatDoor
open Go.RowKit
section
variable {G : Gh}
theorem Vq {v : Value} {x : AV} (h : cv0 v = some x) : Rep G v x ∧ x.one = true := by
 unfold cv0 at h
 split at h <;> first | (injection h with h; subst h; exact ⟨by constructor <;> rfl, rfl⟩) | cases h
theorem WC {vs : List Value} {xs : List AV} (h : cvL vs = some xs) : RepL G vs xs ∧ ∀ x ∈ xs, x.one = true := by
 induction vs generalizing xs with
 | nil => simp [cvL] at h; subst h; exact ⟨.nil, by simp⟩
 | cons v vs ih =>
  simp only [cvL] at h
  split at h
  ·rename_i x ys h1 h2
   injection h with h; subst h
   obtain ⟨a, b⟩ := ih h2
   obtain ⟨c, d⟩ := Vq (G := G) h1
   exact ⟨.cons c a, fun y hy => by rcases List.mem_cons.1 hy with rfl | hy; exact d; exact b y hy⟩
  ·cases h
theorem Xf {v : Value} {x : AV} (h : cv v = some x) : Rep G v x := by
 unfold cv at h
 split at h
 ·rename_i cs
  cases hc : cvL cs.toList with
  | none => rw [hc] at h; cases h
  | some xs =>
   rw [hc] at h
   injection h with h
   subst h
   obtain ⟨a, b⟩ := WC (G := G) hc
   have := Rep.agg a b
   simpa using this
 ·exact (Vq h).1
theorem AJ {x : Operand} {o : Opd} {a : Act} {e : AH} (h : FF x = some o) (ht : ∀ t, Rep G (a.tmps.getD t undef) (get e t)) : Rep G (a.eval x) (ev e o) := by
 unfold FF at h
 split at h
 ·injection h with h; subst h; exact ht _
 ·rename_i v
  cases hc : cv v with
  | none => rw [hc] at h; cases h
  | some y => rw [hc] at h; injection h with h; subst h; exact Xf hc
 ·injection h with h; subst h; exact Rep.fn .nil .nil
 ·cases h
theorem Hh {xs : List Operand} {os : List Opd} {a : Act} {e : AH} (h : Qb xs = some os) (ht : ∀ t, Rep G (a.tmps.getD t undef) (get e t)) : RepL G (xs.map a.eval) (os.map (ev e)) := by
 induction xs generalizing os with
 | nil => simp [Qb] at h; subst h; exact .nil
 | cons x xs ih =>
  simp only [Qb] at h
  split at h
  ·rename_i y ys h1 h2
   injection h with h; subst h
   exact .cons (AJ h1 ht) (ih h2)
  ·cases h
end
theorem D5 {P : Program} {t : TypeId} {s : Cm} (h : DS P t = some s) : shp P t = some s ∧ B6 s = BJ P t ∧ 0 < BJ P t ∧ ∃ i, P.info? t = some i ∧ BJ P t = i.size := by
 unfold DS at h
 split at h
 ·rename_i s' hs
  split at h
  ·rename_i hc
   injection h with h; subst h
   obtain ⟨h1, h2, h3⟩ := hc
   obtain ⟨i, hi⟩ := Option.isSome_iff_exists.1 h3
   exact ⟨hs, h1, h2, i, hi, by simp [BJ, hi]⟩
  ·cases h
 ·cases h
theorem Bz {P : Program} {t : TypeId} {i : TypeInfo} (h : P.info? t = some i) (w : World) : (sizeOf t).run P w = .ok (BJ P t) w := by
 simp [sizeOf, typeInfo, h, BJ]
theorem F6 {P : Program} {t : TypeId} {s : Cm} (h : shp P t = some s) (w : World) : (isAgg t).run P w = .ok s.isSome w := by
 unfold shp at h
 split at h
 ·rename_i hu; injection h with h; subst h; simp [isAgg, underlying, hu]
 ·rename_i hu; injection h with h; subst h; simp [isAgg, underlying, hu]
 ·rename_i d h1 h2 hu
  injection h with h; subst h
  simp only [isAgg, underlying, hu, Sem.run_bind, run_program, Result.andThen_ok, Sem.run_pure]
  rfl
 ·cases h
theorem M0 {P : Program} {G : Gh} {t : TypeId} {s : Cm} {vs : List Value} {cs : List AV} {off : Nat} {v : AV} (w : World) (h : DS P t = some s) (hr : RepL G vs cs) (h1 : ∀ x ∈ cs, x.one = true) (hp : part cs off s = some v) :
  ∃ v', (Go.part t vs.toArray off).run P w = .ok v' w ∧ Rep G v' v := by
 obtain ⟨h2, h3, h4, i, hi, hsz⟩ := D5 h
 cases s with
 | none =>
  obtain ⟨u, hu, hrep⟩ := hr.at hp
  refine ⟨u, ?_, hrep⟩
  simp [Go.part, F6 h2, hu]
 | some k =>
  simp only [part] at hp
  split at hp
  ·rename_i hle
   injection hp with hp; subst hp
   refine ⟨.agg (vs.toArray.extract off (off + k)), ?_, ?_⟩
   ·simp [Go.part, F6 h2, Bz hi]
    simp [B6] at h3; rw [← h3]
   ·have h5 : (vs.toArray.extract off (off + k)) = ((vs.drop off).take k).toArray := by
     simp
    rw [h5]
    exact Rep.agg ((hr.drop off).take k) fun x hx => h1 x (List.mem_of_mem_drop (List.mem_of_mem_take hx))
  ·cases hp
open Go.RowKit
structure RelS (P : Program) (w0 : World) (nt : Nat) (ds : List Deferred) (G : Gh) (s : AS) (a : Act) (w : World) : Prop where
 r0 : Rel0 P w0 G s.n s.H w
 sz : a.tmps.size = nt
 df : a.defers = ds
 ld : Laid w0
 tm : ∀ t, Rep G (a.tmps.getD t undef) (get s.e t)
def AW (P : Program) (w : World) (G : Gh) (m : Sem Value) (v : AV) : Prop := ∃ v', m.run P w = .ok v' w ∧ Rep G v' v
section
variable {P : Program} {w : World} {G : Gh}
theorem QL {op : BinOp} {t : TypeId} {k k' : IntKind} {a b : Int} {v : AV} (h : E6 op k a b = some v) : AW P w G (binOp op t (.int k a) (.int k' b)) v := by
 unfold E6 at h
 cases op <;> simp only [reduceCtorEq] at h <;>
  (split at h; (cases h); (rename_i hb; injection h with h; subst h; exact ⟨_, by simp only [binOp, Op.shift]; rw [if_neg hb]; rfl, by constructor⟩))
theorem Sp {op : BinOp} {t : TypeId} {k : IntKind} {a b : Int} {v : AV} (h : D8 op k a b = some v) : AW P w G (binOp op t (.int k a) (.int k b)) v := by
 unfold D8 at h
 cases op <;> simp only [reduceCtorEq] at h <;> first
  | (exact QL h)
  | (injection h with h; subst h; exact ⟨_, by simp [binOp, Op.intArith, Op.intCmp]; rfl, by constructor⟩)
  | (injection h with h; subst h; exact ⟨_, by simp [binOp, Op.intBits]; rfl, by constructor⟩)
  | (split at h; (cases h); (rename_i hb; injection h with h; subst h; exact ⟨_, by simp [binOp, Op.intDiv, hb]; rfl, by constructor⟩))
theorem TE {op : BinOp} {t : TypeId} {a b : ByteArray} {v : AV} (h : CE op a.data.toList b.data.toList = some v) : AW P w G (binOp op t (.string a) (.string b)) v := by
 unfold CE at h
 simp only [← ByteArray.toList_eq] at h
 cases op <;> simp only [reduceCtorEq] at h <;> first
  | (injection h with h; subst h; exact ⟨_, by simp only [binOp, Op.stringOp]; rfl, by constructor⟩)
  | (split at h; (cases h); (rename_i hb; injection h with h; subst h; simp only [ByteArray.toList_eq, Array.length_toList] at hb ⊢; exact ⟨_, by simp only [binOp, Op.stringOp]; rw [if_neg (show ¬ ((a.size + b.size : Nat) : Int) > IntKind.i64.max from hb)]; rfl, .str (by simp)⟩))
theorem MP {op : BinOp} {t : TypeId} {x y : Operand} {a b : Value} (ha : (∀ cs, a ≠ .agg cs) ∧ a ≠ .nilIface) : (eqGuard op t x y a b).run P w = .ok () w := by
 unfold eqGuard
 cases op <;> simp only [Bool.not_true, Bool.not_false, if_true, if_false, Bool.false_eq_true, Sem.run_pure] <;> first
  | rfl
  | (split <;> first | exact absurd rfl ha.2 | exact absurd rfl (ha.1 _) | rfl)
theorem DD {op : BinOp} {t : TypeId} {x y : Operand} {a b : Value} {v : AV} (h : AW P w G (binOp op t a b) v) (ha : (∀ cs, a ≠ .agg cs) ∧ a ≠ .nilIface) : AW P w G (do eqGuard op t x y a b; binOp op t a b) v := by
 obtain ⟨u, hu, hr⟩ := h
 exact ⟨u, by simp only [Sem.run_bind, MP ha, Result.andThen_ok]; exact hu, hr⟩
theorem NK {op : BinOp} {t : TypeId} {x y : Operand} {a b : Value} {x' y' v : AV} (ha : Rep G a x') (hb : Rep G b y') (h : Da op x' y' = some v) : AW P w G (do eqGuard op t x y a b; binOp op t a b) v := by
 unfold Da at h
 split at h
 ·split at h
  ·rename_i hkk; subst hkk
   cases ha; cases hb
   exact DD (Sp h) ⟨by simp, by simp⟩
  ·cases ha; cases hb
   exact DD (QL h) ⟨by simp, by simp⟩
 ·cases ha with | str ha => cases hb with | str hb =>
  subst ha; subst hb
  exact DD (TE h) ⟨by simp, by simp⟩
 ·cases h
theorem Tv {ng : Bool} {t : TypeId} {x y : Operand} {a b : Bool} (ht : P.underlying t = some .bool) :
  AW P w G (do eqGuard (if ng then .neq else .eql) t x y (.bool a) (.bool b); binOp (if ng then .neq else .eql) t (.bool a) (.bool b)) (.bool (if ng then !(a == b) else a == b)) := by
 refine DD ?_ ⟨by simp, by simp⟩
 cases ng
 ·exact ⟨_, run_eql_bool w t a b ht, .bool⟩
 ·exact ⟨_, run_neq_bool w t a b ht, .bool⟩
theorem I8 {t e : TypeId} {A : Option Addr} {n c : Nat} (ht : P.underlying t = some (.slice e)) : (Op.equal t (.slice A n c) (.slice none 0 0)).run P w = .ok A.isNone w := by
 unfold Op.equal Op.maxDepth
 rw [show (10000 : Nat) = 9999 + 1 from rfl, Op.equalIn]
 cases A <;> simp [run_underlying ht]
theorem QQ {t e : TypeId} {A : Option Addr} (ht : P.underlying t = some (.pointer e)) : (Op.equal t (.pointer A) (.pointer none)).run P w = .ok A.isNone w := by
 unfold Op.equal Op.maxDepth
 rw [show (10000 : Nat) = 9999 + 1 from rfl, Op.equalIn]
 cases A <;> simp [run_underlying ht]
theorem U8 {ng : Bool} {t e : TypeId} {x y : Operand} {a : Value} {x' : AV} {r : Bool} (ht : P.underlying t = some (.slice e)) (ha : Rep G a x') (h : isNil x' = some r) :
  AW P w G (do eqGuard (if ng then .neq else .eql) t x y a (.slice none 0 0); binOp (if ng then .neq else .eql) t a (.slice none 0 0)) (.bool (if ng then !r else r)) := by
 obtain ⟨A, n, c, rfl⟩ : ∃ A n c, a = .slice A n c := by
  unfold isNil at h
  split at h <;> first | (cases ha <;> exact ⟨_, _, _, rfl⟩) | cases h
 have key : (Op.equal t (.slice A n c) (.slice none 0 0)).run P w = .ok r w := by
  rw [I8 ht]
  unfold isNil at h
  split at h <;> first | (injection h with h; subst h; cases ha <;> first | rfl | simp_all) | (exact absurd h (by simp))
 refine DD ?_ ⟨by simp, by simp⟩
 cases ng
 ·exact ⟨.bool r, by simp [binOp, key], .bool⟩
 ·exact ⟨.bool (!r), by simp [binOp, key], .bool⟩
theorem TF {ng : Bool} {t e : TypeId} {x y : Operand} {a : Value} {x' z : AV} (ht : P.underlying t = some (.slice e)) (ha : Rep G a x') (h : H9 ng x' = some z) :
  AW P w G (do eqGuard (if ng then .neq else .eql) t x y a (.slice none 0 0); binOp (if ng then .neq else .eql) t a (.slice none 0 0)) z := by
 unfold H9 at h
 split at h
 ·injection h with h; subst h
  obtain ⟨A, n, c, rfl⟩ : ∃ A n c, a = .slice A n c := by cases ha <;> exact ⟨_, _, _, rfl⟩
  have key := I8 (w := w) (A := A) (n := n) (c := c) ht
  refine DD ?_ ⟨by simp, by simp⟩
  cases ng
  ·exact ⟨.bool A.isNone, by simp [binOp, key], .ub⟩
  ·exact ⟨.bool (!A.isNone), by simp [binOp, key], .ub⟩
 ·obtain ⟨r, h1, rfl⟩ := Option.map_eq_some_iff.1 h
  exact U8 ht ha h1
theorem T6 {ng : Bool} {t e : TypeId} {x y : Operand} {a : Value} {x' : AV} {r : Bool} (ht : P.underlying t = some (.pointer e)) (ha : Rep G a x') (h : Cu x' = some r) :
  AW P w G (do eqGuard (if ng then .neq else .eql) t x y a (.pointer none); binOp (if ng then .neq else .eql) t a (.pointer none)) (.bool (if ng then !r else r)) := by
 obtain ⟨A, rfl⟩ : ∃ A, a = .pointer A := by
  unfold Cu at h
  split at h <;> first | (cases ha <;> exact ⟨_, rfl⟩) | cases h
 have key : (Op.equal t (.pointer A) (.pointer none)).run P w = .ok r w := by
  rw [QQ ht]
  unfold Cu at h
  split at h <;> first | (injection h with h; subst h; cases ha <;> first | rfl | simp_all) | (exact absurd h (by simp))
 refine DD ?_ ⟨by simp, by simp⟩
 cases ng
 ·exact ⟨.bool r, by simp [binOp, key], .bool⟩
 ·exact ⟨.bool (!r), by simp [binOp, key], .bool⟩
theorem TB {ng : Bool} {t : TypeId} {ms} {x : Operand} {a : Value} {x' : AV} {r : Bool} (ht : P.underlying t = some (.interface ms)) (ha : Rep G a x') (h : D4 x' = some r) :
  AW P w G (do eqGuard (if ng then .neq else .eql) t x (.const .nilIface) a .nilIface; binOp (if ng then .neq else .eql) t a .nilIface) (.bool (if ng then !r else r)) := by
 unfold D4 at h
 split at h
 ·injection h with h; subst h
  cases ha
  have key : (Op.equal t .nilIface .nilIface).run P w = .ok true w := by
   unfold Op.equal Op.maxDepth
   rw [show (10000 : Nat) = 9999 + 1 from rfl, Op.equalIn]
   simp [run_underlying ht]
  cases ng
  ·exact ⟨.bool true, by simp [eqGuard, binOp, key], .bool⟩
  ·exact ⟨.bool false, by simp [eqGuard, binOp, key], .bool⟩
 ·injection h with h; subst h
  cases ha
  rename_i tv _ v0 _
  have key : (Op.equal t (.iface tv v0) .nilIface).run P w = .ok false w := by
   unfold Op.equal Op.maxDepth
   rw [show (10000 : Nat) = 9999 + 1 from rfl, Op.equalIn]
   simp [run_underlying ht]
  refine DD ?_ ⟨by simp, by simp⟩
  cases ng
  ·exact ⟨.bool false, by simp [binOp, key], .bool⟩
  ·exact ⟨.bool true, by simp [binOp, key], .bool⟩
 ·cases h
theorem SI {ng : Bool} {t e : TypeId} {x y : Operand} {g o o' : Nat} (ht : P.underlying t = some (.pointer e)) (hi : (P.info? e).isSome) (hz : BJ P e ≠ 0) :
  AW P w G (do eqGuard (if ng then .neq else .eql) t x y (.pointer (some ⟨g, o, none⟩)) (.pointer (some ⟨g, o', none⟩)); binOp (if ng then .neq else .eql) t (.pointer (some ⟨g, o, none⟩)) (.pointer (some ⟨g, o', none⟩))) (.bool (if ng then !(decide (o = o')) else decide (o = o'))) := by
 obtain ⟨i, hi⟩ := Option.isSome_iff_exists.1 hi
 have key : (Op.equal t (.pointer (some ⟨g, o, none⟩)) (.pointer (some ⟨g, o', none⟩))).run P w = .ok (decide (o = o')) w := by
  unfold Op.equal Op.maxDepth
  rw [show (10000 : Nat) = 9999 + 1 from rfl, Op.equalIn]
  simp only [Sem.run_bind, run_underlying ht, Result.andThen_ok, Bz hi, hz, ne_eq, not_false_eq_true, if_true, sameAddr, beq_self_eq_true]
  simp only [Sem.run_pure]
  congr 1
  rw [Bool.eq_iff_iff]; simp
 refine DD ?_ ⟨by simp, by simp⟩
 cases ng
 ·exact ⟨.bool (decide (o = o')), by simp [binOp, key], .bool⟩
 ·exact ⟨.bool (!decide (o = o')), by simp [binOp, key], .bool⟩
theorem MO {d : Nat} {xs ys : Array Value} : ∀ (fs : List Field) (ks : List FK) (i : Nat) (as bs : List AV) (r : Bool), EU P i fs = some ks → CH ks as bs = some r →
  RepL G (xs.toList.drop i) as → RepL G (ys.toList.drop i) bs → (Op.eqFields (d + 1) xs ys fs).run P w = .ok r w
 | [], ks, _, as, bs, r, hp, h, _, _ => by
  simp [EU] at hp; subst hp
  cases as <;> cases bs <;> simp [CH] at h
  subst h
  simp [Op.eqFields]
 | f :: fs, ks, i, as, bs, r, hp, h, ha, hb => by
  simp only [EU] at hp
  split at hp
  ·rename_i hon
   obtain ⟨hoff, hnm⟩ := hon
   have main : ∀ (u v : Value) (q r' : Bool) (as' bs' : List AV) (ks' : List FK) (a b : AV), as = a :: as' → bs = b :: bs' → xs[i]? = some u → ys[i]? = some v → (∀ w : World, (isAgg f.type).run P w = .ok false w) →
     EU P (i + 1) fs = some ks' → CH ks' as' bs' = some r' → (Op.equalIn (d + 1) f.type u v).run P w = .ok q w → r = (q && r') → (Op.eqFields (d + 1) xs ys (f :: fs)).run P w = .ok r w := by
    intro u v q r' as' bs' ks' a b e1 e2 hu hv hagg hps hr' hq hrr
    subst e1; subst e2
    have hta : RepL G (xs.toList.drop (i + 1)) as' := by have := ha.drop 1; simpa [List.drop_drop, Nat.add_comm] using this
    have htb : RepL G (ys.toList.drop (i + 1)) bs' := by have := hb.drop 1; simpa [List.drop_drop, Nat.add_comm] using this
    have ih := MO (d := d) fs ks' (i + 1) as' bs' r' hps hr' hta htb
    have hx : (Go.part f.type xs f.offset).run P w = .ok u w := by simp [Go.part, hagg, hoff, hu]
    have hy : (Go.part f.type ys f.offset).run P w = .ok v w := by simp [Go.part, hagg, hoff, hv]
    simp only [Op.eqFields, hnm, ne_eq, not_false_eq_true, if_true, Sem.run_bind, hx, hy, Result.andThen_ok, hq]
    cases q
    ·simp [hrr]
    ·simp [hrr, ih]
   have cellsAt : ∀ {a b as' bs'}, as = a :: as' → bs = b :: bs' → ∃ u v, xs[i]? = some u ∧ ys[i]? = some v ∧ Rep G u a ∧ Rep G v b := by
    intro a b as' bs' e1 e2
    subst e1; subst e2
    obtain ⟨u, hu, hru⟩ := ha.at (i := 0) (x := a) rfl
    obtain ⟨v, hv, hrv⟩ := hb.at (i := 0) (x := b) rfl
    exact ⟨u, v, by simpa using hu, by simpa using hv, hru, hrv⟩
   split at hp
   ·rename_i k ks' hu hps
    injection hp with hp; subst hp
    rcases as with _ | ⟨a, as'⟩
    ·simp [CH] at h
    ·rcases bs with _ | ⟨b, bs'⟩
     ·cases a <;> simp [CH] at h
     ·cases a with
      | int k1 a1 => cases b with
       | int k2 b1 =>
        simp only [CH] at h
        split at h
        ·rename_i hk; subst hk
         obtain ⟨r', hr', hrr⟩ := Option.map_eq_some_iff.1 h
         obtain ⟨u, v, h1, h2, h3, h4⟩ := cellsAt rfl rfl
         cases h3; cases h4
         exact main _ _ _ r' _ _ _ _ _ rfl rfl h1 h2 (fun w => by simp [isAgg, run_underlying hu]) hps hr' (run_equalIn_int w d _ _ _ _ _ hu) hrr.symm
        ·cases h
       | _ => simp [CH] at h
      | _ => simp [CH] at h
   ·rename_i ks' hu hps
    injection hp with hp; subst hp
    rcases as with _ | ⟨a, as'⟩
    ·simp [CH] at h
    ·rcases bs with _ | ⟨b, bs'⟩
     ·cases a <;> simp [CH] at h
     ·cases a with
      | bool a1 => cases b with
       | bool b1 =>
        simp only [CH] at h
        obtain ⟨r', hr', hrr⟩ := Option.map_eq_some_iff.1 h
        obtain ⟨u, v, h1, h2, h3, h4⟩ := cellsAt rfl rfl
        cases h3; cases h4
        exact main _ _ _ r' _ _ _ _ _ rfl rfl h1 h2 (fun w => by simp [isAgg, run_underlying hu]) hps hr' (run_equalIn_bool w d _ _ _ hu) hrr.symm
       | _ => simp [CH] at h
      | _ => simp [CH] at h
   ·rename_i ks' hu hps
    injection hp with hp; subst hp
    rcases as with _ | ⟨a, as'⟩
    ·simp [CH] at h
    ·rcases bs with _ | ⟨b, bs'⟩
     ·cases a <;> simp [CH] at h
     ·cases a with
      | str a1 => cases b with
       | str b1 =>
        simp only [CH] at h
        obtain ⟨r', hr', hrr⟩ := Option.map_eq_some_iff.1 h
        obtain ⟨u, v, h1, h2, h3, h4⟩ := cellsAt rfl rfl
        cases h3 with | str h3 => cases h4 with | str h4 =>
        subst h3; subst h4
        simp only [← ByteArray.toList_eq] at hrr
        exact main _ _ _ r' _ _ _ _ _ rfl rfl h1 h2 (fun w => by simp [isAgg, run_underlying hu]) hps hr' (run_equalIn_string w d _ _ _ hu) hrr.symm
       | _ => simp [CH] at h
      | _ => simp [CH] at h
   ·cases hp
  ·cases hp
theorem TD {ng : Bool} {t : TypeId} {x y : Operand} {a b : Value} {as bs : List AV} {fs : Array Field} {ks : List FK} {r : Bool} (ht : P.underlying t = some (.struct fs)) (hp : Gm P t fs = some ks) (ha : Rep G a (.agg as)) (hb : Rep G b (.agg bs)) (h : CH ks as bs = some r) :
  AW P w G (do eqGuard (if ng then .neq else .eql) t x y a b; binOp (if ng then .neq else .eql) t a b) (.bool (if ng then !r else r)) := by
 unfold Gm at hp
 split at hp
 ·rename_i hg
  obtain ⟨h1, h2⟩ := hg
  cases ha with
  | agg ha _ =>
   rename_i va _
   cases hb with
   | agg hb _ =>
    rename_i vb _
    have hf : P.fieldsOf t = fs := by simp [Program.fieldsOf, ht]
    have key : (Op.equalIn 10000 t (.agg va.toArray) (.agg vb.toArray)).run P w = .ok r w := by
     rw [show (10000 : Nat) = 9999 + 1 from rfl, run_equalIn_struct w 9999 t _ _ (by rw [hf]; exact ht) h1, hf]
     exact MO (d := 9998) fs.toList ks 0 as bs r hp h (by simpa using ha) (by simpa using hb)
    cases ng
    ·exact ⟨.bool r, by simp only [Bool.false_eq_true, if_false, Sem.run_bind, run_eqGuard_agg w _ _ _ _ _ _ h2, Result.andThen_ok, run_eql_struct, key], .bool⟩
    ·exact ⟨.bool (!r), by simp only [if_true, Sem.run_bind, run_eqGuard_agg w _ _ _ _ _ _ h2, Result.andThen_ok, run_neq_struct, key], .bool⟩
 ·cases hp
end
open Go.RowKit
inductive RepO (G : Gh) : Option Value → Option AV → Prop
 | none : RepO G .none .none
 | some {v x} (h : Rep G v x) : RepO G (.some v) (.some x)
section
variable {P : Program} {w : World} {G : Gh}
theorem Et {x : Option Operand} {o : Option Opd} {a : Act} {e : AH} (h : Po x = some o) (ht : ∀ t, Rep G (a.tmps.getD t undef) (get e t)) : RepO G (x.map a.eval) (o.map (ev e)) := by
 cases x with
 | none => simp [Po] at h; subst h; exact .none
 | some x =>
  simp only [Po] at h
  cases hx : FF x with
  | none => rw [hx] at h; cases h
  | some y => rw [hx] at h; injection h with h; subst h; exact .some (AJ hx ht)
theorem Jn {isSlice : Bool} {len cap : Nat} {lo hi : Option Value} {lo' hi' : Option AV} {l u : Nat} (hc : len ≤ cap) (hlo : RepO G lo lo') (hhi : RepO G hi hi') (h : EV lo' hi' len = some (l, u)) :
  (Instr.sliceBounds isSlice len cap lo hi none).run P w = .ok (l, u, cap) w ∧ l ≤ u ∧ u ≤ len := by
 unfold EV at h
 split at h
 ·rename_i hv lv h1 h2
  split at h
  ·rename_i hb
   obtain ⟨b1, b2, b3⟩ := hb
   injection h with h; injection h with e1 e2
   subst e1; subst e2
   refine ⟨?_, by omega, by omega⟩
   cases hhi with
   | none =>
    simp only at h1
    injection h1 with h1; subst h1
    cases hlo with
    | none => simp only at h2; injection h2 with h2; subst h2; simp [Instr.sliceBounds]
    | some hr =>
     rename_i v x
     cases x <;> simp only [reduceCtorEq] at h2
     injection h2 with h2; subst h2
     cases hr
     simp only [Instr.sliceBounds, Sem.run_bind, Sem.run_pure, Result.andThen_ok, run_sliceBound_if]
     simp [b1, b2]
   | some hr =>
    rename_i v x
    cases x with
    | int kx nx =>
     simp only at h1
     injection h1 with h1; subst h1
     cases hr
     have hcap : nx ≤ (cap : Int) := by omega
     have h0 : 0 ≤ nx := by omega
     cases hlo with
     | none =>
      simp only at h2; injection h2 with h2; subst h2
      simp only [Instr.sliceBounds, Sem.run_bind, Sem.run_pure, Result.andThen_ok, run_sliceBound_if, h0, hcap, and_self, if_true]
      rfl
     | some hr =>
      rename_i v x
      cases x with
      | int ky ny =>
       simp only at h2
       injection h2 with h2; subst h2
       cases hr
       have h3 : ny ≤ (nx.toNat : Int) := by omega
       simp only [Instr.sliceBounds, Sem.run_bind, Sem.run_pure, Result.andThen_ok, run_sliceBound_if, h0, hcap, b1, h3, and_self, if_true]
      | _ => simp at h2
    | _ => simp at h1
  ·cases h
 ·cases h
theorem U1 {t : TypeId} {s : ByteArray} {lo hi : Option Value} {lo' hi' : Option AV} {l u : Nat} (ht : P.underlying t = some .string) (hlo : RepO G lo lo') (hhi : RepO G hi hi') (h : EV lo' hi' s.data.toList.length = some (l, u)) :
  AW P w G (Instr.sliceAt t (.string s) lo hi none) (.str ((s.data.toList.take u).drop l)) := by
 have h' : EV lo' hi' s.size = some (l, u) := h
 have hb := (Jn (P := P) (w := w) (isSlice := false) (Nat.le_refl s.size) hlo hhi h').1
 refine ⟨.string (s.extract l u), ?_, .str (by rw [ByteArray.data_extract, Array.toList_extract, List.extract_eq_take_drop, List.drop_take])⟩
 simp only [Instr.sliceAt, Instr.slice, Sem.run_bind, run_underlying ht, Result.andThen_ok, Option.isSome_none, Bool.false_eq_true, if_false, hb, Sem.run_pure]
theorem GC {sz : Nat} {l : List AV} (h : ∀ x ∈ l, x.cells.length = sz) : (AG l).length = l.length * sz := by
 induction l with
 | nil => simp [AG]
 | cons x l ih =>
  have h1 := h x List.mem_cons_self
  have h2 := ih fun y hy => h y (List.mem_cons_of_mem _ hy)
  simp only [AG, List.flatMap_cons, List.length_append] at h2 ⊢
  rw [h1, h2, List.length_cons, Nat.add_mul]; omega
theorem LR {sz : Nat} {l : List AV} (h : ∀ x ∈ l, x.cells.length = sz) (k : Nat) : AG (l.drop k) = (AG l).drop (k * sz) := by
 induction l generalizing k with
 | nil => simp [AG]
 | cons x l ih =>
  cases k with
  | zero => simp
  | succ k =>
   have h1 := h x List.mem_cons_self
   have h2 := ih (fun y hy => h y (List.mem_cons_of_mem _ hy)) k
   simp only [AG, List.flatMap_cons, List.drop_succ_cons] at h2 ⊢
   rw [h2, Nat.add_mul, Nat.one_mul, Nat.add_comm, ← List.drop_drop, List.drop_append_of_le_length (by omega), List.drop_of_length_le (l := x.cells) (by omega), List.nil_append]
theorem Pl {sz : Nat} {l : List AV} (h : ∀ x ∈ l, x.cells.length = sz) (k : Nat) : AG (l.take k) = (AG l).take (k * sz) := by
 induction l generalizing k with
 | nil => simp [AG]
 | cons x l ih =>
  cases k with
  | zero => simp [AG]
  | succ k =>
   have h1 := h x List.mem_cons_self
   have h2 := ih (fun y hy => h y (List.mem_cons_of_mem _ hy)) k
   simp only [AG, List.flatMap_cons, List.take_succ_cons] at h2 ⊢
   rw [h2, Nat.add_mul, Nat.one_mul, Nat.add_comm, List.take_append, h1, List.take_of_length_le (l := x.cells) (by omega), show sz + k * sz - sz = k * sz by omega]
theorem Yo {sz : Nat} {l : List AV} (h : ∀ x ∈ l, x.cells.length = sz) {k : Nat} {x : AV} (hk : l[k]? = some x) : ((AG l).drop (k * sz)).take sz = x.cells := by
 rw [← LR h]
 have hlt := (List.getElem?_eq_some_iff.1 hk).1
 have he := (List.getElem?_eq_some_iff.1 hk).2
 rw [List.drop_eq_getElem_cons hlt, he]
 simp only [AG, List.flatMap_cons]
 rw [List.take_append_of_le_length (by have := h x (List.mem_of_getElem? hk); omega), List.take_of_length_le (by have := h x (List.mem_of_getElem? hk); omega)]
theorem Sealed.drop {g off : Nat} {vs : List Value} (h : Sealed G g off vs) (k : Nat) : Sealed G g (off + k) (vs.drop k) := fun j u hu => by
 rw [Nat.add_assoc]; exact h (k + j) u (by simpa using hu)
theorem Sealed.take {g off : Nat} {vs : List Value} (h : Sealed G g off vs) (k : Nat) : Sealed G g off (vs.take k) := fun j u hu => by
 rw [List.getElem?_take] at hu
 split at hu
 ·exact h j u hu
 ·cases hu
theorem Rep.slOut {v : Value} {sz : Nat} {l : List AV} {t : Tok} (h : Rep G v (.sl sz l t)) : ∃ A c, v = .slice A l.length c ∧ l.length ≤ c ∧ c ≤ maxLen ∧
  (l ≠ [] → ∃ g off vs, A = some ⟨g, off, none⟩ ∧ RepL G vs (AG l) ∧ Sealed G g off vs ∧ SlOk sz l c) := by
 cases h with
 | slnil => exact ⟨none, 0, rfl, Nat.le_refl _, by simp [maxLen], fun h => absurd rfl h⟩
 | sl0 h => exact ⟨_, _, rfl, Nat.zero_le _, h, fun h => absurd rfl h⟩
 | slro h hs ho hn => subst hn; exact ⟨_, _, rfl, ho.cap, ho.max, fun _ => ⟨_, _, _, rfl, h, hs, ho⟩⟩
 | slown h hs ho hn hc => subst hn; exact ⟨_, _, rfl, ho.cap, ho.max, fun _ => ⟨_, _, _, rfl, h, hs, ho⟩⟩
theorem VA {t e : TypeId} {i : TypeInfo} {v : Value} {xs : List AV} {tk : Tok} {lo hi : Option Value} {lo' hi' : Option AV} {l u : Nat} (ht : P.underlying t = some (.slice e)) (hi0 : P.info? e = some i) (hv : Rep G v (.sl (BJ P e) xs tk))
  (hlo : RepO G lo lo') (hhi : RepO G hi hi') (h : EV lo' hi' xs.length = some (l, u)) :
  AW P w G (Instr.sliceAt t v lo hi none) (.sl (BJ P e) ((xs.take u).drop l) .ro) := by
 obtain ⟨A, c, rfl, hc, hm, hA⟩ := hv.slOut
 obtain ⟨hb, hlu, hul⟩ := Jn (P := P) (w := w) (isSlice := true) hc hlo hhi h
 refine ⟨_, by simp only [Instr.sliceAt, Instr.slice, Sem.run_bind, run_underlying ht, Result.andThen_ok, hb, Bz hi0, Sem.run_pure]; rfl, ?_⟩
 by_cases hz : u = l
 ·subst hz
  have h1 : (xs.take u).drop u = [] := by simp
  rw [h1, Nat.sub_self]
  exact .sl0 (by omega)
 ·have hne : xs ≠ [] := by intro e; subst e; simp at hul; omega
  obtain ⟨g, off, vs, rfl, hr, hs, ho⟩ := hA hne
  rw [if_neg (by omega)]
  simp only [Option.map_some, addr_add]
  have hut : ∀ x ∈ xs.take u, x.cells.length = BJ P e := fun x hx => ho.uni x (List.mem_of_mem_take hx)
  refine Rep.slro (vs := (vs.take (u * BJ P e)).drop (l * BJ P e)) ?_ ((hs.take _).drop _) ⟨?_, by omega, ho.pos, fun x hx => ho.uni x (List.mem_of_mem_take (List.mem_of_mem_drop hx)), ?_⟩ ?_
  ·rw [LR hut, Pl ho.uni]; exact (hr.take _).drop _
  ·simp; omega
  ·intro x hx
   refine ho.one x ?_
   rw [LR hut, Pl ho.uni] at hx
   exact List.mem_of_mem_take (List.mem_of_mem_drop hx)
  ·simp; omega
theorem Sn {t e : TypeId} {i : TypeInfo} {sz g n c : Nat} {el : TypeId} {lo hi : Option Value} {lo' hi' : Option AV} {u : Nat} (ht : P.underlying t = some (.slice e)) (hi0 : P.info? e = some i) (hc : n ≤ c) (hm : c ≤ maxLen) (hcap : G.cap g = some (el, c))
  (hlo : RepO G lo lo') (hhi : RepO G hi hi') (h : EV lo' hi' n = some (0, u)) : AW P w G (Instr.sliceAt t (.slice (some ⟨g, 0, none⟩) n c) lo hi none) (.slg sz g u) := by
 obtain ⟨hb, hlu, hul⟩ := Jn (P := P) (w := w) (isSlice := true) hc hlo hhi h
 refine ⟨_, by simp only [Instr.sliceAt, Instr.slice, Sem.run_bind, run_underlying ht, Result.andThen_ok, hb, Bz hi0, Sem.run_pure]; rfl, ?_⟩
 split
 ·simp only [Nat.sub_zero]; exact .slg (by omega) hm hcap
 ·simp only [Nat.sub_zero, Nat.zero_mul, Option.map_some, addr_add, Nat.add_zero]; exact .slg (by omega) hm hcap
theorem Ew {x : AV} {s : Cm} (h : x.fits s = true) : x.cells.length = B6 s := by
 cases x <;> cases s <;> simp [AV.fits, AV.cells, B6] at h ⊢
 exact h
theorem MR {cs : List AV} {off : Nat} {s : Cm} {x : AV} (h1 : ∀ x ∈ cs, x.one = true) (h : part cs off s = some x) : x.cells = (cs.drop off).take (B6 s) ∧ x.fits s = true ∧ ∀ y ∈ x.cells, y.one = true := by
 cases s with
 | none =>
  simp only [part] at h
  have ho := h1 x (List.mem_of_getElem? h)
  have hlt := (List.getElem?_eq_some_iff.1 h).1
  have he := (List.getElem?_eq_some_iff.1 h).2
  have hc : x.cells = [x] := by cases x <;> simp [AV.one, AV.cells] at ho ⊢
  refine ⟨?_, by cases x <;> simp [AV.one, AV.fits] at ho ⊢, by rw [hc]; simpa using ho⟩
  rw [hc, List.drop_eq_getElem_cons hlt, he]; rfl
 | some k =>
  simp only [part] at h
  split at h
  ·rename_i hle
   injection h with h; subst h
   refine ⟨rfl, by simp [AV.fits]; omega, fun y hy => h1 y (List.mem_of_mem_drop (List.mem_of_mem_take hy))⟩
  ·cases h
theorem Sk {g o : Nat} {cs : List AV} {off : Nat} {s : Cm} {x : AV} (hr : Rep G (.pointer (some ⟨g, o, none⟩)) (.ref (.agg cs))) (hp : part cs off s = some x) : Rep G (.pointer (some ⟨g, o + off, none⟩)) (.ref x) := by
 cases hr with
 | ref h hs h1 =>
  rename_i vs
  obtain ⟨e1, e2, e3⟩ := MR h1 hp
  refine Rep.ref (vs := (vs.drop off).take (B6 s)) ?_ ((hs.drop off).take _) e3
  rw [e1]
  exact (h.drop off).take _
theorem Qh {t : TypeId} {v : Value} {x y : AV} {fs : Array Field} {k : Nat} {fd : Field} {sh : Cm} (ht : P.underlying t = some (.struct fs)) (hf : fs[k]? = some fd) (hs : DS P fd.type = some sh) (hv : Rep G v x) (h : Gz x fd.offset sh = some y) :
  AW P w G (Instr.fieldAt t v k) y := by
 obtain ⟨h1, h2, h3, i, hi, hsz⟩ := D5 hs
 have hne : ¬ BJ P fd.type = 0 := by omega
 have hrun : ∀ g o, (Instr.fieldAt t (.pointer (some ⟨g, o, none⟩)) k).run P w = .ok (.pointer (some ⟨g, o + fd.offset, none⟩)) w := fun g o => by
  simp [Instr.fieldAt, run_underlying ht, hf, Instr.sureAddr, fieldPlace, Bz hi, hne, addr_add]
 unfold Gz at h
 split at h
 ·injection h with h; subst h
  cases hv
  exact ⟨_, hrun _ _, .ptr⟩
 ·cases hp : part _ fd.offset sh with
  | none => rw [hp] at h; cases h
  | some z =>
   rw [hp] at h; injection h with h; subst h
   have hv' := hv
   cases hv with
   | ref _ _ _ => exact ⟨_, hrun _ _, Sk hv' hp⟩
 ·cases h
theorem QW {t : TypeId} {v : Value} {cs : List AV} {y : AV} {fs : Array Field} {k : Nat} {fd : Field} {sh : Cm} (ht : P.underlying t = some (.struct fs)) (hf : fs[k]? = some fd) (hs : DS P fd.type = some sh) (hv : Rep G v (.agg cs)) (h : part cs fd.offset sh = some y) :
  AW P w G (Instr.field t v k) y := by
 cases hv with
 | agg hr h1 =>
  obtain ⟨u, hu, hrep⟩ := M0 w hs hr h1 h
  exact ⟨u, by simp [Instr.field, run_underlying ht, hf, asAgg, hu], hrep⟩
theorem QR {t e : TypeId} {v iv : Value} {x ix y : AV} {sh : Cm} (ht : P.underlying t = some (.slice e)) (hs : DS P e = some sh) (hv : Rep G v x) (hiv : Rep G iv ix) (h : Cy (BJ P e) sh x ix = some y) :
  AW P w G (Instr.indexAt t v iv) y := by
 obtain ⟨h1, h2, h3, i, hi, hsz⟩ := D5 hs
 unfold Cy at h
 split at h
 ·rename_i z l tk kk j
  split at h
  ·rename_i hz
   obtain ⟨rfl, hj⟩ := hz
   split at h
   ·rename_i el hel
    split at h
    ·rename_i hfit
     injection h with h; subst h
     obtain ⟨A, c, rfl, hc, hm, hA⟩ := hv.slOut
     have hne : l ≠ [] := by intro e; subst e; simp at hel
     have hlt := (List.getElem?_eq_some_iff.1 hel).1
     obtain ⟨g, off, vs, rfl, hr, hse, ho⟩ := hA hne
     cases hiv
     have hjl : j < (l.length : Int) := by omega
     refine ⟨.pointer (some ⟨g, off + j.toNat * BJ P e, none⟩), ?_, ?_⟩
     ·simp [Instr.indexAt, asIntOf, run_underlying ht, hj, hjl, Bz hi, addr_add]
     ·have hat := Yo ho.uni hel
      refine Rep.ref (vs := (vs.drop (j.toNat * BJ P e)).take (BJ P e)) ?_ ((hse.drop _).take _) ?_
      ·rw [← hat]; exact (hr.drop _).take _
      ·intro y hy; rw [← hat] at hy; exact ho.one y (List.mem_of_mem_drop (List.mem_of_mem_take hy))
    ·cases h
   ·cases h
  ·cases h
 ·rename_i z g o n kk j
  split at h
  ·rename_i hz
   obtain ⟨rfl, hj, hjn⟩ := hz
   injection h with h; subst h
   cases hv; cases hiv
   refine ⟨.pointer (some ⟨g, o + j.toNat * BJ P e, none⟩), ?_, .ptr⟩
   simp [Instr.indexAt, asIntOf, run_underlying ht, hj, hjn, Bz hi, addr_add]
  ·cases h
 ·rename_i z g n kk j
  split at h
  ·rename_i hz
   obtain ⟨rfl, hj, hjn⟩ := hz
   injection h with h; subst h
   cases hv; cases hiv
   refine ⟨.pointer (some ⟨g, j.toNat * BJ P e, none⟩), ?_, .ptr⟩
   simp [Instr.indexAt, asIntOf, run_underlying ht, hj, hjn, Bz hi, addr_add]
  ·cases h
 ·cases h
theorem Qg {t e : TypeId} {n : Nat} {v iv : Value} {x ix y : AV} {sh : Cm} (ht : P.underlying t = some (.array n e)) (hs : DS P e = some sh) (hv : Rep G v x) (hiv : Rep G iv ix) (h : Gc n (BJ P e) sh x ix = some y) :
  AW P w G (Instr.indexAt t v iv) y := by
 obtain ⟨h1, h2, h3, i, hi, hsz⟩ := D5 hs
 have hrun : ∀ (g o : Nat) (k : IntKind) (j : Int), 0 ≤ j → j < (n : Int) → (Instr.indexAt t (.pointer (some ⟨g, o, none⟩)) (.int k j)).run P w = .ok (.pointer (some ⟨g, o + j.toNat * BJ P e, none⟩)) w := fun g o k j a b => by
  simp [Instr.indexAt, asIntOf, run_underlying ht, Instr.sureAddr, a, b, Bz hi, addr_add]
 unfold Gc at h
 split at h
 ·split at h
  ·rename_i hj
   injection h with h; subst h
   cases hv; cases hiv
   exact ⟨_, hrun _ _ _ _ hj.1 hj.2, .ptr⟩
  ·cases h
 ·split at h
  ·rename_i cs kk j hj
   cases hp : part cs (j.toNat * BJ P e) sh with
   | none => rw [hp] at h; cases h
   | some z =>
    rw [hp] at h; injection h with h; subst h
    have hv' := hv
    cases hiv
    cases hv with
    | ref _ _ _ => exact ⟨_, hrun _ _ _ _ hj.1 hj.2, Sk hv' hp⟩
  ·cases h
 ·cases h
end
open Go.RowKit
section
variable {P : Program} {w : World} {G : Gh}
theorem SG {t : TypeId} {s : ByteArray} {k : IntKind} {j : Int} {b : UInt8} (ht : P.underlying t = some .string) (h0 : 0 ≤ j) (h : s.data.toList[j.toNat]? = some b) : AW P w G (Instr.index t (.string s) (.int k j)) (.int .u8 b.toNat) :=
 have h' : s[j.toNat]? = some b := by
  rw [← h, getElem?_def, getElem?_def]; rfl
 ⟨.int .u8 b.toNat, by simp [Instr.index, asIntOf, run_underlying ht, h0, h'], .int⟩
theorem S4 {t e : TypeId} {n : Nat} {v : Value} {k : IntKind} {j : Int} {cs : List AV} {y : AV} {sh : Cm} (ht : P.underlying t = some (.array n e)) (hs : DS P e = some sh) (hv : Rep G v (.agg cs)) (hj : 0 ≤ j ∧ j < (n : Int)) (h : part cs (j.toNat * BJ P e) sh = some y) :
  AW P w G (Instr.index t v (.int k j)) y := by
 obtain ⟨h1, h2, h3, i, hi, hsz⟩ := D5 hs
 cases hv with
 | agg hr h1 =>
  obtain ⟨u, hu, hrep⟩ := M0 w hs hr h1 h
  exact ⟨u, by simp [Instr.index, asIntOf, run_underlying ht, hj, Bz hi, hu], hrep⟩
theorem F4 {t : TypeId} {sh : Cm} {g o : Nat} {vs : List Value} {x : AV} (hs : DS P t = some sh) (hr : RepL G vs x.cells) (hf : x.fits sh = true) (h1 : ∀ y ∈ x.cells, y.one = true) (hc : ∀ j u, vs[j]? = some u → w.cell? ⟨g, o + j, none⟩ = some u) :
  AW P w G (Instr.loadAt t (.pointer (some ⟨g, o, none⟩))) x := by
 obtain ⟨h2, h3, h4, i, hi, hsz⟩ := D5 hs
 have hl := hr.len
 rw [Ew hf, h3] at hl
 cases sh with
 | none =>
  have hx : x.cells = [x] := by cases x <;> simp [AV.fits, AV.cells] at hf ⊢
  rw [hx] at hr
  cases hr with
  | cons hv hn =>
   rename_i v vs'
   cases hn
   have := hc 0 v rfl
   refine ⟨v, ?_, hv⟩
   simp only [Nat.add_zero] at this
   simp [Instr.loadAt, Instr.sureAddr, loadVar, F6 h2, this]
 | some k =>
  cases x <;> simp only [AV.fits, Bool.false_eq_true] at hf
  rename_i cs
  refine ⟨.agg vs.toArray, ?_, Rep.agg hr h1⟩
  have hrun := run_loadCells_list (P := P) w ⟨g, o, none⟩ vs (fun j u hu => by rw [addr_add]; exact hc j u hu)
  rw [hl] at hrun
  simp [Instr.loadAt, Instr.sureAddr, loadVar, F6 h2, Bz hi, hrun]
theorem M4 {w0 : World} {n : Nat} {H : A3} {t : TypeId} {sh : Cm} {v : Value} {x y : AV} (h0 : Rel0 P w0 G n H w) (hs : DS P t = some sh) (hv : Rep G v x) (h : Ap H sh x = some y) : AW P w G (Instr.loadAt t v) y := by
 unfold Ap at h
 split at h
 ·rename_i g o
  split at h
  ·rename_i e cs hg
   obtain ⟨_, _, hob⟩ := h0.objs g _ hg
   obtain ⟨_, vs, hgw, hr, h1⟩ := hob
   obtain ⟨e1, e2, e3⟩ := MR h1 h
   cases hv
   refine F4 (vs := (vs.toList.drop o).take (B6 sh)) hs (by rw [e1]; exact (hr.drop o).take _) e2 e3 fun j u hu => ?_
   rw [cell_of_row w g (o + j) vs e (0, 0) hgw]
   rw [List.getElem?_take] at hu
   split at hu
   ·simpa using hu
   ·cases hu
  ·rename_i e cs hg
   obtain ⟨_, _, hob⟩ := h0.objs g _ hg
   obtain ⟨_, vs, c, _, hgw, _, _, hl, hr, h1⟩ := hob
   obtain ⟨e1, e2, e3⟩ := MR h1 h
   cases hv
   refine F4 (vs := ((vs.toList.take cs.length).drop o).take (B6 sh)) hs (by rw [e1]; exact (hr.drop o).take _) e2 e3 fun j u hu => ?_
   rw [cell_of_row w g (o + j) vs e (0, 0) hgw]
   rw [List.getElem?_take] at hu
   split at hu
   ·rw [List.getElem?_drop, List.getElem?_take] at hu
    split at hu
    ·simpa using hu
    ·cases hu
   ·cases hu
  ·cases h
 ·split at h
  ·rename_i hf
   injection h with h; subst h
   cases hv with
   | ref hr hse h1 => exact F4 hs hr hf h1 fun j u hu => h0.seal_ _ _ _ (hse j u hu)
  ·cases h
 ·cases h
theorem TY {w0 : World} {n : Nat} {H : A3} {src dst t : TypeId} {v : Value} {x y : AV} (h0 : Rel0 P w0 G n H w) (hs : P.underlying src = some (.pointer t)) (hd : P.underlying dst = some .unsafePointer) (hi : (P.info? t).isSome) (hz : BJ P t ≠ 0) (hv : Rep G v x) (h : E5 H x = some y) : AW P w G (convert src dst v) y := by
 obtain ⟨i, hi⟩ := Option.isSome_iff_exists.1 hi
 unfold E5 at h
 split at h
 ·rename_i g o
  split at h
  ·rename_i e cs hg
   split at h
   ·rename_i ho
    injection h with h; subst h
    obtain ⟨_, _, _, vs, hgw, hr, _⟩ := h0.objs g _ hg
    have hl := hr.len
    cases hv
    refine ⟨_, ?_, .ptr⟩
    have hsh : w.shape? g = some (e, vs.size) := by simp [World.shape?, hgw]
    have hlt : ¬ (vs.size ≤ o) := by simp at hl; omega
    simp [convert, run_underlying hs, run_underlying hd, Conv.unsafePointer, Conv.seenAt, viewAt, cellsIn, hsh, Bz hi, hz, hlt]
   ·cases h
  ·cases h
 ·cases h
theorem SF {w0 : World} {n : Nat} {H : A3} {src dst u : TypeId} {v : Value} {x y : AV} (h0 : Rel0 P w0 G n H w) (hs : P.underlying src = some .unsafePointer) (hd : P.underlying dst = some (.pointer u)) (hi : (P.info? u).isSome) (hz : BJ P u ≠ 0) (hv : Rep G v x) (h : Bp P H u x = some y) : AW P w G (convert src dst v) y := by
 obtain ⟨i, hi⟩ := Option.isSome_iff_exists.1 hi
 unfold Bp at h
 split at h
 ·rename_i g o
  split at h
  ·rename_i e cs hg
   split at h
   ·rename_i ho
    injection h with h; subst h
    obtain ⟨_, _, _, vs, hgw, hr, _⟩ := h0.objs g _ hg
    have hl : vs.size = cs.length := by have := hr.len; simpa using this
    cases hv
    refine ⟨_, ?_, .ptr⟩
    have hsh : w.shape? g = some (e, vs.size) := by simp [World.shape?, hgw]
    have hva : (variablesAt ⟨g, o, none⟩ u 1).run P w = .ok true w := by simp [variablesAt, hsh, hl, ho]
    simp [convert, run_underlying hs, run_underlying hd, Conv.unsafePointer, Conv.seenAt, viewAt, hsh, Bz hi, hz, hva]
   ·cases h
  ·cases h
 ·cases h
theorem TO {w0 : World} {n : Nat} {H : A3} {e ty : TypeId} {tys : Array TypeId} {v : Value} {x y : AV} (h0 : Rel0 P w0 G n H w) (hv : Rep G v x) (h : E7 H e x = some y) : AW P w G (Builtin.unsafeSliceData_ tys ty #[v]) y := by
 unfold E7 at h
 split at h
 ·injection h with h; subst h
  cases hv
  exact ⟨.pointer none, rfl, .dat0⟩
 ·rename_i z x l g
  split at h
  ·rename_i e' m hg
   split at h
   ·rename_i hc
    obtain ⟨rfl, rfl⟩ := hc
    injection h with h; subst h
    cases hv with
    | @slown _ vs _ _ c n0 e2 hr hs ho hn hcap =>
     obtain ⟨_, _, cur, c', fz, e1, e2', _⟩ := h0.objs g _ hg
     rw [hcap] at e1; injection e1 with e1; injection e1 with e1 e1'; subst e1; subst e1'
     have hc0 : c ≠ 0 := by have := ho.cap; simp at this; omega
     exact ⟨.pointer (some ⟨g, 0, none⟩), Lib.run_unsafeSliceData_row w tys ty _ _ _ hc0, .dat hr hs hcap⟩
   ·cases h
  ·cases h
 ·cases h
theorem foldl_set (off : Nat) : ∀ (vs : List Value) (k : Nat) (cells : Array Value), off + k + vs.length ≤ cells.size →
  ((vs.zipIdx k).foldl (fun cs (x : Value × Nat) => cs.setIfInBounds (off + x.2) x.1) cells).toList = cells.toList.take (off + k) ++ vs ++ cells.toList.drop (off + k + vs.length)
 | [], k, cells, _ => by simp
 | v :: vs, k, cells, h => by
  simp only [List.length_cons] at h
  rw [List.zipIdx_cons, List.foldl_cons, foldl_set off vs (k + 1) _ (by simp; omega)]
  have hlt : off + k < cells.toList.length := by simp; omega
  simp only [Array.toList_setIfInBounds]
  rw [show off + (k + 1) = off + k + 1 by omega, List.length_cons, show off + k + 1 + vs.length = off + k + (vs.length + 1) by omega]
  rw [List.take_set, List.drop_set_of_lt (by omega)]
  have hmin : min (off + k) cells.size = off + k := by simp at hlt; omega
  rw [List.take_succ_eq_append_getElem hlt, List.set_append_right _ _ (by simp; omega)]
  simp [List.length_take, hmin]
theorem JV {vs : Array Value} {off : Nat} {cells : Array Value} (h : off + vs.size ≤ cells.size) :
  (vs.zipIdx.foldl (fun cs (x : Value × Nat) => cs.setIfInBounds (off + x.2) x.1) cells).toList = cells.toList.take off ++ vs.toList ++ cells.toList.drop (off + vs.size) := by
 have := foldl_set off vs.toList 0 cells (by simpa using h)
 rw [← Array.foldl_toList]
 simpa using this
inductive Parts (G : Gh) (place : Nat → Option (Nat × Nat)) : List (Nat × Value) → List (Nat × Cm × AV) → Prop
 | nil : Parts G place [] []
 | cons {i v o s x ps qs} (hp : place i = some (o, B6 s)) (hr : Rep G v x) (h : Parts G place ps qs) : Parts G place ((i, v) :: ps) ((o, s, x) :: qs)
theorem XV {x : AV} {v : Value} {s : Cm} (h : x.fits s = true) (hr : Rep G v x) : ∀ y ∈ x.cells, y.one = true := by
 cases hr with
 | agg hr h1 => exact h1
 | any => cases s <;> simp [AV.fits] at h
 | und => cases s <;> simp [AV.fits] at h
 | dat0 => cases s <;> simp [AV.fits] at h
 | dat => cases s <;> simp [AV.fits] at h
 | tup => cases s <;> simp [AV.fits] at h
 | _ => intro y hy; simp [AV.cells] at hy; subst hy; rfl
theorem TM {place : Nat → Option (Nat × Nat)} {ps : List (Nat × Value)} {qs : List (Nat × Cm × AV)} (h : Parts G place ps qs) : ∀ {cells : Array Value} {cs : List AV}, RepL G cells.toList cs → (∀ y ∈ cs, y.one = true) → FA cs.length qs = true →
  ∃ cells', Instr.fill place cells ps = some cells' ∧ RepL G cells'.toList (Fo cs (qs.map fun (o, _, x) => (o, x))) ∧ ∀ y ∈ Fo cs (qs.map fun (o, _, x) => (o, x)), y.one = true := by
 induction h with
 | nil => intro cells cs hr h1 _; exact ⟨cells, rfl, hr, h1⟩
 | cons hp hrx h ih =>
  rename_i i v o s x ps qs
  intro cells cs hr h1 hb
  simp only [FA, Bool.and_eq_true, decide_eq_true_eq] at hb
  obtain ⟨⟨hf, hle⟩, hb⟩ := hb
  have hl := hr.len
  have hone := XV hf hrx
  have hcl := (hrx.cells hone).len
  have hsz : v.cells.size = B6 s := by have := Ew hf; simp at hcl; omega
  have hcs : cells.size = cs.length := by simpa using hl
  have hlen : v.cells.size = x.cells.length := by simpa using hcl
  have hfold := JV (vs := v.cells) (off := o) (cells := cells) (by omega)
  simp only [Instr.fill, hp, hsz, ne_eq, not_true, decide_false, Bool.false_or]
  rw [if_neg (by simp; omega)]
  refine ih (cells := v.cells.zipIdx.foldl (fun cs (x : Value × Nat) => cs.setIfInBounds (o + x.2) x.1) cells) (cs := cs.take o ++ x.cells ++ cs.drop (o + x.cells.length)) ?_ ?_ ?_
  ·rw [hfold, hlen]
   exact ((hr.take o).append (hrx.cells hone)).append (hr.drop _)
  ·intro y hy
   simp only [List.mem_append] at hy
   rcases hy with (hy | hy) | hy
   ·exact h1 y (List.mem_of_mem_take hy)
   ·exact hone y hy
   ·exact h1 y (List.mem_of_mem_drop hy)
  ·rw [show (cs.take o ++ x.cells ++ cs.drop (o + x.cells.length)).length = cs.length by simp; omega]
   exact hb
end
open Go.RowKit
theorem Uq {fn : Func} (h : fn.name = IH) : Extern.find fn = some Extern.AbiNoEscape.same := by
 have h1 : Extern.allGenericRows.lookup IH = none := by kernel_rfl
 have h2 : Extern.allTypedRows.lookup IH = none := by kernel_rfl
 have h3 : Extern.allRows.lookup IH = some Extern.AbiNoEscape.same := by kernel_rfl
 simp only [Extern.find, h, h1, h2, h3]
 rfl
theorem Pe {fn : Func} (h : fn.name = IH) (ho : fn.origin = "") : Extern.findNext fn = none := by
 have h1 : Extern.allNextRows.lookup IH = none := by kernel_rfl
 have h2 : Extern.allNextRows.lookup "" = none := by kernel_rfl
 simp only [Extern.findNext, h, ho, h1, h2]
 rfl
theorem mapM_at {α β : Type} {f : α → Option β} : ∀ {l : List α} {r : List β} {i : Nat} {x : α}, l.mapM f = some r → l[i]? = some x → ∃ y, f x = some y ∧ r[i]? = some y
 | [], _, i, x, _, hx => by simp at hx
 | z :: l, r, i, x, h, hx => by
  simp only [List.mapM_cons, Option.bind_eq_bind, Option.pure_def] at h
  cases hz : f z with
  | none => simp [hz] at h
  | some y =>
   cases hr : l.mapM f with
   | none => simp [hz, hr] at h
   | some ys =>
    simp [hz, hr] at h
    subst h
    cases i with
    | zero => simp at hx; subst hx; exact ⟨y, hz, rfl⟩
    | succ i => obtain ⟨y', h1, h2⟩ := mapM_at hr (by simpa using hx); exact ⟨y', h1, by simpa using h2⟩
section
variable {P : Program} {w : World} {G : Gh} {a : Act} {e : AH}
theorem Q7 (ht : ∀ t, Rep G (a.tmps.getD t undef) (get e t)) {fs : Array Field} {pl : List (Nat × Nat)} (hpl : fs.toList.mapM (fun f => (P.info? f.type).map fun i => (f.offset, i.size)) = some pl) :
  ∀ {ps : List (Nat × Operand)} {qs : List (Nat × Cm × Opd)}, PO P fs ps = some qs → Parts G (pl.toArray[·]?) (ps.map fun (i, x) => (i, a.eval x)) (qs.map fun (o, s, x) => (o, s, ev e x))
 | [], qs, h => by simp [PO] at h; subst h; exact .nil
 | (i, x) :: ps, qs, h => by
  simp only [PO] at h
  split at h
  ·rename_i f b r h1 h2 h3
   split at h
   ·rename_i s hs
    injection h with h; subst h
    obtain ⟨k1, k2, k3, inf, k4, k5⟩ := D5 hs
    obtain ⟨y, hy, hpy⟩ := mapM_at hpl (i := i) (x := f) (by simpa using h1)
    rw [k4] at hy
    injection hy with hy
    refine .cons ?_ (AJ h2 ht) (Q7 ht hpl h3)
    simp only [List.getElem?_toArray, hpy, ← hy]
    rw [k2, k5]
   ·cases h
  ·cases h
theorem Q8 (ht : ∀ t, Rep G (a.tmps.getD t undef) (get e t)) {s : Cm} {size : Nat} (hs : B6 s = size) :
  ∀ {ps : List (Nat × Operand)} {qs : List (Nat × Cm × Opd)}, Q1 s size ps = some qs → Parts G (fun i => some (i * size, size)) (ps.map fun (i, x) => (i, a.eval x)) (qs.map fun (o, s, x) => (o, s, ev e x))
 | [], qs, h => by simp [Q1] at h; subst h; exact .nil
 | (i, x) :: ps, qs, h => by
  simp only [Q1] at h
  split at h
  ·rename_i b r h2 h3
   injection h with h; subst h
   exact .cons (by rw [hs]) (AJ h2 ht) (Q8 ht hs h3)
  ·cases h
theorem Kc {t : TypeId} {z : List AV} (h : zeroOf P t = some z) : ∃ i v, P.info? t = some i ∧ i.zero = some v ∧ RepL G v.cells.toList z ∧ ∀ x ∈ z, x.one = true := by
 unfold zeroOf at h
 split at h
 ·rename_i v hv
  obtain ⟨i, hi, hz⟩ := Option.bind_eq_some_iff.1 hv
  obtain ⟨h1, h2⟩ := WC (G := G) h
  exact ⟨i, v, hi, hz, h1, h2⟩
 ·cases h
theorem QU {t : TypeId} {z : List AV} {ps : Array (Nat × Value)} {qs : List (Nat × Cm × AV)} {i : TypeInfo} {zv : Value} (hi : P.info? t = some i) (hz : i.zero = some zv) (hr : RepL G zv.cells.toList z) (h1 : ∀ x ∈ z, x.one = true) (hb : FA z.length qs = true)
  (hp : (∃ fs pl, P.underlying t = some (.struct fs) ∧ fs.toList.mapM (fun f => (P.info? f.type).map fun i => (f.offset, i.size)) = some pl ∧ Parts G (pl.toArray[·]?) ps.toList qs) ∨
   (∃ n e ie, P.underlying t = some (.array n e) ∧ P.info? e = some ie ∧ Parts G (fun i => some (i * ie.size, ie.size)) ps.toList qs)) :
  AW P w G (Instr.build t ps) (.agg (Fo z (qs.map fun (o, _, x) => (o, x)))) := by
 rcases hp with ⟨fs, pl, hu, hpl, hq⟩ | ⟨n, e, ie, hu, hie, hq⟩
 ·obtain ⟨cells, hf, hrc, h1c⟩ := TM hq hr h1 hb
  refine ⟨.agg cells, run_build w t ps cells ?_, ?_⟩
  ·simp only [Program.built, hi, hu, hz, hpl]; exact hf
  ·have := Rep.agg hrc h1c; simpa using this
 ·obtain ⟨cells, hf, hrc, h1c⟩ := TM hq hr h1 hb
  refine ⟨.agg cells, run_build w t ps cells ?_, ?_⟩
  ·simp only [Program.built, hi, hu, hz, hie]; exact hf
  ·have := Rep.agg hrc h1c; simpa using this
theorem IF : ∀ {l : List AV} {bs : List UInt8} {vs : List Value}, bytesOf l = some bs → RepL G vs (AG l) → ∃ ns : List Int, vs = ns.map (Value.int .u8) ∧ bs = ns.map fun n => UInt8.ofNat n.toNat
 | [], bs, vs, h, hr => by simp [bytesOf] at h; subst h; simp [AG] at hr; cases hr; exact ⟨[], rfl, rfl⟩
 | x :: l, bs, vs, h, hr => by
  cases x <;> try (simp [bytesOf] at h; done)
  rename_i k n
  cases k <;> try (simp [bytesOf] at h; done)
  simp only [bytesOf] at h
  obtain ⟨bs', h1, h2⟩ := Option.map_eq_some_iff.1 h
  simp only [AG, List.flatMap_cons, AV.cells, List.singleton_append] at hr
  cases hr with
  | cons hv hr' =>
   cases hv
   obtain ⟨ns, e1, e2⟩ := IF h1 hr'
   exact ⟨n :: ns, by rw [e1]; rfl, by rw [← h2, e2]; rfl⟩
theorem Gq : ∀ {l : List AV} {bs : List UInt8}, bytesOf l = some bs → ∀ x ∈ l, x.cells.length = 1
 | [], _, _, x, hx => by simp at hx
 | y :: l, bs, h, x, hx => by
  cases y <;> try (simp [bytesOf] at h; done)
  rename_i k n
  cases k <;> try (simp [bytesOf] at h; done)
  simp only [bytesOf] at h
  obtain ⟨bs', h1, h2⟩ := Option.map_eq_some_iff.1 h
  rcases List.mem_cons.1 hx with rfl | hx
  ·rfl
  ·exact Gq h1 x hx
theorem VH (ns : List Int) : ∀ s : ByteArray, ns.foldl (fun r n => r.push (UInt8.ofNat n.toNat)) s = ⟨s.data ++ (ns.map fun n => UInt8.ofNat n.toNat).toArray⟩ := by
 induction ns with
 | nil => intro s; simp
 | cons n ns ih => intro s; rw [List.foldl_cons, ih]; simp [ByteArray.push]
theorem Qw {kt : TypeId} {kk : Option IntKind} (h : Pr P kt = some kk) : P.underlying kt = some (U9 kk) := by
 unfold Pr at h
 split at h
 ·rename_i k hu; injection h with h; subst h; exact hu
 ·rename_i hu; injection h with h; subst h; exact hu
 ·cases h
theorem Rc {w0 : World} {n : Nat} {H : A3} {mt kt el : TypeId} {xv kv z : Value} {x k za v : AV} {kk : Option IntKind} {ok : Bool} (h0 : Rel0 P w0 G n H w) (hm : P.underlying mt = some (.map kt el)) (hkk : Pr P kt = some kk) (hz : (P.info? el).bind (·.zero) = some z) (hza : cv z = some za)
  (hx : Rep G xv x) (hk : Rep G kv k) (h : DY H kk za ok x k = some v) : AW P w G (Instr.lookup mt xv kv ok) v := by
 have hku := Qw hkk
 obtain ⟨i, hi, hzi⟩ := Option.bind_eq_some_iff.1 hz
 have hzr : (zeroValue el).run P w = .ok z w := by simp [zeroValue, typeInfo, hi, hzi]
 have hzrep : Rep G z za := Xf hza
 unfold DY at h
 split at h
 ·rename_i g
  split at h
  ·rename_i kk' es hH
   split at h
   ·rename_i hcond
    obtain ⟨rfl, hko⟩ := hcond
    injection h with h
    cases hx
    obtain ⟨_, _, es', clock, hb, hrep, hall, _⟩ := h0.objs g _ hH
    obtain ⟨u, ua, h1, h2, h3⟩ := PF (t := U9 kk') ok hm hku hk (IU hko) hb hrep (fun e he => IU (hall e he)) hzr hzrep
    refine ⟨_, h3, ?_⟩
    subst h
    cases ok with
    | true => rw [← h1] at h2; exact .tup (vs := [u, .bool _]) (.cons h2 (.cons .bool .nil))
    | false => rw [← h1] at h2; exact h2
   ·cases h
  ·cases h
 ·split at h
  ·rename_i hko
   injection h with h
   cases hx
   have hck := run_checkKey (w := w) true hku hk (IU hko)
   have hrun : (Instr.lookup mt (.map none) kv ok).run P w = .ok (if ok then .tuple #[z, .bool false] else z) w := by
    simp [Instr.lookup, run_underlying hm, hck, Instr.findKey, run_underlying hku, Instr.findNow, hzr]
   refine ⟨_, hrun, ?_⟩
   subst h
   cases ok with
   | true => exact .tup (vs := [z, .bool false]) (.cons hzrep (.cons .bool .nil))
   | false => exact hzrep
  ·cases h
 ·cases h
theorem Zg {G : Gh} {es : List MapEntry} {xs : List (AV × AV)} (h : RepM G es xs) : es.length = xs.length := by
 induction h with
 | nil => rfl
 | cons _ _ _ ih => simp [ih]
theorem A3t {G : Gh} {es : List MapEntry} {xs : List (AV × AV)} (h : RepM G es xs) : ∀ {j : Nat} {k v : AV}, xs[j]? = some (k, v) → ∃ e, es[j]? = some e ∧ Rep G e.key k ∧ Rep G e.val v := by
 induction h with
 | nil => intro j k v he; simp at he
 | cons h1 h2 _ ih =>
  intro j k v he
  cases j with
  | zero => simp at he; obtain ⟨rfl, rfl⟩ := he; exact ⟨_, rfl, h1, h2⟩
  | succ j => exact ih (by simpa using he)
theorem T8 {w0 : World} {n : Nat} {H : A3} {xv : Value} {x v : AV} (h0 : Rel0 P w0 G n H w) (hx : Rep G xv x) (h : Gt H x = some v) : AW P w G (Instr.entry xv) v := by
 unfold Gt at h
 split at h
 ·rename_i g off
  split at h
  ·rename_i ho
   subst ho
   split at h
   ·rename_i m len left j hH
    split at h
    ·rename_i kk es hM
     split at h
     ·rename_i hlen
      obtain ⟨p, hp, rfl⟩ := Option.map_eq_some_iff.1 h
      obtain ⟨k, v⟩ := p
      obtain ⟨_, _, since, seen, es', clock, hg, hb, hle, hck, _, _, _, hcur⟩ := h0.objs g _ hH
      obtain ⟨_, _, es2, c2, hb2, hrep, _, hbo⟩ := h0.objs m _ hM
      rw [hb] at hb2; injection hb2 with hb2; injection hb2 with q1 q2; subst q1; subst q2
      have hsz : es'.size = es.length := by rw [← Zg hrep]; simp
      have hcs : clock = since := by omega
      obtain ⟨hj, b, hbj, hback⟩ := hcur j rfl
      obtain ⟨e, he, hk, hv⟩ := A3t hrep hp
      have hbe : b = e.born := by
       simp only [Bo, List.getElem?_map, he, Option.map_some] at hbj
       injection hbj with hbj; exact hbj.symm
      cases hx
      rw [hcs] at hb
      rw [hbe] at hback
      exact ⟨.tuple #[e.key, e.val], Qe hg hback hb (List.mem_of_getElem? he) hbo.1, .tup (.cons hk (.cons hv .nil))⟩
     ·cases h
    ·cases h
   ·cases h
  ·cases h
 ·cases h
theorem Sh {src dst el : TypeId} {w0 : World} {n : Nat} {H : A3} {v : Value} {sz : Nat} {l : List AV} {tk : Tok} {bs : List UInt8} (h0 : Rel0 P w0 G n H w) (hs : P.underlying src = some (.slice el)) (he : P.underlying el = some (.int .u8)) (hd : P.underlying dst = some .string)
  (hv : Rep G v (.sl sz l tk)) (h : bytesOf l = some bs) : AW P w G (convert src dst v) (.str bs) := by
 obtain ⟨A, c, rfl, hc, hm, hA⟩ := hv.slOut
 refine ⟨.string ⟨bs.toArray⟩, ?_, .str (by simp)⟩
 rw [run_convert_bytes_string w src dst el A _ c hs he hd]
 by_cases hl : l = []
 ·subst hl
  simp [bytesOf] at h; subst h
  cases A with
  | none => simp [Conv.bytesToString]; rfl
  | some ad =>
   rw [run_bytesToString w ad _ c [] (by simp [loadCells, loadCellsFrom])]
   rfl
 ·obtain ⟨g, off, vs, rfl, hr, hse, ho⟩ := hA hl
  obtain ⟨ns, e1, e2⟩ := IF h hr
  have hlen : vs.length = l.length := by
   have hz := Gq h
   have h1 := hr.len
   rw [GC hz] at h1; omega
  have hload := run_loadCells_list (P := P) w ⟨g, off, none⟩ vs (fun j u hu => by rw [addr_add]; exact h0.seal_ _ _ _ (hse j u hu))
  rw [hlen, e1] at hload
  rw [run_bytesToString w _ _ c ns hload, VH, e2]
  simp
theorem SZ {x : Operand} {c : Opd → AOp} {op : AOp} (h : (FF x).map c = some op) : ∃ o, FF x = some o ∧ op = c o := by
 obtain ⟨o, h1, h2⟩ := Option.map_eq_some_iff.1 h
 exact ⟨o, h1, h2.symm⟩
theorem EL {m : Sem Value} {v : AV} (h : AW P w G m v) : ∃ v', (do pure (Next.value (← m)) : Sem Next).run P w = .ok (.value v') w ∧ Rep G v' v := by
 obtain ⟨v', h1, h2⟩ := h
 exact ⟨v', by simp [h1], h2⟩
theorem Qc {w0 : World} {nt : Nat} {ds : List Deferred} {s : AS} {o : Oper} {op : AOp} {v : AV} {b : Builtin} {args : Array Operand} {tys : Array TypeId} (hc : Hi P b args.toList tys.toList = some op) (hp : pe op s.e s.H = some v) (hr : RelS P w0 nt ds G s a w) :
  ∃ v', (∀ cs, (builtin b tys o.type cs (args.map a.eval)).run P w = .ok (.value v') w) ∧ Rep G v' v := by
 have ht := hr.tm
 have hargs : args.map a.eval = (args.toList.map a.eval).toArray := by rw [← Array.toList_map]
 have htys : tys = tys.toList.toArray := by simp
 rw [hargs, htys]
 generalize args.toList = al at hc ⊢
 generalize tys.toList = tl at hc ⊢
 unfold Hi at hc
 split at hc
 ·-- len
  split at hc
  ·rename_i x' hu hx
   injection hc with hc; subst hc
   have hxr := AJ (G := G) (a := a) (e := s.e) hx ht
   simp only [pe] at hp
   split at hp
   ·rename_i st he
    injection hp with hp; subst hp
    rw [he] at hxr
    simp only [List.map_cons, List.map_nil]
    generalize a.eval _ = xv at hxr ⊢
    cases hxr with | str hxr =>
    subst hxr
    exact ⟨_, fun cs => by simp [builtin, Builtin.len_, run_underlying hu]; rfl, .int⟩
   ·cases hp
  ·rename_i el x' hu hx
   injection hc with hc; subst hc
   have hxr := AJ (G := G) (a := a) (e := s.e) hx ht
   simp only [pe] at hp
   split at hp
   ·rename_i z l tk he
    injection hp with hp; subst hp
    rw [he] at hxr
    obtain ⟨A, c, hv, _⟩ := hxr.slOut
    simp only [List.map_cons, List.map_nil, hv]
    exact ⟨_, fun cs => by simp [builtin, Builtin.len_, run_underlying hu]; rfl, .int⟩
   ·rename_i z g o n he
    injection hp with hp; subst hp
    rw [he] at hxr
    generalize hxv : a.eval _ = xv at hxr
    cases hxr
    simp only [List.map_cons, List.map_nil, hxv]
    exact ⟨_, fun cs => by simp [builtin, Builtin.len_, run_underlying hu]; rfl, .int⟩
   ·rename_i z g n he
    injection hp with hp; subst hp
    rw [he] at hxr
    generalize hxv : a.eval _ = xv at hxr
    cases hxr
    simp only [List.map_cons, List.map_nil, hxv]
    exact ⟨_, fun cs => by simp [builtin, Builtin.len_, run_underlying hu]; rfl, .int⟩
   ·cases hp
  ·rename_i n el x' hu hx
   injection hc with hc; subst hc
   simp only [pe] at hp
   injection hp with hp; subst hp
   simp only [List.map_cons, List.map_nil]
   exact ⟨_, fun cs => by simp [builtin, Builtin.len_, run_underlying hu]; rfl, .int⟩
  ·cases hc
 ·split at hc
  ·split at hc
   ·split at hc
    ·split at hc
     ·injection hc with hc; subst hc; cases hp
     ·split at hc
      ·injection hc with hc; subst hc; cases hp
      ·cases hc
    ·cases hc
   ·cases hc
  ·cases hc
 ·split at hc
  ·rename_i el x' hu hx
   injection hc with hc; subst hc
   obtain ⟨v', h1, h2⟩ := TO (ty := o.type) (tys := #[_]) hr.r0 (AJ hx ht) hp
   exact ⟨v', fun cs => by simp only [builtin, List.map_cons, List.map_nil, Sem.run_bind]; rw [h1]; rfl, h2⟩
  ·cases hc
 ·split at hc
  ·split at hc
   ·injection hc with hc; subst hc; cases hp
   ·cases hc
  ·cases hc
 ·split at hc
  ·rename_i x' y' hx hy
   injection hc with hc; subst hc
   have hxr := AJ (G := G) (a := a) (e := s.e) hx ht
   have hyr := AJ (G := G) (a := a) (e := s.e) hy ht
   simp only [pe] at hp
   split at hp
   ·rename_i k p k' q e1 e2
    split at hp
    ·rename_i hk; subst hk
     injection hp with hp; subst hp
     rw [e1] at hxr; rw [e2] at hyr
     simp only [List.map_cons, List.map_nil]
     generalize a.eval _ = xv at hxr ⊢
     generalize a.eval _ = yv at hyr ⊢
     cases hxr; cases hyr
     refine ⟨.int k (if q > p then q else p), fun cs => by simp [builtin, run_max_int2], ?_⟩
     rw [show (if q > p then q else p) = max p q by omega]
     exact .int
    ·cases hp
   ·cases hp
  ·cases hc
 ·split at hc
  ·rename_i x' y' hx hy
   injection hc with hc; subst hc
   have hxr := AJ (G := G) (a := a) (e := s.e) hx ht
   have hyr := AJ (G := G) (a := a) (e := s.e) hy ht
   simp only [pe] at hp
   split at hp
   ·rename_i k p k' q e1 e2
    split at hp
    ·rename_i hk; subst hk
     injection hp with hp; subst hp
     rw [e1] at hxr; rw [e2] at hyr
     simp only [List.map_cons, List.map_nil]
     generalize a.eval _ = xv at hxr ⊢
     generalize a.eval _ = yv at hyr ⊢
     cases hxr; cases hyr
     refine ⟨.int k (if q < p then q else p), fun cs => by simp [builtin, run_min_int2], ?_⟩
     rw [show (if q < p then q else p) = min p q by omega]
     exact .int
    ·cases hp
   ·cases hp
  ·cases hc
 ·cases hc
theorem ZG {w0 : World} {nt : Nat} {ds : List Deferred} {s : AS} {o : Oper} {op : AOp} {ef : List Nat} {v : AV} (hc : cOp P ef o.op = some op) (hp : pe op s.e s.H = some v) (hr : RelS P w0 nt ds G s a w) :
  ∃ v', (execOp a.eval o).run P w = .ok (.value v') w ∧ Rep G v' v := by
 have ht := hr.tm
 unfold execOp
 unfold cOp at hc
 split at hc
 ·-- move
  rename_i x hop
  obtain ⟨x', hx, rfl⟩ := SZ hc
  simp only [pe] at hp; injection hp with hp; subst hp
  rw [hop]
  exact ⟨_, rfl, AJ hx ht⟩
 ·rename_i x hop
  obtain ⟨x', hx, rfl⟩ := SZ hc
  simp only [pe] at hp; injection hp with hp; subst hp
  rw [hop]
  exact ⟨_, rfl, AJ hx ht⟩
 ·-- pick
  rename_i c x y hop
  rw [hop]
  split at hc
  ·rename_i c' x' y' h1 h2 h3
   injection hc with hc; subst hc
   simp only [pe] at hp
   split at hp
   ·rename_i t htc
    injection hp with hp; subst hp
    have hcr := AJ h1 ht
    rw [htc] at hcr
    generalize hcv : a.eval c = cv at hcr
    cases hcr
    refine ⟨if t then a.eval x else a.eval y, by simp [hcv, asBool], ?_⟩
    cases t
    ·exact AJ h3 ht
    ·exact AJ h2 ht
   ·cases hp
  ·cases hc
 ·-- alloc
  split at hc
  ·injection hc with hc; subst hc; cases hp
  ·cases hc
 ·-- box
  split at hc
  ·injection hc with hc; subst hc; cases hp
  ·cases hc
 ·-- build
  rename_i t ps hop
  rw [hop]
  have fin : ∀ {z : List AV} {qs : List (Nat × Cm × Opd)}, zeroOf P t = some z → op = .build z qs → ((∃ fs pl, P.underlying t = some (.struct fs) ∧ fs.toList.mapM (fun f => (P.info? f.type).map fun i => (f.offset, i.size)) = some pl ∧ Parts G (pl.toArray[·]?) (ps.toList.map fun (i, x) => (i, a.eval x)) (qs.map fun (o, s', x) => (o, s', ev s.e x))) ∨
    (∃ n e ie, P.underlying t = some (.array n e) ∧ P.info? e = some ie ∧ Parts G (fun i => some (i * ie.size, ie.size)) (ps.toList.map fun (i, x) => (i, a.eval x)) (qs.map fun (o, s', x) => (o, s', ev s.e x)))) →
    AW P w G (Instr.build t (ps.map fun (i, x) => (i, a.eval x))) v := by
   intro z qs hz hop' hparts
   subst hop'
   obtain ⟨i, zv, hi, hzv, hrz, h1⟩ := Kc (G := G) hz
   simp only [pe] at hp
   split at hp
   ·rename_i hb
    injection hp with hp; subst hp
    have := QU (w := w) (ps := ps.map fun (i, x) => (i, a.eval x)) hi hzv hrz h1 hb (by simpa using hparts)
    simpa [Function.comp_def] using this
   ·cases hp
  refine EL ?_
  split at hc
  ·rename_i fs z hu hz
   split at hc
   ·rename_i hpl
    obtain ⟨pl, hpl⟩ := Option.isSome_iff_exists.1 hpl
    obtain ⟨qs, hq, hop'⟩ := Option.map_eq_some_iff.1 hc
    exact fin hz hop'.symm (.inl ⟨fs, pl, hu, hpl, Q7 ht hpl hq⟩)
   ·cases hc
  ·rename_i n el z hu hz
   split at hc
   ·rename_i sh hsh
    obtain ⟨qs, hq, hop'⟩ := Option.map_eq_some_iff.1 hc
    obtain ⟨k1, k2, k3, inf, k4, k5⟩ := D5 hsh
    refine fin hz hop'.symm (.inr ⟨n, el, inf, hu, k4, ?_⟩)
    rw [k5] at hq
    exact Q8 ht (by rw [k2, k5]) hq
   ·cases hc
  ·cases hc
 ·-- buildSlice
  split at hc
  ·split at hc
   ·split at hc
    ·injection hc with hc; subst hc; cases hp
    ·cases hc
   ·cases hc
  ·cases hc
 ·-- load
  rename_i t x hop
  rw [hop]
  split at hc
  ·rename_i sh x' h1 h2
   injection hc with hc; subst hc
   exact EL (M4 hr.r0 h1 (AJ h2 ht) hp)
  ·cases hc
 ·-- store
  split at hc
  ·injection hc with hc; subst hc; cases hp
  ·cases hc
 ·-- nilCheck
  rename_i x hop
  rw [hop]
  obtain ⟨x', hx, rfl⟩ := SZ hc
  have hxr := AJ (G := G) (a := a) (e := s.e) hx ht
  simp only [pe] at hp
  generalize hxv : a.eval x = xv at hxr
  split at hp
  ·rename_i g o he
   injection hp with hp; subst hp
   rw [he] at hxr; cases hxr
   exact ⟨_, by simp [hxv], .ptr⟩
  ·rename_i y he
   injection hp with hp; subst hp
   rw [he] at hxr
   have h2 := hxr
   cases hxr with
   | ref _ _ _ => exact ⟨_, by simp [hxv], h2⟩
  ·rename_i f b c he
   split at hp
   ·injection hp with hp; subst hp
    rw [he] at hxr
    have h2 := hxr
    cases hxr with
    | fn _ _ => exact ⟨_, by simp [hxv], h2⟩
   ·cases hp
  ·cases hp
 ·-- binOp
  rename_i bop t x y yt hop
  rw [hop]
  refine EL ?_
  split at hc
  ·rename_i x' y' hx hy
   have hxr := AJ (G := G) (a := a) (e := s.e) hx ht
   have hyr := AJ (G := G) (a := a) (e := s.e) hy ht
   split at hc
   ·injection hc with hc; subst hc
    simp only [pe] at hp
    exact NK hxr hyr hp
   ·injection hc with hc; subst hc
    simp only [pe] at hp
    exact NK hxr hyr hp
   ·rename_i hu
    have key : ∀ ng, bop = (if ng then BinOp.neq else BinOp.eql) → op = .eqb ng x' y' → AW P w G (do eqGuard bop t x y (a.eval x) (a.eval y); binOp bop t (a.eval x) (a.eval y)) v := by
     rintro ng rfl rfl
     simp only [pe] at hp
     split at hp
     ·rename_i p q e1 e2
      injection hp with hp; subst hp
      rw [e1] at hxr; rw [e2] at hyr
      generalize a.eval x = xv at hxr
      generalize a.eval y = yv at hyr
      cases hxr; cases hyr
      exact Tv hu
     ·cases hp
    split at hc
    ·injection hc with hc; exact key false rfl hc.symm
    ·injection hc with hc; exact key true rfl hc.symm
    ·cases hc
   ·rename_i el hu
    have key : ∀ ng, bop = (if ng then BinOp.neq else BinOp.eql) → y = .const (.slice none 0 0) → op = .eqn ng x' → AW P w G (do eqGuard bop t x y (a.eval x) (a.eval y); binOp bop t (a.eval x) (a.eval y)) v := by
     rintro ng rfl rfl rfl
     simp only [pe] at hp
     exact TF hu hxr hp
    split at hc
    ·injection hc with hc; exact key false rfl rfl hc.symm
    ·injection hc with hc; exact key true rfl rfl hc.symm
    ·cases hc
   ·rename_i el hu
    have key : ∀ ng, bop = (if ng then BinOp.neq else BinOp.eql) → y = .const (.pointer none) → op = .eqp ng x' → AW P w G (do eqGuard bop t x y (a.eval x) (a.eval y); binOp bop t (a.eval x) (a.eval y)) v := by
     rintro ng rfl rfl rfl
     simp only [pe] at hp
     obtain ⟨r, hr1, hr2⟩ := Option.map_eq_some_iff.1 hp
     subst hr2
     exact T6 hu hxr hr1
    have key2 : ∀ ng, bop = (if ng then BinOp.neq else BinOp.eql) → ((P.info? el).isSome ∧ BJ P el ≠ 0) → op = .eqpp ng x' y' → AW P w G (do eqGuard bop t x y (a.eval x) (a.eval y); binOp bop t (a.eval x) (a.eval y)) v := by
     rintro ng rfl hinf rfl
     simp only [pe] at hp
     split at hp
     ·rename_i g o g' o' e1 e2
      split at hp
      ·rename_i hgg; subst hgg
       injection hp with hp; subst hp
       rw [e1] at hxr; rw [e2] at hyr
       generalize a.eval x = xv at hxr ⊢
       generalize a.eval y = yv at hyr ⊢
       cases hxr; cases hyr
       exact SI hu hinf.1 hinf.2
      ·cases hp
     ·cases hp
    unfold SS at hc
    split at hc
    ·injection hc with hc; exact key false rfl rfl hc.symm
    ·injection hc with hc; exact key true rfl rfl hc.symm
    ·split at hc
     ·rename_i hinf; injection hc with hc; exact key2 false rfl hinf hc.symm
     ·cases hc
    ·split at hc
     ·rename_i hinf; injection hc with hc; exact key2 true rfl hinf hc.symm
     ·cases hc
    ·cases hc
   ·rename_i ms hu
    have key : ∀ ng, bop = (if ng then BinOp.neq else BinOp.eql) → y = .const .nilIface → op = .eqi ng x' → AW P w G (do eqGuard bop t x y (a.eval x) (a.eval y); binOp bop t (a.eval x) (a.eval y)) v := by
     rintro ng rfl rfl rfl
     simp only [pe] at hp
     obtain ⟨r, hr1, hr2⟩ := Option.map_eq_some_iff.1 hp
     subst hr2
     exact TB hu hxr hr1
    split at hc
    ·injection hc with hc; exact key false rfl rfl hc.symm
    ·injection hc with hc; exact key true rfl rfl hc.symm
    ·cases hc
   ·rename_i fs hu
    have key : ∀ ng ks, Gm P t fs = some ks → bop = (if ng then BinOp.neq else BinOp.eql) → op = .eqs ks ng x' y' → AW P w G (do eqGuard bop t x y (a.eval x) (a.eval y); binOp bop t (a.eval x) (a.eval y)) v := by
     rintro ng ks hks rfl rfl
     simp only [pe] at hp
     split at hp
     ·rename_i p q e1 e2
      obtain ⟨r, hr1, hr2⟩ := Option.map_eq_some_iff.1 hp
      subst hr2
      rw [e1] at hxr; rw [e2] at hyr
      exact TD hu hks hxr hyr hr1
     ·cases hp
    split at hc
    ·rename_i ks hks; injection hc with hc; exact key false ks hks rfl hc.symm
    ·rename_i ks hks; injection hc with hc; exact key true ks hks rfl hc.symm
    ·cases hc
   ·cases hc
  ·cases hc
 ·-- neg
  rename_i t x hop
  rw [hop]
  refine EL ?_
  obtain ⟨x', hx, rfl⟩ := SZ hc
  have hxr := AJ (G := G) (a := a) (e := s.e) hx ht
  simp only [pe] at hp
  split at hp
  ·rename_i k n he
   injection hp with hp; subst hp
   rw [he] at hxr
   generalize a.eval x = xv at hxr ⊢
   cases hxr
   exact ⟨.int k (k.wrap (0 - n)), by simp [Op.unary, Op.intArith], .int⟩
  ·cases hp
 ·-- not
  rename_i t x hop
  rw [hop]
  refine EL ?_
  obtain ⟨x', hx, rfl⟩ := SZ hc
  have hxr := AJ (G := G) (a := a) (e := s.e) hx ht
  simp only [pe] at hp
  split at hp
  ·rename_i b he
   injection hp with hp; subst hp
   rw [he] at hxr
   generalize a.eval x = xv at hxr ⊢
   cases hxr
   exact ⟨.bool (!b), by simp [Op.unary], .bool⟩
  ·cases hp
 ·-- convert
  rename_i src dst x hop
  rw [hop]
  refine EL ?_
  split at hc
  ·rename_i x' k0 k hx hs hd
   injection hc with hc; subst hc
   have hxr := AJ (G := G) (a := a) (e := s.e) hx ht
   simp only [pe] at hp
   split at hp
   ·rename_i kk n he
    injection hp with hp; subst hp
    rw [he] at hxr
    generalize a.eval x = xv at hxr ⊢
    cases hxr
    exact ⟨_, by simp [convert, run_underlying hs, run_underlying hd, Conv.intToInt], .int⟩
   ·cases hp
  ·rename_i x' k0 hx hs hd
   injection hc with hc; subst hc
   have hxr := AJ (G := G) (a := a) (e := s.e) hx ht
   simp only [pe] at hp
   split at hp
   ·rename_i kk n he
    injection hp with hp; subst hp
    rw [he] at hxr
    generalize a.eval x = xv at hxr ⊢
    cases hxr
    exact ⟨_, by simp [convert, run_underlying hs, run_underlying hd, Conv.intToString], .str rfl⟩
   ·cases hp
  ·rename_i x' el hx hs hd
   split at hc
   ·rename_i hel
    injection hc with hc; subst hc
    have hxr := AJ (G := G) (a := a) (e := s.e) hx ht
    simp only [pe] at hp
    split at hp
    ·rename_i z l tk he
     obtain ⟨bs, hb1, hb2⟩ := Option.map_eq_some_iff.1 hp
     subst hb2
     rw [he] at hxr
     exact Sh hr.r0 hs hel hd hxr hb1
    ·cases hp
   ·cases hc
  ·rename_i x' t hx hs hd
   split at hc
   ·rename_i hinf
    injection hc with hc; subst hc
    exact TY hr.r0 hs hd hinf.1 hinf.2 (AJ hx ht) hp
   ·cases hc
  ·split at hc
   ·injection hc with hc; subst hc; cases hp
   ·cases hc
  ·split at hc
   ·injection hc with hc; subst hc; cases hp
   ·cases hc
  ·split at hc
   ·split at hc
    ·injection hc with hc; subst hc; cases hp
    ·cases hc
   ·cases hc
  ·cases hc
 ·-- makeMap
  split at hc
  ·obtain ⟨kk, _, rfl⟩ := Option.map_eq_some_iff.1 hc
   cases hp
  ·cases hc
 ·-- lookup
  rename_i t x ix ok hop
  rw [hop]
  refine EL ?_
  split at hc
  ·rename_i kt el x' ix' hm hx hix
   split at hc
   ·rename_i kk z hkk hz
    obtain ⟨za, hza, rfl⟩ := Option.map_eq_some_iff.1 hc
    have hxr := AJ (G := G) (a := a) (e := s.e) hx ht
    have hkr := AJ (G := G) (a := a) (e := s.e) hix ht
    simp only [pe] at hp
    exact Rc hr.r0 hm hkk hz hza hxr hkr hp
   ·cases hc
  ·cases hc
 ·-- mapUpdate
  split at hc
  ·obtain ⟨kk, _, rfl⟩ := Option.map_eq_some_iff.1 hc
   cases hp
  ·cases hc
 ·-- insert
  split at hc
  ·obtain ⟨kk, _, rfl⟩ := Option.map_eq_some_iff.1 hc
   cases hp
  ·cases hc
 ·-- makeFunc
  rename_i f b c hop
  rw [hop]
  split at hc
  ·rename_i b' c' hb hcc
   injection hc with hc; subst hc
   simp only [pe] at hp; injection hp with hp; subst hp
   refine EL ⟨.func (.func f) (b.map a.eval) (c.map a.eval), rfl, ?_⟩
   have := Rep.fn (f := f) (Hh hb ht) (Hh hcc ht)
   rw [← Array.toList_map, ← Array.toList_map] at this
   simpa only [Array.toArray_toList] using this
  ·cases hc
 ·-- slice
  rename_i t x lo hi hop
  rw [hop]
  refine EL ?_
  split at hc
  ·rename_i x' lo' hi' hu hx hlo hhi
   injection hc with hc; subst hc
   have hxr := AJ (G := G) (a := a) (e := s.e) hx ht
   simp only [pe, EN] at hp
   split at hp
   ·rename_i st he
    obtain ⟨⟨l, u⟩, hb1, hb2⟩ := Option.map_eq_some_iff.1 hp
    subst hb2
    rw [he] at hxr
    generalize a.eval x = xv at hxr ⊢
    cases hxr with | str hxr =>
    subst hxr
    exact U1 hu (Et hlo ht) (Et hhi ht) hb1
   ·cases hp
  ·rename_i el x' lo' hi' hu hx hlo hhi
   split at hc
   ·rename_i hinf
    obtain ⟨inf, hinf⟩ := Option.isSome_iff_exists.1 hinf
    injection hc with hc; subst hc
    have hxr := AJ (G := G) (a := a) (e := s.e) hx ht
    simp only [pe, Ha] at hp
    split at hp
    ·rename_i z xs tk he
     split at hp
     ·rename_i hz
      obtain ⟨⟨l, u⟩, hb1, hb2⟩ := Option.map_eq_some_iff.1 hp
      subst hb2
      rw [he] at hxr
      have hxr : Rep G (a.eval x) (.sl (BJ P el) xs .ro) := hxr.sim ⟨BJ P el, xs, .ro, rfl, .inl rfl, hz.imp (fun e => e.symm) (fun e => ⟨e, rfl⟩), A0 _⟩
      exact VA hu hinf hxr (Et hlo ht) (Et hhi ht) hb1
     ·cases hp
    ·rename_i z g m he
     split at hp
     ·rename_i hz
      obtain ⟨⟨l, u⟩, hb1, hb2⟩ := Option.bind_eq_some_iff.1 hp
      dsimp only at hb2
      split at hb2
      ·rename_i hl
       subst hl
       injection hb2 with hb2; subst hb2
       rw [he] at hxr
       generalize a.eval x = xv at hxr ⊢
       cases hxr with
       | slg h1 h2 h3 => exact Sn hu hinf h1 h2 h3 (Et hlo ht) (Et hhi ht) hb1
      ·cases hb2
     ·cases hp
    ·cases hp
   ·cases hc
  ·cases hc
 ·-- fieldAddr
  rename_i t x f hop
  rw [hop]
  refine EL ?_
  split at hc
  ·rename_i fs x' hu hx
   split at hc
   ·rename_i fd hfd
    split at hc
    ·rename_i sh hsh
     injection hc with hc; subst hc
     exact Qh hu hfd hsh (AJ hx ht) hp
    ·cases hc
   ·cases hc
  ·cases hc
 ·-- field
  rename_i t x f hop
  rw [hop]
  refine EL ?_
  split at hc
  ·rename_i fs x' hu hx
   split at hc
   ·rename_i fd hfd
    split at hc
    ·rename_i sh hsh
     injection hc with hc; subst hc
     simp only [pe] at hp
     have hxr := AJ (G := G) (a := a) (e := s.e) hx ht
     split at hp
     ·rename_i cs he
      rw [he] at hxr
      exact QW hu hfd hsh hxr hp
     ·cases hp
    ·cases hc
   ·cases hc
  ·cases hc
 ·-- indexAddr
  rename_i t x i hop
  rw [hop]
  refine EL ?_
  split at hc
  ·rename_i el x' i' hu hx hi
   split at hc
   ·rename_i sh hsh
    injection hc with hc; subst hc
    exact QR hu hsh (AJ hx ht) (AJ hi ht) hp
   ·cases hc
  ·rename_i n el x' i' hu hx hi
   split at hc
   ·rename_i sh hsh
    injection hc with hc; subst hc
    exact Qg hu hsh (AJ hx ht) (AJ hi ht) hp
   ·cases hc
  ·cases hc
 ·-- index
  rename_i t x i hop
  rw [hop]
  refine EL ?_
  split at hc
  ·rename_i x' i' hu hx hi
   injection hc with hc; subst hc
   have hxr := AJ (G := G) (a := a) (e := s.e) hx ht
   have hir := AJ (G := G) (a := a) (e := s.e) hi ht
   simp only [pe] at hp
   split at hp
   ·rename_i st k j e1 e2
    split at hp
    ·rename_i hj
     obtain ⟨b, hb1, hb2⟩ := Option.map_eq_some_iff.1 hp
     subst hb2
     rw [e1] at hxr; rw [e2] at hir
     generalize a.eval x = xv at hxr ⊢
     generalize a.eval i = iv at hir ⊢
     cases hxr with | str hxr =>
     cases hir
     subst hxr
     exact SG hu hj hb1
    ·cases hp
   ·cases hp
  ·rename_i n el x' i' hu hx hi
   split at hc
   ·rename_i sh hsh
    injection hc with hc; subst hc
    have hxr := AJ (G := G) (a := a) (e := s.e) hx ht
    have hir := AJ (G := G) (a := a) (e := s.e) hi ht
    simp only [pe] at hp
    split at hp
    ·rename_i cs k j e1 e2
     split at hp
     ·rename_i hj
      rw [e1] at hxr; rw [e2] at hir
      generalize a.eval i = iv at hir ⊢
      cases hir
      exact S4 hu hsh hxr hj hp
     ·cases hp
    ·cases hp
   ·cases hc
  ·cases hc
 ·-- extract
  rename_i x i hop
  rw [hop]
  refine EL ?_
  obtain ⟨x', hx, rfl⟩ := SZ hc
  have hxr := AJ (G := G) (a := a) (e := s.e) hx ht
  simp only [pe] at hp
  split at hp
  ·rename_i vs he
   rw [he] at hxr
   generalize a.eval x = xv at hxr ⊢
   cases hxr with
   | tup hl =>
    obtain ⟨u, hu, hru⟩ := hl.at hp
    exact ⟨u, by simp [Instr.extract, hu], hru⟩
  ·cases hp
 ·-- call
  rename_i c hop
  rw [hop]
  unfold Vg at hc
  split at hc
  ·rename_i f hcal
   split at hc
   ·rename_i xs hxs
    split at hc
    ·rename_i fn hfn
     split at hc
     ·injection hc with hc; subst hc; split at hp <;> cases hp
     ·split at hc
      ·rename_i x'
       split at hc
       ·rename_i hne
        injection hc with hc; subst hc
        simp only [pe] at hp; injection hp with hp; subst hp
        simp only [Bool.and_eq_true] at hne
        have hrep := Hh (G := G) (a := a) (e := s.e) hxs ht
        simp only [List.map_cons, List.map_nil] at hrep
        generalize hal : c.args.toList.map a.eval = al at hrep
        cases hrep with
        | cons hv hn =>
         cases hn
         rename_i v0
         refine ⟨v0, ?_, hv⟩
         have hargs : c.args.map a.eval = #[v0] := by
          have h1 : (c.args.map a.eval).toList = [v0] := by rw [Array.toList_map]; exact hal
          have h2 := congrArg List.toArray h1
          rw [Array.toArray_toList] at h2
          exact h2
         simp only [resolve, hcal, hargs, Act.eval, Deferred.ofValue, Sem.run_bind, Sem.run_pure, Result.andThen_ok, invoke]
         have hname : fn.name = IH := by simpa using hne.1.2
         have hor : fn.origin = "" := by simpa using hne.2
         rw [run_callFunc_extern hfn (by rw [hname]; decide) hne.1.1 (Pe hname hor) (Uq hname)]
         rfl
       ·cases hc
      ·cases hc
    ·cases hc
   ·cases hc
  ·split at hc
   ·injection hc with hc; subst hc; cases hp
   ·cases hc
  ·rename_i b hcal
   have hb := Qc (o := o) hc hp hr
   obtain ⟨v', h1, h2⟩ := hb
   refine ⟨v', ?_, h2⟩
   simp only [resolve, hcal, Sem.run_bind, Sem.run_pure, Result.andThen_ok, invoke]
   exact h1 _
  ·cases hc
 ·-- defer
  split at hc
  ·obtain ⟨xs, h1, h2⟩ := Option.map_eq_some_iff.1 hc
   subst h2; cases hp
  ·cases hc
 ·-- range
  split at hc
  ·injection hc with hc; subst hc; cases hp
  ·cases hc
 ·-- next
  obtain ⟨x', hx, rfl⟩ := SZ hc
  cases hp
 ·-- entry
  rename_i x hop
  obtain ⟨x', hx, rfl⟩ := SZ hc
  rw [hop]
  simp only [pe] at hp
  exact EL (T8 hr.r0 (AJ hx ht) hp)
 ·-- makeSlice
  split at hc
  ·split at hc
   ·split at hc
    ·injection hc with hc; subst hc; cases hp
    ·cases hc
   ·cases hc
  ·cases hc
 ·cases hc
end
open Go.RowKit
section
variable {P : Program} {w w' w0 : World} {G G' : Gh} {n : Nat} {H : A3}
def MapsKeep (w w' : World) : Prop := ∀ (m : Nat) (es : Array MapEntry) (c : Nat), w.heap[m]? = some (Obj.map es c) → ∃ (es' : Array MapEntry) (c' : Nat), w'.heap[m]? = some (Obj.map es' c') ∧ Grown es c es' c'
theorem MapsKeep.same (h : ∀ (m : Nat) (es : Array MapEntry) (c : Nat), w.heap[m]? = some (Obj.map es c) → w'.heap[m]? = w.heap[m]?) : MapsKeep w w' := fun m es c hm => ⟨es, c, by rw [h m es c hm]; exact hm, Grown.rfl_ _ _⟩
theorem MapsKeep.lt (h : ∀ m, m < w.heap.size → w'.heap[m]? = w.heap[m]?) : MapsKeep w w' := MapsKeep.same fun m es c hm => h m (Array.getElem?_eq_some_iff.1 hm).1
theorem MapsKeep.ne {g : Nat} (h : ∀ m, m ≠ g → w'.heap[m]? = w.heap[m]?) (hg : ∀ (es : Array MapEntry) (c : Nat), w.heap[g]? ≠ some (Obj.map es c)) : MapsKeep w w' := MapsKeep.same fun m es c hm => h m (fun e => hg es c (by rw [← e]; exact hm))
theorem ObjOk.keep {g : Nat} {ob : AObj} (h : ObjOk P G w g ob) (hg : w'.heap[g]? = w.heap[g]?) (hI : ∀ o, G'.I g o = G.I g o) (hc : G'.cap g = G.cap g) (hl : G.Le G') (hm : MapsKeep w w') : ObjOk P G' w' g ob := by
 cases ob with
 | cells e cs => obtain ⟨h1, vs, h2, h3, h4⟩ := h; exact ⟨fun o => by rw [hI]; exact h1 o, vs, by rw [hg]; exact h2, h3.mono hl, h4⟩
 | row e m => obtain ⟨cur, c, fz, h1, h2, hz, h3, h4, h5, h6⟩ := h; exact ⟨cur, c, fz, by rw [hc]; exact h1, by rw [hg]; exact h2, hz, h3, h4, h5, fun o ho => by rw [hI]; exact h6 o ho⟩
 | map kk es => obtain ⟨es', clock, h1, h2, h3⟩ := h; exact ⟨es', clock, by rw [hg]; exact h1, h2.mono hl, h3⟩
 | grow e cs => obtain ⟨h1, vs, c, h0, h2, h3, h4, h5, h6, h7⟩ := h; exact ⟨fun o => by rw [hI]; exact h1 o, vs, c, by rw [hc]; exact h0, by rw [hg]; exact h2, h3, h4, h5, h6.mono hl, h7⟩
 | iter m len left cur =>
  obtain ⟨since, seen, es', clock, h1, h2, h3, h4, h5, h6, h7, h8⟩ := h
  obtain ⟨es2, c2, k1, k2, k3, k4⟩ := hm m es' clock h2
  have hlt : ∀ j : Nat, j < len → ∃ b, (Bo es')[j]? = some b := fun j hj => ⟨_, List.getElem?_eq_getElem (by simp [Bo]; omega)⟩
  refine ⟨since, seen, es2, c2, by rw [hg]; exact h1, k1, by omega, by omega, h5, h6, fun j b hb hj => ?_, fun j hj => ?_⟩
  ·obtain ⟨b', hb'⟩ := hlt j hj
   have := k2 j b' hb'
   rw [hb] at this; injection this with this; subst this
   exact h7 j b hb' hj
  ·obtain ⟨q1, b, q2, q3⟩ := h8 j hj
   exact ⟨q1, b, k2 j b q2, q3⟩
theorem Rel0.fresh (h : Rel0 P w0 G n H w) (o : Nat) : G.I w.heap.size o = none := by
 cases hc : G.I w.heap.size o with
 | none => rfl
 | some v => have := World.block_lt_of_cell? w _ (h.seal_ _ _ _ hc); simp at this
theorem Rel0.freshCap (h : Rel0 P w0 G n H w) : G.cap w.heap.size = none := by
 cases hc : G.cap w.heap.size with
 | none => rfl
 | some v => obtain ⟨e, c⟩ := v; obtain ⟨cur, fz, h1, _⟩ := h.caps _ _ _ hc; have := (Array.getElem?_eq_some_iff.1 h1).1; omega
theorem Rel0.capLt (h : Rel0 P w0 G n H w) {g c : Nat} {e : TypeId} (hc : G.cap g = some (e, c)) : g < w.heap.size := by
 obtain ⟨cur, fz, h1, _⟩ := h.caps _ _ _ hc; exact (Array.getElem?_eq_some_iff.1 h1).1
theorem CZ {g c : Nat} {e : TypeId} (hg : w'.heap[g]? = w.heap[g]?) (h : ∃ (cur : Array Value) (fz : Nat × Nat), w.heap[g]? = some (.cells cur e fz) ∧ cur.size = c * BJ P e) : ∃ (cur : Array Value) (fz : Nat × Nat), w'.heap[g]? = some (.cells cur e fz) ∧ cur.size = c * BJ P e := by rw [hg]; exact h
theorem Rel0.supp (h : Rel0 P w0 G n H w) : ∀ g, n ≤ g → H g = none := fun g hg => by
 cases hc : H g with
 | none => rfl
 | some ob => have := (h.objs g ob hc).2.1; omega
theorem Rel0.same (h : Rel0 P w0 G n H w) (hh : w'.heap = w.heap) (ho : w'.os = w.os) (ht : w'.tape = w.tape) (hu : w'.output = w.output) : Rel0 P w0 G n H w' := by
 have he : Ext w0 w' := ⟨by rw [ho]; exact h.ext.os, by rw [ht]; exact h.ext.tape, by rw [hu]; exact h.ext.output, by rw [hh]; exact h.ext.size, fun k hk => by rw [hh]; exact h.ext.block k hk⟩
 refine ⟨he, h.lo, by rw [hh]; exact h.hi, fun b o v hv => ?_, fun g e c hc => CZ (by rw [hh]) (h.caps g e c hc), h.capLo, fun g ob hob => ?_⟩
 ·have := h.seal_ b o v hv; unfold World.cell? at this ⊢; rw [hh]; exact this
 ·obtain ⟨h1, h2, h3⟩ := h.objs g ob hob
  exact ⟨h1, h2, h3.keep (by rw [hh]) (fun _ => rfl) rfl (Gh.Le.rfl_ G) (MapsKeep.lt fun m _ => by rw [hh])⟩
theorem Rel0.less {n' : Nat} {H' : A3} (h : Rel0 P w0 G n H w) (hlo : w0.heap.size ≤ n') (hn : n' ≤ n) (hs : ∀ g, n' ≤ g → H' g = none) (hb : SameB n' H' H) : Rel0 P w0 G n' H' w := by
 refine ⟨h.ext, hlo, Nat.le_trans hn h.hi, h.seal_, h.caps, h.capLo, fun g ob hob => ?_⟩
 have hlt : g < n' := by
  rcases Nat.lt_or_ge g n' with h1 | h1
  ·exact h1
  ·rw [hs g h1] at hob; cases hob
 obtain ⟨h1, _, h3⟩ := h.objs g ob (by rw [hb g hlt]; exact hob)
 exact ⟨h1, hlt, h3⟩
theorem Rel0.more {n' : Nat} (h : Rel0 P w0 G n H w) (hn : n ≤ n') (hw : n' ≤ w.heap.size) : Rel0 P w0 G n' H w :=
 ⟨h.ext, Nat.le_trans h.lo hn, hw, h.seal_, h.caps, h.capLo, fun g ob hob => by obtain ⟨h1, h2, h3⟩ := h.objs g ob hob; exact ⟨h1, by omega, h3⟩⟩
theorem Rel0.new (h : Rel0 P w0 G n H w) {vs : Array Value} {e : TypeId} {cs : List AV} (hr : RepL G vs.toList cs) (h1 : ∀ x ∈ cs, x.one = true) :
  Rel0 P w0 G (w.heap.size + 1) (upd H w.heap.size (some (.cells e cs))) (w.alloc (.cells vs e)) := by
 refine ⟨h.ext.alloc' _, by have := h.lo; have := h.hi; omega, by simp, fun b o v hv => ?_, fun g e' c hc => CZ (by first | exact heap_alloc_old w _ (h.capLt hc) | exact Go.heap_alloc_old w _ g (h.capLt hc)) (h.caps g e' c hc), h.capLo, fun g ob hob => ?_⟩
 ·exact (Ext.new w _).cellAt (h.seal_ b o v hv)
 ·simp only [upd] at hob
  split at hob
  ·rename_i hg
   subst hg
   injection hob with hob; subst hob
   exact ⟨by have := h.lo; have := h.hi; omega, by omega, h.fresh, vs, by rw [heap_alloc_new], hr, h1⟩
  ·rename_i hg
   obtain ⟨k1, k2, k3⟩ := h.objs g ob hob
   have hlt : g < w.heap.size := by have := h.hi; omega
   exact ⟨k1, by omega, k3.keep (by first | exact heap_alloc_old w _ hlt | exact Go.heap_alloc_old w _ g hlt) (fun _ => rfl) rfl (Gh.Le.rfl_ G) (MapsKeep.lt fun m hm => by first | exact heap_alloc_old w _ hm | exact Go.heap_alloc_old w _ m hm)⟩
theorem Rel0.setRow (h : Rel0 P w0 G n H w) {g : Nat} {vs vs' : Array Value} {e : TypeId} {cs cs' : List AV} (hg : H g = some (.cells e cs)) (hgw : w.heap[g]? = some (.cells vs e (0, 0))) (hr : RepL G vs'.toList cs') (h1 : ∀ x ∈ cs', x.one = true) (hvs : vs'.size = vs.size) :
  Rel0 P w0 G n (upd H g (some (.cells e cs'))) (w.setRow g vs') := by
 obtain ⟨k1, k2, k3⟩ := h.objs g _ hg
 have hoth : ∀ k, k ≠ g → (w.setRow g vs').heap[k]? = w.heap[k]? := fun k hk => setRow_other w g k vs' hk
 refine ⟨⟨h.ext.os, h.ext.tape, h.ext.output, by simpa using h.ext.size, fun k hk => by rw [hoth k (by omega)]; exact h.ext.block k hk⟩, h.lo, by simpa using h.hi, fun b o v hv => ?_, fun k e' c hc => ?_, h.capLo, fun k ob hob => ?_⟩
 ·have hne : b ≠ g := by intro e; subst e; have h0 := k3.1 o; rw [h0] at hv; cases hv
  rw [World.cell?_of_block (hoth b hne)]; exact h.seal_ b o v hv
 ·by_cases hk : k = g
  ·subst hk
   obtain ⟨cur, fz, c1, c2⟩ := h.caps k e' c hc
   rw [hgw] at c1; injection c1 with c1; injection c1 with c1 c3 c4
   subst c1; subst c3
   exact ⟨vs', (0, 0), setRow_heap w _ vs vs' e _ hgw, by rw [hvs]; exact c2⟩
  ·exact CZ (hoth k hk) (h.caps k e' c hc)
 ·simp only [upd] at hob
  split at hob
  ·rename_i hk; subst hk
   injection hob with hob; subst hob
   exact ⟨k1, k2, k3.1, vs', setRow_heap w _ vs vs' e _ hgw, hr, h1⟩
  ·rename_i hk
   obtain ⟨j1, j2, j3⟩ := h.objs k ob hob
   exact ⟨j1, j2, j3.keep (hoth k hk) (fun _ => rfl) rfl (Gh.Le.rfl_ G) (MapsKeep.ne hoth fun es c e => by rw [hgw] at e; cases e)⟩
theorem Rel0.setGrow (h : Rel0 P w0 G n H w) {g c : Nat} {vs vs' : Array Value} {e : TypeId} {cs cs' : List AV} (hg : H g = some (.grow e cs)) (hc : G.cap g = some (e, c)) (hgw : w.heap[g]? = some (.cells vs e (0, 0))) (hm : c ≤ maxLen) (hsz : vs.size = c * BJ P e) (hl : cs'.length ≤ vs'.size) (hr : RepL G (vs'.toList.take cs'.length) cs') (h1 : ∀ x ∈ cs', x.one = true) (hvs : vs'.size = vs.size) :
  Rel0 P w0 G n (upd H g (some (.grow e cs'))) (w.setRow g vs') := by
 obtain ⟨k1, k2, k3⟩ := h.objs g _ hg
 have hoth : ∀ k, k ≠ g → (w.setRow g vs').heap[k]? = w.heap[k]? := fun k hk => setRow_other w g k vs' hk
 refine ⟨⟨h.ext.os, h.ext.tape, h.ext.output, by simpa using h.ext.size, fun k hk => by rw [hoth k (by omega)]; exact h.ext.block k hk⟩, h.lo, by simpa using h.hi, fun b o v hv => ?_, fun k e' c2 hc2 => ?_, h.capLo, fun k ob hob => ?_⟩
 ·have hne : b ≠ g := by intro e; subst e; have h0 := k3.1 o; rw [h0] at hv; cases hv
  rw [World.cell?_of_block (hoth b hne)]; exact h.seal_ b o v hv
 ·by_cases hk : k = g
  ·subst hk
   obtain ⟨cur, fz, c1, c3'⟩ := h.caps k e' c2 hc2
   rw [hgw] at c1; injection c1 with c1; injection c1 with c1 c4 c5
   subst c1; subst c4
   exact ⟨vs', (0, 0), setRow_heap w _ vs vs' e _ hgw, by rw [hvs]; exact c3'⟩
  ·exact CZ (hoth k hk) (h.caps k e' c2 hc2)
 ·simp only [upd] at hob
  split at hob
  ·rename_i hk; subst hk
   injection hob with hob; subst hob
   exact ⟨k1, k2, k3.1, vs', c, hc, setRow_heap w _ vs vs' e _ hgw, by rw [hvs]; exact hsz, hm, hl, hr, h1⟩
  ·rename_i hk
   obtain ⟨j1, j2, j3⟩ := h.objs k ob hob
   exact ⟨j1, j2, j3.keep (hoth k hk) (fun _ => rfl) rfl (Gh.Le.rfl_ G) (MapsKeep.ne hoth fun es c e => by rw [hgw] at e; cases e)⟩
def Gh.add (G : Gh) (g : Nat) (vs : List Value) (c : Option (TypeId × Nat)) : Gh :=
 { I := fun b o => if b = g then vs[o]? else G.I b o, cap := fun b => if b = g then c else G.cap b }
theorem Gh.add_le {g : Nat} {vs : List Value} {c : Option (TypeId × Nat)} (hI : ∀ o v, G.I g o = some v → vs[o]? = some v) (hc : ∀ c', G.cap g = some c' → c = some c') : G.Le (G.add g vs c) := by
 refine ⟨fun b o v hv => ?_, fun b c' hc' => ?_⟩
 ·simp only [Gh.add]; split
  ·rename_i hb; subst hb; exact hI o v hv
  ·exact hv
 ·simp only [Gh.add]; split
  ·rename_i hb; subst hb; exact hc c' hc'
  ·exact hc'
theorem Gh.add_sealed (g : Nat) (vs : List Value) (c : Option (TypeId × Nat)) : Sealed (G.add g vs c) g 0 vs := fun j u hu => by simp [Gh.add, hu]
theorem Rel0.addLe (h : Rel0 P w0 G n H w) (vs : List Value) (c : Option (TypeId × Nat)) : G.Le (G.add w.heap.size vs c) :=
 Gh.add_le (fun o v hv => by rw [h.fresh] at hv; cases hv) (fun c' hc' => by rw [h.freshCap] at hc'; cases hc')
theorem Rel0.newRow (h : Rel0 P w0 G n H w) {cur : Array Value} {e : TypeId} {fz : Nat × Nat} {vs : List Value} {c : Option (TypeId × Nat)} {ob : Option AObj} (hw : w'.heap = w.heap.push (.cells cur e fz)) (ho : w'.os = w.os) (ht : w'.tape = w.tape) (hu : w'.output = w.output)
  (hv : ∀ (j : Nat) (u : Value), vs[j]? = some u → cur[j]? = some u) (hcs : ∀ e' c', c = some (e', c') → e' = e ∧ cur.size = c' * BJ P e) (hob : ob = none ∨ ∃ m c', ob = some (.row e m) ∧ c = some (e, c') ∧ fz.2 ≤ m * BJ P e ∧ m ≤ c' ∧ c' ≤ maxLen ∧ vs.length ≤ m * BJ P e) :
  Rel0 P w0 (G.add w.heap.size vs c) (w.heap.size + 1) (upd H w.heap.size ob) w' := by
 have hnew : w'.heap[w.heap.size]? = some (.cells cur e fz) := by rw [hw]; simp
 have hold : ∀ k, k < w.heap.size → w'.heap[k]? = w.heap[k]? := fun k hk => by rw [hw, Array.getElem?_push]; simp [Nat.ne_of_lt hk]
 have hsz : w'.heap.size = w.heap.size + 1 := by rw [hw]; simp
 refine ⟨⟨ho.trans h.ext.os, ht.trans h.ext.tape, hu.trans h.ext.output, by rw [hsz]; have := h.ext.size; omega, fun k hk => by rw [hold k (by have := h.ext.size; omega)]; exact h.ext.block k hk⟩, by have := h.lo; have := h.hi; omega, by omega, fun b o v hv' => ?_, fun g e' c' hc' => ?_, fun g e' c' hc' => ?_, fun g ob' hob' => ?_⟩
 ·simp only [Gh.add] at hv'
  split at hv'
  ·rename_i hb; subst hb
   rw [cell_of_row w' _ o cur e fz hnew]; exact hv o v hv'
  ·rw [World.cell?_of_block (hold b (by have := World.block_lt_of_cell? w _ (h.seal_ b o v hv'); simpa using this))]
   exact h.seal_ b o v hv'
 ·simp only [Gh.add] at hc'
  split at hc'
  ·rename_i hb; subst hb
   obtain ⟨rfl, h2⟩ := hcs e' c' hc'
   exact ⟨cur, fz, hnew, h2⟩
  ·exact CZ (hold g (h.capLt hc')) (h.caps g e' c' hc')
 ·simp only [Gh.add] at hc'
  split at hc'
  ·rename_i hb; subst hb; have := h.lo; have := h.hi; omega
  ·exact h.capLo g e' c' hc'
 ·simp only [upd] at hob'
  split at hob'
  ·rename_i hg; subst hg
   rcases hob with rfl | ⟨m, c', rfl, rfl, e2, e3, e4, e6⟩
   ·cases hob'
   ·injection hob' with hob'; subst hob'
    refine ⟨by have := h.lo; have := h.hi; omega, by omega, cur, c', fz, by simp [Gh.add], hnew, e2, e3, e4, (hcs e c' rfl).2, fun o ho' => ?_⟩
    simp only [Gh.add, if_true]
    exact List.getElem?_eq_none (by omega)
  ·rename_i hg
   obtain ⟨k1, k2, k3⟩ := h.objs g ob' hob'
   have hlt : g < w.heap.size := by have := h.hi; omega
   exact ⟨k1, by omega, k3.keep (hold g hlt) (fun o => by simp [Gh.add, hg]) (by simp [Gh.add, hg]) (h.addLe vs c) (MapsKeep.lt hold)⟩
theorem Rel0.newGrow (h : Rel0 P w0 G n H w) {cur : Array Value} {e : TypeId} {c : Nat} {cs : List AV} (hw : w'.heap = w.heap.push (.cells cur e (0, 0))) (ho : w'.os = w.os) (ht : w'.tape = w.tape) (hu : w'.output = w.output)
  (hsz : cur.size = c * BJ P e) (hm : c ≤ maxLen) (hl : cs.length ≤ cur.size) (hr : RepL G (cur.toList.take cs.length) cs) (h1 : ∀ x ∈ cs, x.one = true) :
  Rel0 P w0 (G.add w.heap.size [] (some (e, c))) (w.heap.size + 1) (upd H w.heap.size (some (.grow e cs))) w' := by
 have hbase := h.newRow (w' := w') (cur := cur) (e := e) (fz := (0, 0)) (vs := []) (c := some (e, c)) (ob := none) hw ho ht hu (fun j u hu => by cases hu) (fun e' c' hc => by injection hc with hc; injection hc with a b; subst a; subst b; exact ⟨rfl, hsz⟩) (.inl rfl)
 refine ⟨hbase.ext, hbase.lo, hbase.hi, hbase.seal_, hbase.caps, hbase.capLo, fun g ob hob => ?_⟩
 by_cases hg : g = w.heap.size
 ·subst hg
  rw [AN] at hob
  injection hob with hob; subst hob
  have hnew : w'.heap[w.heap.size]? = some (.cells cur e (0, 0)) := by rw [hw]; simp
  exact ⟨by have := h.lo; have := h.hi; omega, by omega, fun o => by simp [Gh.add], cur, c, by simp [Gh.add], hnew, hsz, hm, hl, hr.mono (h.addLe _ _), h1⟩
 ·exact hbase.objs g ob (by rw [← hob]; simp [upd, hg])
theorem Rel0.newMap (h : Rel0 P w0 G n H w) (kk : Option IntKind) :
  Rel0 P w0 G (w.heap.size + 1) (upd H w.heap.size (some (.map kk []))) (w.alloc (.map #[] 0)) := by
 refine ⟨h.ext.alloc' _, by have := h.lo; have := h.hi; omega, by simp, fun b o v hv => ?_, fun g e' c hc => CZ (by first | exact heap_alloc_old w _ (h.capLt hc) | exact Go.heap_alloc_old w _ g (h.capLt hc)) (h.caps g e' c hc), h.capLo, fun g ob hob => ?_⟩
 ·exact (Ext.new w _).cellAt (h.seal_ b o v hv)
 ·simp only [upd] at hob
  split at hob
  ·rename_i hg
   subst hg
   injection hob with hob; subst hob
   exact ⟨by have := h.lo; have := h.hi; omega, by omega, #[], 0, by rw [heap_alloc_new], .nil, (fun e he => by cases he), ⟨by simp [Bo], by simp [Bo]⟩⟩
  ·rename_i hg
   obtain ⟨k1, k2, k3⟩ := h.objs g ob hob
   have hlt : g < w.heap.size := by have := h.hi; omega
   exact ⟨k1, by omega, k3.keep (by first | exact heap_alloc_old w _ hlt | exact Go.heap_alloc_old w _ g hlt) (fun _ => rfl) rfl (Gh.Le.rfl_ G) (MapsKeep.lt fun m hm => by first | exact heap_alloc_old w _ hm | exact Go.heap_alloc_old w _ m hm)⟩
theorem Rel0.setMap (h : Rel0 P w0 G n H w) {g : Nat} {kk : Option IntKind} {es es' : List (AV × AV)} {ms : Array MapEntry} {clock : Nat} {ms0 : Array MapEntry} {clock0 : Nat} (hg : H g = some (.map kk es)) (hb0 : w.heap[g]? = some (.map ms0 clock0)) (hb : w'.heap[g]? = some (.map ms clock)) (hr : RepM G ms.toList es') (hk : ∀ e ∈ es', BN kk e.1 = true) (hbo : P9 ms clock) (hgr : Grown ms0 clock0 ms clock)
  (hoth : ∀ k, k ≠ g → w'.heap[k]? = w.heap[k]?) (hsz : w'.heap.size = w.heap.size) (ho : w'.os = w.os) (ht : w'.tape = w.tape) (hu : w'.output = w.output) :
  Rel0 P w0 G n (upd H g (some (.map kk es'))) w' := by
 obtain ⟨k1, k2, k3⟩ := h.objs g _ hg
 refine ⟨⟨ho.trans h.ext.os, ht.trans h.ext.tape, hu.trans h.ext.output, by rw [hsz]; exact h.ext.size, fun k hk => by rw [hoth k (by omega)]; exact h.ext.block k hk⟩, h.lo, by rw [hsz]; exact h.hi, fun b o v hv => ?_, fun k e' c hc => ?_, h.capLo, fun k ob hob => ?_⟩
 ·have hne : b ≠ g := by
   intro e; subst e
   have h1 := h.seal_ b o v hv
   simp [World.cell?, hb0] at h1
  rw [World.cell?_of_block (hoth b hne)]; exact h.seal_ b o v hv
 ·have hne : k ≠ g := by
   intro e; subst e
   obtain ⟨cur, fz, c1, _⟩ := h.caps k e' c hc
   rw [hb0] at c1; cases c1
  exact CZ (hoth k hne) (h.caps k e' c hc)
 ·simp only [upd] at hob
  split at hob
  ·rename_i hk'; subst hk'
   injection hob with hob; subst hob
   exact ⟨k1, k2, ms, clock, hb, hr, hk, hbo⟩
  ·rename_i hk'
   obtain ⟨j1, j2, j3⟩ := h.objs k ob hob
   exact ⟨j1, j2, j3.keep (hoth k hk') (fun _ => rfl) rfl (Gh.Le.rfl_ G) (fun m es c hm => by
    by_cases hmg : m = g
    ·subst hmg
     rw [hb0] at hm; injection hm with hm; injection hm with e1 e2; subst e1; subst e2
     exact ⟨ms, clock, hb, hgr⟩
    ·exact ⟨es, c, by rw [hoth m hmg]; exact hm, Grown.rfl_ _ _⟩)⟩
theorem RepM.len {G : Gh} {es : List MapEntry} {xs : List (AV × AV)} (h : RepM G es xs) : es.length = xs.length := by
 induction h with
 | nil => rfl
 | cons _ _ _ ih => simp [ih]
theorem RepM.at_ {G : Gh} {es : List MapEntry} {xs : List (AV × AV)} (h : RepM G es xs) : ∀ {j : Nat} {e : MapEntry}, es[j]? = some e → ∃ k v, xs[j]? = some (k, v) ∧ Rep G e.key k ∧ Rep G e.val v := by
 induction h with
 | nil => intro j e he; simp at he
 | cons h1 h2 _ ih =>
  intro j e he
  cases j with
  | zero => simp at he; subst he; exact ⟨_, _, rfl, h1, h2⟩
  | succ j => exact ih (by simpa using he)
theorem Rel0.newIter (h : Rel0 P w0 G n H w) {m : Nat} {kk : Option IntKind} {es : List (AV × AV)} {es' : Array MapEntry} {clock : Nat} (hm : H m = some (.map kk es)) (hb : w.heap[m]? = some (.map es' clock)) :
  Rel0 P w0 G (w.heap.size + 1) (upd H w.heap.size (some (.iter m es.length (List.range es.length) none))) (w.alloc (.mapIter (some m) clock #[] clock)) := by
 obtain ⟨_, m2, e2, c2, hb2, hrep, _, hbo⟩ := h.objs m _ hm
 rw [hb] at hb2; injection hb2 with hb2; injection hb2 with q1 q2; subst q1; subst q2
 have hlen := hrep.len
 refine ⟨h.ext.alloc' _, by have := h.lo; have := h.hi; omega, by simp, fun b o v hv => ?_, fun g e' c hc => CZ (by first | exact heap_alloc_old w _ (h.capLt hc) | exact Go.heap_alloc_old w _ g (h.capLt hc)) (h.caps g e' c hc), h.capLo, fun g ob hob => ?_⟩
 ·exact (Ext.new w _).cellAt (h.seal_ b o v hv)
 ·simp only [upd] at hob
  split at hob
  ·rename_i hg
   subst hg
   injection hob with hob; subst hob
   have hmlt : m < w.heap.size := (Array.getElem?_eq_some_iff.1 hb).1
   have hsz : es'.size = es.length := by rw [← hlen]; simp
   exact ⟨by have := h.lo; have := h.hi; omega, by omega, clock, #[], es', clock, by rw [heap_alloc_new], by rw [← hb]; first | exact heap_alloc_old w _ hmlt | exact Go.heap_alloc_old w _ m hmlt, by omega, by omega, List.nodup_range, fun j hj => List.mem_range.1 hj, fun j b _ hj => ⟨fun _ => by simp, fun _ => List.mem_range.2 hj⟩, fun j hj => by cases hj⟩
  ·rename_i hg
   obtain ⟨k1, k2, k3⟩ := h.objs g ob hob
   have hlt : g < w.heap.size := by have := h.hi; omega
   exact ⟨k1, by omega, k3.keep (by first | exact heap_alloc_old w _ hlt | exact Go.heap_alloc_old w _ g hlt) (fun _ => rfl) rfl (Gh.Le.rfl_ G) (MapsKeep.lt fun m hm => by first | exact heap_alloc_old w _ hm | exact Go.heap_alloc_old w _ m hm)⟩
theorem Rel0.setIter (h : Rel0 P w0 G n H w) {g m len : Nat} {left left' : List Nat} {cur cur' : Option Nat} {since : Nat} {seen : Array Nat} {a : Option Nat} {c : Nat} (hg : H g = some (.iter m len left cur)) (hgw : w.heap[g]? = some (.mapIter a since seen c))
  (hob : ObjOk P G w' g (.iter m len left' cur')) (hoth : ∀ k, k ≠ g → w'.heap[k]? = w.heap[k]?) (hsz : w'.heap.size = w.heap.size) (ho : w'.os = w.os) (ht : w'.tape = w.tape) (hu : w'.output = w.output) :
  Rel0 P w0 G n (upd H g (some (.iter m len left' cur'))) w' := by
 obtain ⟨k1, k2, k3⟩ := h.objs g _ hg
 refine ⟨⟨ho.trans h.ext.os, ht.trans h.ext.tape, hu.trans h.ext.output, by rw [hsz]; exact h.ext.size, fun k hk => by rw [hoth k (by omega)]; exact h.ext.block k hk⟩, h.lo, by rw [hsz]; exact h.hi, fun b o v hv => ?_, fun k e' c hc => ?_, h.capLo, fun k ob hob' => ?_⟩
 ·have hne : b ≠ g := by
   intro e; subst e
   have h1 := h.seal_ b o v hv
   simp [World.cell?, hgw] at h1
  rw [World.cell?_of_block (hoth b hne)]; exact h.seal_ b o v hv
 ·have hne : k ≠ g := by
   intro e; subst e
   obtain ⟨cur, fz, c1, _⟩ := h.caps k e' c hc
   rw [hgw] at c1; cases c1
  exact CZ (hoth k hne) (h.caps k e' c hc)
 ·simp only [upd] at hob'
  split at hob'
  ·rename_i hk'; subst hk'
   injection hob' with hob'; subst hob'
   exact ⟨k1, k2, hob⟩
  ·rename_i hk'
   obtain ⟨j1, j2, j3⟩ := h.objs k ob hob'
   exact ⟨j1, j2, j3.keep (hoth k hk') (fun _ => rfl) rfl (Gh.Le.rfl_ G) (MapsKeep.ne hoth fun es c e => by rw [hgw] at e; cases e)⟩
end
open Go.RowKit
section
variable {P : Program} {w w' w0 : World} {G G' : Gh} {n : Nat} {H : A3}
theorem Rel0.drop1 (h : Rel0 P w0 G n H w) (g : Nat) : Rel0 P w0 G n (upd H g none) w :=
 ⟨h.ext, h.lo, h.hi, h.seal_, h.caps, h.capLo, fun k ob hob => by
  simp only [upd] at hob
  split at hob
  ·cases hob
  ·exact h.objs k ob hob⟩
theorem Rel0.growRow (h : Rel0 P w0 G n H w) {g m c m' : Nat} {cur : Array Value} {e : TypeId} {fz : Nat × Nat} {news : List Value} (hg : H g = some (.row e m)) (hgw : w.heap[g]? = some (.cells cur e fz)) (hfz : fz.2 ≤ m * BJ P e) (hcap : G.cap g = some (e, c)) (hsz : cur.size = c * BJ P e) (hc : c ≤ maxLen)
  (hm : m' ≤ c) (hl : news.length = m' * BJ P e - m * BJ P e) (hmm : m ≤ m') (hI : ∀ o, m * BJ P e ≤ o → G.I g o = none) :
  Rel0 P w0 (G.add g (cur.toList.take (m * BJ P e) ++ news) (some (e, c))) n (upd (upd H g none) g (some (.row e m'))) (w.setRow g (cur.toList.take (m * BJ P e) ++ news ++ cur.toList.drop (m * BJ P e + news.length)).toArray) ∧
  G.Le (G.add g (cur.toList.take (m * BJ P e) ++ news) (some (e, c))) := by
 have hms : m * BJ P e ≤ m' * BJ P e := Nat.mul_le_mul_right _ hmm
 have hmc' : m' * BJ P e ≤ c * BJ P e := Nat.mul_le_mul_right _ hm
 have htl : (cur.toList.take (m * BJ P e)).length = m * BJ P e := by rw [List.length_take]; simp; omega
 have hle : G.Le (G.add g (cur.toList.take (m * BJ P e) ++ news) (some (e, c))) := by
  refine Gh.add_le (fun o v hv => ?_) (fun c' hc' => by rw [hcap] at hc'; exact hc')
  have ho : o < m * BJ P e := by
   rcases Nat.lt_or_ge o (m * BJ P e) with h1 | h1
   ·exact h1
   ·rw [hI o h1] at hv; cases hv
  have hcell := h.seal_ g o v hv
  rw [cell_of_row w g o cur e fz hgw] at hcell
  rw [List.getElem?_append_left (by omega), List.getElem?_take_of_lt ho]
  simpa using hcell
 refine ⟨?_, hle⟩
 obtain ⟨k1, k2, k3⟩ := h.objs g _ hg
 have hoth : ∀ k, k ≠ g → ∀ cs, (w.setRow g cs).heap[k]? = w.heap[k]? := fun k hk cs => setRow_other w g k cs hk
 have hthis : ∀ cs, (w.setRow g cs).heap[g]? = some (.cells cs e fz) := fun cs => setRow_heap w g cur cs e _ hgw
 have hnsz : (cur.toList.take (m * BJ P e) ++ news ++ cur.toList.drop (m * BJ P e + news.length)).length = c * BJ P e := by
  simp only [List.length_append, List.length_drop, htl, Array.length_toList]
  omega
 refine ⟨⟨h.ext.os, h.ext.tape, h.ext.output, by simpa using h.ext.size, fun k hk => by rw [hoth k (by omega)]; exact h.ext.block k hk⟩, h.lo, by simpa using h.hi, fun b o v hv => ?_, fun b e' c' hc' => ?_, fun b e' c' hc' => ?_, fun k ob hob => ?_⟩
 ·simp only [Gh.add] at hv
  split at hv
  ·rename_i hb; subst hb
   rw [cell_of_row _ _ o _ e fz (hthis _)]
   simp only [List.getElem?_toArray]
   rw [List.getElem?_append_left (List.getElem?_eq_some_iff.1 hv).1]
   exact hv
  ·rename_i hb
   rw [World.cell?_of_block (hoth b hb _)]; exact h.seal_ b o v hv
 ·simp only [Gh.add] at hc'
  split at hc'
  ·rename_i hb; subst hb
   injection hc' with hc'; injection hc' with e1 e2; subst e1; subst e2
   exact ⟨_, fz, hthis _, by simpa using hnsz⟩
  ·rename_i hb
   exact CZ (hoth b hb _) (h.caps b e' c' hc')
 ·simp only [Gh.add] at hc'
  split at hc'
  ·rename_i hb; subst hb; exact k1
  ·exact h.capLo b e' c' hc'
 ·simp only [upd] at hob
  split at hob
  ·rename_i hk; subst hk
   injection hob with hob; subst hob
   refine ⟨k1, k2, _, c, fz, by simp [Gh.add], hthis _, by omega, hm, hc, by simpa using hnsz, fun o ho => ?_⟩
   simp only [Gh.add, if_true]
   exact List.getElem?_eq_none (by simp only [List.length_append, htl]; omega)
  ·rename_i hk
   obtain ⟨j1, j2, j3⟩ := h.objs k ob hob
   exact ⟨j1, j2, j3.keep (hoth k hk _) (fun o => by simp [Gh.add, hk]) (by simp [Gh.add, hk]) hle (MapsKeep.ne (fun m hm => hoth m hm _) fun es c e => by rw [hgw] at e; cases e)⟩
theorem VB : AG [] = [] := rfl
structure Src (P : Program) (w : World) (size : Nat) (u : TypeId) (vy : Value) (m : Nat) (news : List Value) : Prop where
 ty : P.underlying u = some .string ∨ ∃ e', P.underlying u = some (.slice e')
 len : ∀ W : World, (Builtin.lenOf vy).run P W = .ok m W
 cells : ∀ W : World, W.heap = w.heap → (Builtin.firstCells size m vy).run P W = .ok news.toArray W
 nlen : news.length = m * size
 one : ∀ x ∈ news, x.oneCell' = true
section
variable {t u ty e : TypeId} {i : TypeInfo} {zv vy : Value} {m : Nat} {news : List Value}
theorem Gs (ht : P.underlying t = some (.slice e)) (hi : P.info? e = some i) (hs : Src P w i.size u vy 0 []) (A : Option Addr) (n c : Nat) (hn : n ≤ c) : (Builtin.append_ #[t, u] ty #[.slice A n c, vy]).run P w = .ok (.slice A n c) w := by
 have h1 := hs.len w
 have h2 := hs.cells w rfl
 rcases hs.ty with hu | ⟨e', hu⟩ <;> cases A <;> simp [Builtin.append_, run_underlying ht, run_underlying hu, sizeOf, typeInfo, hi, h1, h2, hn, storeCells]
theorem TS (ht : P.underlying t = some (.slice e)) (hi : P.info? e = some i) (hz : i.zero = some zv) (hs : Src P w i.size u vy m news) (h0 : 0 < m) (h63 : (m : Int) ≤ 9223372036854775807) (h48 : m * i.bytes ≤ 281474976710656) :
  (Builtin.append_ #[t, u] ty #[.slice none 0 0, vy]).run P w = .ok (.slice (some ⟨w.heap.size, 0, none⟩) m (grownCap w m 0 e)) (w.drew.alloc (.cells (news.toArray ++ Builtin.zeroCells zv.cells (grownCap w m 0 e - m)) e)) := by
 have hn : m ≠ 0 := by omega
 have h63' : ¬ (9223372036854775807 < (m : Int)) := by omega
 have h48' : ¬ (281474976710656 < Builtin.nextslicecap m 0 * i.bytes) := by rw [nextslicecap_zero h0]; omega
 have h1 := hs.len w
 have h2 := hs.cells w.drew rfl
 rcases hs.ty with hu | ⟨e', hu⟩ <;> simp [Builtin.append_, run_underlying ht, run_underlying hu, sizeOf, typeInfo, zeroValue, hi, hz, h1, hn, h63', h48', Question.forced, run_firstCells_none, h2, Go.newRow, grownCap]
theorem MB (ht : P.underlying t = some (.slice e)) (hi : P.info? e = some i) (hz : i.zero = some zv) (b : Addr) (sLen sCap : Nat) (olds : List Value) (hlo : olds.length = sLen * i.size) (holds : ∀ j v, olds[j]? = some v → w.cell? (b.add j) = some v)
  (hs : Src P w i.size u vy m news) (hg : sCap < sLen + m) (h63 : ((sLen + m : Nat) : Int) ≤ 9223372036854775807) (hfit : Builtin.nextslicecap (sLen + m) sCap * i.bytes ≤ 281474976710656) :
  (Builtin.append_ #[t, u] ty #[.slice (some b) sLen sCap, vy]).run P w = .ok (.slice (some ⟨w.heap.size, 0, none⟩) (sLen + m) (grownCap w (sLen + m) sCap e))
    (w.drew.alloc (.cells (olds.toArray ++ news.toArray ++ Builtin.zeroCells zv.cells (grownCap w (sLen + m) sCap e - (sLen + m))) e)) := by
 have hn : ¬ (sLen + m ≤ sCap) := by omega
 have h63' : ¬ (9223372036854775807 < ((sLen : Int) + (m : Int))) := by omega
 have h48' : ¬ (281474976710656 < Builtin.nextslicecap (sLen + m) sCap * i.bytes) := by omega
 have h1 := hs.len w
 have h2 := hs.cells w.drew rfl
 have hfo := run_firstCells_some (P := P) w.drew i.size sLen b sLen sCap olds hlo (by simpa using holds)
 rcases hs.ty with hu | ⟨e', hu⟩ <;>
  (simp [Builtin.append_, run_underlying ht, run_underlying hu, sizeOf, typeInfo, zeroValue, hi, hz, h1, hn, h63', h48', Question.forced, h2, hfo, Go.newRow, grownCap]; congr 2; apply Array.ext'; simp [List.append_assoc])
theorem MD (ht : P.underlying t = some (.slice e)) (hi : P.info? e = some i) (g sLen sCap : Nat) (cur : Array Value) (fz : Nat × Nat) (hg : w.heap[g]? = some (.cells cur e fz)) (hfz : fz.2 ≤ sLen * i.size) (hs : Src P w i.size u vy m news)
  (hroom : sLen + m ≤ sCap) (hfit : sLen * i.size + news.length ≤ cur.size) :
  (Builtin.append_ #[t, u] ty #[.slice (some ⟨g, 0, none⟩) sLen sCap, vy]).run P w = .ok (.slice (some ⟨g, 0, none⟩) (sLen + m) sCap) (w.setRow g (cur.toList.take (sLen * i.size) ++ news ++ cur.toList.drop (sLen * i.size + news.length)).toArray) := by
 have h1 := hs.len w
 have h2 := hs.cells w rfl
 have hst := run_storeCells_atF P g (sLen * i.size) e fz news 0 cur w hg (by simpa using hfz) (by simpa using hfit) hs.one
 simp only [Nat.add_zero] at hst
 have hadd : (⟨g, 0, none⟩ : Addr).add (sLen * i.size) = ⟨g, sLen * i.size, none⟩ := by rw [addr_add, Nat.zero_add]
 rcases hs.ty with hu | ⟨e', hu⟩ <;> simp [Builtin.append_, run_underlying ht, run_underlying hu, sizeOf, typeInfo, hi, h1, hroom, h2, hadd, hst]
end
theorem RL {t u ty e : TypeId} {i : TypeInfo} {zv : Value} {d : Option Nat} {K : AS → Prop} {s : AS} {vx vy : Value} {x : AV} {m : List AV} {news : List Value} (ht : P.underlying t = some (.slice e)) (hi : P.info? e = some i) (hz : i.zero = some zv) (hzs : zv.cells.size = i.size) (hpos : 0 < i.size)
  (h0 : Rel0 P w0 G s.n s.H w) (hx : Rep G vx x) (hsrc : Src P w i.size u vy m.length news) (hrm : RepL G news (AG m)) (hum : ∀ y ∈ m, y.cells.length = i.size) (hom : ∀ y ∈ AG m, y.one = true) (h : K4 e i.size i.bytes d K s x m) :
  ∃ v' w' G' r n' H', (Builtin.append_ #[t, u] ty #[vx, vy]).run P w = .ok v' w' ∧ K ⟨AD s.e d r, n', H'⟩ ∧ G.Le G' ∧ Rep G' v' r ∧ Rel0 P w0 G' n' H' w' := by
 have hszP : BJ P e = i.size := by simp [BJ, hi]
 have hlen1 := hsrc.nlen
 unfold K4 at h
 split at h
 ·rename_i z l tok
  obtain ⟨hby, hmx, h⟩ := h
  split at h
  ·-- nil
   obtain ⟨h1, h2⟩ := h
   cases hx
   by_cases hm : m = []
   ·subst hm
    have hn0 : news = [] := List.length_eq_zero_iff.1 (by simpa using hlen1)
    subst hn0
    exact ⟨_, w, G, .sl i.size [] .nil, s.n, s.H, Gs ht hi hsrc none 0 0 (Nat.le_refl _), h1 rfl, Gh.Le.rfl_ G, .slnil, h0⟩
   ·have hmpos : 0 < m.length := List.length_pos_iff.2 hm
    simp only [List.length_nil, Nat.zero_add] at hby hmx
    have hrun := TS (ty := ty) ht hi hz hsrc hmpos (by simp only [maxLen] at hmx; omega) (by omega)
    have hge := grownCap_ge w m.length 0 e
    have hcm := grownCap_le_maxLen w m.length 0 e hmx
    have hcsz : (news.toArray ++ Builtin.zeroCells zv.cells (grownCap w m.length 0 e - m.length)).size = grownCap w m.length 0 e * BJ P e := by
     simp only [Array.size_append, List.size_toArray, size_zeroCells, hzs, hlen1, hszP, ← Nat.add_mul]
     congr 1; omega
    have hrel := (h0.same (w' := w.drew) rfl rfl rfl rfl).newRow (w' := w.drew.alloc (.cells (news.toArray ++ Builtin.zeroCells zv.cells (grownCap w m.length 0 e - m.length)) e)) (cur := news.toArray ++ Builtin.zeroCells zv.cells (grownCap w m.length 0 e - m.length)) (e := e) (fz := (0, 0)) (vs := news) (c := some (e, grownCap w m.length 0 e)) (ob := some (.row e m.length)) rfl rfl rfl rfl
     (fun j u hu => by rw [Array.getElem?_append_left (by simpa using (List.getElem?_eq_some_iff.1 hu).1)]; simpa using hu)
     (fun e' c' hc => by injection hc with hc; injection hc with a b; subst a; subst b; exact ⟨rfl, hcsz⟩)
     (.inr ⟨m.length, _, rfl, rfl, by simp, hge, hcm, by rw [hlen1, hszP]; exact Nat.le_refl _⟩)
    have hle := (h0.same (w' := w.drew) rfl rfl rfl rfl).addLe news (some (e, grownCap w m.length 0 e))
    rcases h2 hm with h2 | h2
    ·refine ⟨_, _, _, .sl i.size m (.own w.heap.size), w.heap.size + 1, _, hrun, h2 w.heap.size h0.hi, hle, ?_, hrel⟩
     exact .slown (e := e) (hrm.mono hle) (Gh.add_sealed _ _ _) ⟨hge, hcm, hpos, hum, hom⟩ rfl (by simp [Gh.add])
    ·have hfl : (AG m).length = news.length := hrm.len.symm
     have hrel2 := (h0.same (w' := w.drew) rfl rfl rfl rfl).newGrow (w' := w.drew.alloc (.cells (news.toArray ++ Builtin.zeroCells zv.cells (grownCap w m.length 0 e - m.length)) e)) (cur := news.toArray ++ Builtin.zeroCells zv.cells (grownCap w m.length 0 e - m.length)) (e := e) (c := grownCap w m.length 0 e) (cs := AG m) rfl rfl rfl rfl hcsz hcm
      (by rw [hfl]; simp) (by rw [hfl]; simpa using hrm) hom
     have hle2 := (h0.same (w' := w.drew) rfl rfl rfl rfl).addLe [] (some (e, grownCap w m.length 0 e))
     exact ⟨_, _, _, .slg i.size w.heap.size m.length, w.heap.size + 1, _, hrun, h2 w.heap.size h0.hi, hle2, .slg (e := e) hge hcm (by simp [Gh.add]), hrel2⟩
  ·-- own
   rename_i g0
   obtain ⟨rfl, hg, h2⟩ := h
   cases hx with
   | @slown _ vs _ _ c n0 e' hr hs ho hn hc =>
    subst hn
    obtain ⟨k1, k2, cur, c', fz, e1, e2, efz, e3, e4, e5, e6⟩ := h0.objs g0 _ hg
    rw [hc] at e1; injection e1 with e1; injection e1 with e1 e1'; subst e1; subst e1'
    have hlen : vs.length = l.length * i.size := by rw [hr.len, GC ho.uni]
    have hcur : cur.toList.take (l.length * i.size) = vs := by
     apply List.ext_getElem?
     intro j
     rw [List.getElem?_take]
     split
     ·rename_i hj
      obtain ⟨u, hu⟩ : ∃ u, vs[j]? = some u := ⟨_, List.getElem?_eq_getElem (by omega)⟩
      have h1 := h0.seal_ _ _ _ (hs j u hu)
      rw [Nat.zero_add, cell_of_row w g0 j cur _ fz e2] at h1
      rw [hu]; simpa using h1
     ·exact (List.getElem?_eq_none (by omega)).symm
    by_cases hm : m = []
    ·subst hm
     have hn0 : news = [] := List.length_eq_zero_iff.1 (by simpa using hlen1)
     subst hn0
     have hk := h2 g0 s.n (.inl rfl) (Nat.le_refl _) k2
     simp only [List.length_nil, Nat.add_zero, List.append_nil, DK] at hk
     have hsame : upd s.H g0 (some (.row e' l.length)) = s.H := by funext k; simp only [upd]; split; rename_i hk; subst hk; exact hg.symm; rfl
     rw [hsame] at hk
     exact ⟨_, w, G, _, _, _, Gs ht hi hsrc _ l.length c ho.cap, hk, Gh.Le.rfl_ G, .slown hr hs ho rfl hc, h0⟩
    ·have hmpos : 0 < m.length := List.length_pos_iff.2 hm
     have huni : ∀ x ∈ l ++ m, x.cells.length = i.size := fun x hx => by rcases List.mem_append.1 hx with hx | hx; exact ho.uni x hx; exact hum x hx
     have hflat : AG (l ++ m) = AG l ++ AG m := by simp [AG]
     have hone : ∀ x ∈ AG (l ++ m), x.one = true := fun x hx => by rw [hflat] at hx; rcases List.mem_append.1 hx with hx | hx; exact ho.one x hx; exact hom x hx
     by_cases hroom : l.length + m.length ≤ c
     ·have hfit : l.length * i.size + news.length ≤ cur.size := by rw [e5, hszP, hlen1, ← Nat.add_mul]; exact Nat.mul_le_mul_right _ hroom
      have hrun := MD (ty := ty) ht hi g0 l.length c cur fz e2 (by rw [← hszP]; exact efz) hsrc hroom hfit
      have hgr := h0.growRow (m' := l.length + m.length) (news := news) hg e2 efz hc e5 e4 hroom (by rw [hszP, Nat.add_mul, hlen1]; omega) (by omega) e6
      rw [hszP] at hgr
      have hk := h2 g0 s.n (.inl rfl) (Nat.le_refl _) k2
      refine ⟨_, _, _, _, _, _, hrun, hk, hgr.2, ?_, hgr.1⟩
      rw [hcur] at hgr ⊢
      refine .slown (e := e') (vs := vs ++ news) ?_ (Gh.add_sealed _ _ _) ⟨by simpa using hroom, e4, hpos, huni, hone⟩ (by simp) (by simp [Gh.add])
      rw [hflat]
      exact (hr.mono hgr.2).append (hrm.mono hgr.2)
     ·have hrun := MB (ty := ty) ht hi hz ⟨g0, 0, none⟩ l.length c vs hlen (fun j u hu => by rw [addr_add]; exact h0.seal_ _ _ _ (hs j u hu)) hsrc (by omega) (by simp only [maxLen] at hmx; omega) (growslice_fits (by omega) hby)
      have hge := grownCap_ge w (l.length + m.length) c e'
      have hcm := grownCap_le_maxLen w (l.length + m.length) c e' hmx
      have hsm := (h0.same (w' := w.drew) rfl rfl rfl rfl).drop1 g0
      have hll : (vs ++ news).length = (l.length + m.length) * i.size := by simp [hlen, hlen1, Nat.add_mul]
      have hcsz : (vs.toArray ++ news.toArray ++ Builtin.zeroCells zv.cells (grownCap w (l.length + m.length) c e' - (l.length + m.length))).size = grownCap w (l.length + m.length) c e' * BJ P e' := by
       simp only [Array.size_append, List.size_toArray, size_zeroCells, hzs, hlen, hlen1, hszP, ← Nat.add_mul]
       congr 1; omega
      have hrel := hsm.newRow (w' := w.drew.alloc (.cells (vs.toArray ++ news.toArray ++ Builtin.zeroCells zv.cells (grownCap w (l.length + m.length) c e' - (l.length + m.length))) e')) (cur := vs.toArray ++ news.toArray ++ Builtin.zeroCells zv.cells (grownCap w (l.length + m.length) c e' - (l.length + m.length))) (e := e') (fz := (0, 0)) (vs := vs ++ news) (c := some (e', grownCap w (l.length + m.length) c e')) (ob := some (.row e' (l.length + m.length))) rfl rfl rfl rfl
       (fun j u hu => by
        have hj := (List.getElem?_eq_some_iff.1 hu).1
        rw [Array.getElem?_append_left (by simpa using hj)]
        simpa using hu)
       (fun e2 c2 hc2 => by injection hc2 with hc2; injection hc2 with a b; subst a; subst b; exact ⟨rfl, hcsz⟩)
       (.inr ⟨l.length + m.length, _, rfl, rfl, by simp, hge, hcm, by rw [hll, hszP]; exact Nat.le_refl _⟩)
      have hle := hsm.addLe (vs ++ news) (some (e', grownCap w (l.length + m.length) c e'))
      refine ⟨_, _, _, .sl i.size (l ++ m) (.own w.heap.size), w.heap.size + 1, _, hrun, h2 w.heap.size (w.heap.size + 1) (.inr h0.hi) (by have := h0.hi; omega) (by omega), hle, ?_, hrel⟩
      refine .slown (e := e') (vs := vs ++ news) ?_ (Gh.add_sealed _ _ _) ⟨by simpa using hge, hcm, hpos, huni, hone⟩ (by simp) (by simp [Gh.add])
      rw [hflat]
      exact (hr.mono hle).append (hrm.mono hle)
  ·exact h.elim
 ·-- the elements are turned
  rename_i z g0 k
  obtain ⟨rfl, hby, hmx, h⟩ := h
  unfold M6 at h
  split at h
  ·rename_i e' cs hg
   obtain ⟨rfl, hcl, h2⟩ := h
   cases hx with
   | @slg _ _ _ c e'' hkc hcm0 hc =>
    obtain ⟨k1, k2, kI, cur, c', e1, e2, e5, e4, elen, hrc, hone0⟩ := h0.objs g0 _ hg
    rw [hc] at e1; injection e1 with e1; injection e1 with e1 e1'; subst e1; subst e1'
    by_cases hm : m = []
    ·subst hm
     have hn0 : news = [] := List.length_eq_zero_iff.1 (by simpa using hlen1)
     subst hn0
     have hk := h2 g0 s.n (.inl rfl) (Nat.le_refl _) k2
     simp only [List.length_nil, Nat.add_zero, VB, List.append_nil, DK] at hk
     have hsame : upd s.H g0 (some (.grow e'' cs)) = s.H := by funext k; simp only [upd]; split; rename_i hk; subst hk; exact hg.symm; rfl
     rw [hsame] at hk
     exact ⟨_, w, G, _, _, _, Gs ht hi hsrc _ k c hkc, hk, Gh.Le.rfl_ G, .slg hkc hcm0 hc, h0⟩
    ·have hmpos : 0 < m.length := List.length_pos_iff.2 hm
     have hflm : (AG m).length = news.length := hrm.len.symm
     have htk : (cur.toList.take cs.length).length = cs.length := by simp; omega
     have hone : ∀ x ∈ cs ++ AG m, x.one = true := fun x hx => by rcases List.mem_append.1 hx with hx | hx; exact hone0 x hx; exact hom x hx
     by_cases hroom : k + m.length ≤ c
     ·have hfit : k * i.size + news.length ≤ cur.size := by rw [e5, hszP, hlen1, ← Nat.add_mul]; exact Nat.mul_le_mul_right _ hroom
      have hrun := MD (ty := ty) ht hi g0 k c cur (0, 0) e2 (Nat.zero_le _) hsrc hroom hfit
      rw [← hcl] at hrun hfit
      have hk := h2 g0 s.n (.inl rfl) (Nat.le_refl _) k2
      rw [DK] at hk
      have L7 := h0.setGrow (vs' := (cur.toList.take cs.length ++ news ++ cur.toList.drop (cs.length + news.length)).toArray) (cs' := cs ++ AG m) hg hc e2 e4 e5 (by simp at htk ⊢; omega) (by
       have e : (cur.toList.take cs.length ++ news ++ cur.toList.drop (cs.length + news.length)).take (cs ++ AG m).length = cur.toList.take cs.length ++ news := by
        rw [List.take_append_of_le_length (by simp at htk ⊢; omega), List.take_of_length_le (by simp at htk ⊢; omega)]
       show RepL G ((cur.toList.take cs.length ++ news ++ cur.toList.drop (cs.length + news.length)).take (cs ++ AG m).length) _
       rw [e]; exact hrc.append hrm) hone (by simp at htk ⊢; omega)
      exact ⟨_, _, G, _, _, _, hrun, hk, Gh.Le.rfl_ G, .slg hroom hcm0 hc, L7⟩
     ·have hcell : ∀ j v, (cur.toList.take cs.length)[j]? = some v → w.cell? ((⟨g0, 0, none⟩ : Addr).add j) = some v := fun j v hv => by
       rw [addr_add, Nat.zero_add, cell_of_row w g0 j cur e'' (0, 0) e2]
       rw [List.getElem?_take] at hv
       split at hv
       ·simpa using hv
       ·cases hv
      have hrun := MB (ty := ty) ht hi hz ⟨g0, 0, none⟩ k c (cur.toList.take cs.length) (by rw [htk, hcl]) hcell hsrc (by omega) (by simp only [maxLen] at hmx; omega) (growslice_fits (by omega) hby)
      have hge := grownCap_ge w (k + m.length) c e''
      have hcm := grownCap_le_maxLen w (k + m.length) c e'' hmx
      have hsm := (h0.same (w' := w.drew) rfl rfl rfl rfl).drop1 g0
      have hll : (cur.toList.take cs.length ++ news).length = (k + m.length) * i.size := by rw [List.length_append, htk, hcl, hlen1, Nat.add_mul]
      have hcsz : ((cur.toList.take cs.length).toArray ++ news.toArray ++ Builtin.zeroCells zv.cells (grownCap w (k + m.length) c e'' - (k + m.length))).size = grownCap w (k + m.length) c e'' * BJ P e'' := by
       simp only [Array.size_append, List.size_toArray, size_zeroCells, hzs, htk.trans hcl, hlen1, hszP, ← Nat.add_mul]
       congr 1; omega
      have hrel := hsm.newGrow (w' := w.drew.alloc (.cells ((cur.toList.take cs.length).toArray ++ news.toArray ++ Builtin.zeroCells zv.cells (grownCap w (k + m.length) c e'' - (k + m.length))) e'')) (cur := (cur.toList.take cs.length).toArray ++ news.toArray ++ Builtin.zeroCells zv.cells (grownCap w (k + m.length) c e'' - (k + m.length))) (e := e'') (c := grownCap w (k + m.length) c e'') (cs := cs ++ AG m) rfl rfl rfl rfl hcsz hcm
       (by rw [hcsz, hszP, List.length_append, hcl, hflm, hlen1, ← Nat.add_mul]; exact Nat.mul_le_mul_right _ hge) (by
       have e : ((cur.toList.take cs.length).toArray ++ news.toArray ++ Builtin.zeroCells zv.cells (grownCap w (k + m.length) c e'' - (k + m.length))).toList.take (cs ++ AG m).length = cur.toList.take cs.length ++ news := by
        simp only [Array.toList_append]
        rw [List.take_append_of_le_length (by simp at htk ⊢; omega), List.take_of_length_le (by simp at htk ⊢; omega)]
       rw [e]; exact hrc.append hrm) hone
      have hle := hsm.addLe [] (some (e'', grownCap w (k + m.length) c e''))
      exact ⟨_, _, _, .slg i.size w.heap.size (k + m.length), w.heap.size + 1, _, hrun, h2 w.heap.size (w.heap.size + 1) (.inr h0.hi) (by have := h0.hi; omega) (by omega), hle, .slg (e := e'') hge hcm (by simp [Gh.add]), hrel⟩
  ·exact h.elim
 ·exact h.elim
theorem Wf {t e : TypeId} {i : TypeInfo} {vy : Value} {m : List AV} {tk : Tok} (ht : P.underlying t = some (.slice e)) (h0 : Rel0 P w0 G n H w) (hy : Rep G vy (.sl i.size m tk)) : ∃ news, Src P w i.size t vy m.length news ∧ RepL G news (AG m) ∧ (∀ y ∈ m, y.cells.length = i.size) ∧ (∀ y ∈ AG m, y.one = true) := by
 obtain ⟨A, c, rfl, hc, hm, hA⟩ := hy.slOut
 by_cases hl : m = []
 ·subst hl
  refine ⟨[], ⟨.inr ⟨e, ht⟩, fun W => rfl, fun W _ => ?_, by simp, by simp⟩, .nil, by simp, by simp [AG]⟩
  cases A <;> simp [Builtin.firstCells, loadCells, loadCellsFrom]
 ·obtain ⟨g, off, vs, rfl, hr, hs, ho⟩ := hA hl
  have hlen : vs.length = m.length * i.size := by rw [hr.len, GC ho.uni]
  refine ⟨vs, ⟨.inr ⟨e, ht⟩, fun W => rfl, fun W hW => ?_, hlen, hr.ones ho.one⟩, hr, ho.uni, ho.one⟩
  refine run_firstCells_some (P := P) W i.size m.length ⟨g, off, none⟩ m.length c vs hlen fun j u hu => ?_
  rw [addr_add]
  have := h0.seal_ _ _ _ (hs j u hu)
  unfold World.cell? at this ⊢
  rw [hW]; exact this
theorem Q3 (l : List UInt8) : AG (l.map fun u => AV.int .u8 u.toNat) = l.map fun u => AV.int .u8 u.toNat := by
 induction l with
 | nil => rfl
 | cons x l ih => simp only [List.map_cons, AG, List.flatMap_cons, AV.cells, List.singleton_append] at ih ⊢; rw [ih]
theorem WO (l : List UInt8) : RepL G (l.map fun u => Value.int .u8 u.toNat) (l.map fun u => AV.int .u8 u.toNat) := by
 induction l with
 | nil => exact .nil
 | cons x l ih => exact .cons .int ih
theorem V1 {u : TypeId} {s : ByteArray} (hu : P.underlying u = some .string) : ∃ news, Src P w 1 u (.string s) (Co s.data.toList).length news ∧ RepL G news (AG (Co s.data.toList)) ∧ (∀ y ∈ Co s.data.toList, y.cells.length = 1) ∧ (∀ y ∈ AG (Co s.data.toList), y.one = true) := by
 refine ⟨s.data.toList.map fun u => Value.int .u8 u.toNat, ⟨.inl hu, fun W => by simp [Builtin.lenOf, Co], fun W _ => ?_, by simp [Co], ?_⟩, by rw [Co, Q3]; exact WO _, ?_, ?_⟩
 ·have := Lib.run_firstCells_string (P := P) W 1 s
  simpa [Co, Lib.strCells] using this
 ·intro x hx; obtain ⟨v, _, rfl⟩ := List.mem_map.1 hx; rfl
 ·intro x hx; obtain ⟨v, _, rfl⟩ := List.mem_map.1 hx; rfl
 ·intro x hx; rw [Co, Q3] at hx; obtain ⟨v, _, rfl⟩ := List.mem_map.1 hx; rfl
end
end Go.Proofs.YtnfjgphfaemjcaaGreatDoor
