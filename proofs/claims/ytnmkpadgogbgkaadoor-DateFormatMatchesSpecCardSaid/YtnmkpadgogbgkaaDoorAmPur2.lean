/- The program's operations that only compute agree with those on plain data: one by one; no condition. -/
import Derived.Test.YtnmkpadgogbgkaaDoorAmPure
set_option linter.all false
set_option linter.unusedSimpArgs false
set_option linter.unusedVariables false
namespace Go.Proofs.YtnmkpadgogbgkaaDoor
open Go.RowKit

structure RelS (P : Program) (w0 : World) (nt : Nat) (G : Gh) (s : AS) (a : Act) (w : World) : Prop where
  r0 : Rel0 P w0 G s.n s.H w
  sz : a.tmps.size = nt
  df : a.defers = []
  ld : Laid w0
  tm : ∀ t, Rep G (a.tmps.getD t undef) (get s.e t)

/-- the operation hands back what stands for v, and turns nothing -/
def RunsTo (P : Program) (w : World) (G : Gh) (m : Sem Value) (v : AV) : Prop := ∃ v', m.run P w = .ok v' w ∧ Rep G v' v

section
variable {P : Program} {w : World} {G : Gh}

theorem run_bin_int {op : BinOp} {t : TypeId} {k : IntKind} {a b : Int} {v : AV} (h : intBin op k a b = some v) : RunsTo P w G (binOp op t (.int k a) (.int k b)) v := by
  unfold intBin at h
  cases op <;> simp only [reduceCtorEq] at h <;> first
    | (injection h with h; subst h; exact ⟨_, by simp [binOp, Op.intArith, Op.intCmp]; rfl, by constructor⟩)
    | (split at h
       · cases h
       · rename_i hb
         injection h with h; subst h
         exact ⟨_, by simp [binOp, Op.intDiv, hb]; rfl, by constructor⟩)
theorem run_bin_str {op : BinOp} {t : TypeId} {a b : ByteArray} {v : AV} (h : strBin op a.data.toList b.data.toList = some v) : RunsTo P w G (binOp op t (.string a) (.string b)) v := by
  unfold strBin at h
  simp only [← ByteArray.toList_eq] at h
  cases op <;> simp only [reduceCtorEq] at h <;> first
    | (injection h with h; subst h; exact ⟨_, by simp only [binOp, Op.stringOp]; rfl, by constructor⟩)
    | (split at h
       · cases h
       · rename_i hb
         injection h with h; subst h
         simp only [ByteArray.toList_eq, Array.length_toList] at hb ⊢
         exact ⟨_, by simp only [binOp, Op.stringOp]; rw [if_neg (show ¬ ((a.size + b.size : Nat) : Int) > IntKind.i64.max from hb)]; rfl, .str (by simp)⟩)
theorem run_eqGuard_plain {op : BinOp} {t : TypeId} {x y : Operand} {a b : Value} (ha : (∀ cs, a ≠ .agg cs) ∧ a ≠ .nilIface) : (eqGuard op t x y a b).run P w = .ok () w := by
  unfold eqGuard
  cases op <;> simp only [Bool.not_true, Bool.not_false, if_true, if_false, Bool.false_eq_true, Sem.run_pure] <;> first
    | rfl
    | (split <;> first | exact absurd rfl ha.2 | exact absurd rfl (ha.1 _) | rfl)

theorem runs_guard {op : BinOp} {t : TypeId} {x y : Operand} {a b : Value} {v : AV} (h : RunsTo P w G (binOp op t a b) v) (ha : (∀ cs, a ≠ .agg cs) ∧ a ≠ .nilIface) : RunsTo P w G (do eqGuard op t x y a b; binOp op t a b) v := by
  obtain ⟨u, hu, hr⟩ := h
  exact ⟨u, by simp only [Sem.run_bind, run_eqGuard_plain ha, Result.andThen_ok]; exact hu, hr⟩
theorem run_bin_rep {op : BinOp} {t : TypeId} {x y : Operand} {a b : Value} {x' y' v : AV} (ha : Rep G a x') (hb : Rep G b y') (h : binAV op x' y' = some v) : RunsTo P w G (do eqGuard op t x y a b; binOp op t a b) v := by
  unfold binAV at h
  split at h
  · split at h
    · rename_i hkk; subst hkk
      cases ha; cases hb
      exact runs_guard (run_bin_int h) ⟨by simp, by simp⟩
    · cases h
  · cases ha with | str ha => cases hb with | str hb =>
    subst ha; subst hb
    exact runs_guard (run_bin_str h) ⟨by simp, by simp⟩
  · cases h
theorem run_eqb_rep {ng : Bool} {t : TypeId} {x y : Operand} {a b : Bool} (ht : P.underlying t = some .bool) :
    RunsTo P w G (do eqGuard (if ng then .neq else .eql) t x y (.bool a) (.bool b); binOp (if ng then .neq else .eql) t (.bool a) (.bool b)) (.bool (if ng then !(a == b) else a == b)) := by
  refine runs_guard ?_ ⟨by simp, by simp⟩
  cases ng
  · exact ⟨_, run_eql_bool w t a b ht, .bool⟩
  · exact ⟨_, run_neq_bool w t a b ht, .bool⟩
theorem run_equal_slice {t e : TypeId} {A : Option Addr} {n c : Nat} (ht : P.underlying t = some (.slice e)) : (Op.equal t (.slice A n c) (.slice none 0 0)).run P w = .ok A.isNone w := by
  unfold Op.equal Op.maxDepth
  rw [show (10000 : Nat) = 9999 + 1 from rfl, Op.equalIn]
  cases A <;> simp [run_underlying ht]
theorem run_equal_ptr {t e : TypeId} {A : Option Addr} (ht : P.underlying t = some (.pointer e)) : (Op.equal t (.pointer A) (.pointer none)).run P w = .ok A.isNone w := by
  unfold Op.equal Op.maxDepth
  rw [show (10000 : Nat) = 9999 + 1 from rfl, Op.equalIn]
  cases A <;> simp [run_underlying ht]
theorem run_eqn_rep {ng : Bool} {t e : TypeId} {x y : Operand} {a : Value} {x' : AV} {r : Bool} (ht : P.underlying t = some (.slice e)) (ha : Rep G a x') (h : isNil x' = some r) :
    RunsTo P w G (do eqGuard (if ng then .neq else .eql) t x y a (.slice none 0 0); binOp (if ng then .neq else .eql) t a (.slice none 0 0)) (.bool (if ng then !r else r)) := by
  obtain ⟨A, n, c, rfl⟩ : ∃ A n c, a = .slice A n c := by
    unfold isNil at h
    split at h <;> first | (cases ha <;> exact ⟨_, _, _, rfl⟩) | cases h
  have key : (Op.equal t (.slice A n c) (.slice none 0 0)).run P w = .ok r w := by
    rw [run_equal_slice ht]
    unfold isNil at h
    split at h <;> first | (injection h with h; subst h; cases ha <;> first | rfl | simp_all) | (exact absurd h (by simp))
  refine runs_guard ?_ ⟨by simp, by simp⟩
  cases ng
  · exact ⟨.bool r, by simp [binOp, key], .bool⟩
  · exact ⟨.bool (!r), by simp [binOp, key], .bool⟩
theorem run_eqp_rep {ng : Bool} {t e : TypeId} {x y : Operand} {a : Value} {x' : AV} {r : Bool} (ht : P.underlying t = some (.pointer e)) (ha : Rep G a x') (h : isNilP x' = some r) :
    RunsTo P w G (do eqGuard (if ng then .neq else .eql) t x y a (.pointer none); binOp (if ng then .neq else .eql) t a (.pointer none)) (.bool (if ng then !r else r)) := by
  obtain ⟨A, rfl⟩ : ∃ A, a = .pointer A := by
    unfold isNilP at h
    split at h <;> first | (cases ha <;> exact ⟨_, rfl⟩) | cases h
  have key : (Op.equal t (.pointer A) (.pointer none)).run P w = .ok r w := by
    rw [run_equal_ptr ht]
    unfold isNilP at h
    split at h <;> first | (injection h with h; subst h; cases ha <;> first | rfl | simp_all) | (exact absurd h (by simp))
  refine runs_guard ?_ ⟨by simp, by simp⟩
  cases ng
  · exact ⟨.bool r, by simp [binOp, key], .bool⟩
  · exact ⟨.bool (!r), by simp [binOp, key], .bool⟩
theorem run_eqpp_rep {ng : Bool} {t e : TypeId} {x y : Operand} {g o o' : Nat} (ht : P.underlying t = some (.pointer e)) (hi : (P.info? e).isSome) (hz : szP P e ≠ 0) :
    RunsTo P w G (do eqGuard (if ng then .neq else .eql) t x y (.pointer (some ⟨g, o, none⟩)) (.pointer (some ⟨g, o', none⟩)); binOp (if ng then .neq else .eql) t (.pointer (some ⟨g, o, none⟩)) (.pointer (some ⟨g, o', none⟩))) (.bool (if ng then !(decide (o = o')) else decide (o = o'))) := by
  obtain ⟨i, hi⟩ := Option.isSome_iff_exists.1 hi
  have key : (Op.equal t (.pointer (some ⟨g, o, none⟩)) (.pointer (some ⟨g, o', none⟩))).run P w = .ok (decide (o = o')) w := by
    unfold Op.equal Op.maxDepth
    rw [show (10000 : Nat) = 9999 + 1 from rfl, Op.equalIn]
    simp only [Sem.run_bind, run_underlying ht, Result.andThen_ok, run_szP hi, hz, ne_eq, not_false_eq_true, if_true, sameAddr, beq_self_eq_true]
    simp only [Sem.run_pure]
    congr 1
    rw [Bool.eq_iff_iff]; simp
  refine runs_guard ?_ ⟨by simp, by simp⟩
  cases ng
  · exact ⟨.bool (decide (o = o')), by simp [binOp, key], .bool⟩
  · exact ⟨.bool (!decide (o = o')), by simp [binOp, key], .bool⟩
theorem run_eqFields {d : Nat} {xs ys : Array Value} : ∀ (fs : List Field) (ks : List FK) (i : Nat) (as bs : List AV) (r : Bool), plainFields P i fs = some ks → xz3p ks as bs = some r →
    RepL G (xs.toList.drop i) as → RepL G (ys.toList.drop i) bs → (Op.eqFields (d + 1) xs ys fs).run P w = .ok r w
  | [], ks, _, as, bs, r, hp, h, _, _ => by
    simp [plainFields] at hp; subst hp
    cases as <;> cases bs <;> simp [xz3p] at h
    subst h
    simp [Op.eqFields]
  | f :: fs, ks, i, as, bs, r, hp, h, ha, hb => by
    simp only [plainFields] at hp
    split at hp
    · rename_i hon
      obtain ⟨hoff, hnm⟩ := hon
      have main : ∀ (u v : Value) (q r' : Bool) (as' bs' : List AV) (ks' : List FK) (a b : AV), as = a :: as' → bs = b :: bs' → xs[i]? = some u → ys[i]? = some v → (∀ w : World, (isAgg f.type).run P w = .ok false w) →
          plainFields P (i + 1) fs = some ks' → xz3p ks' as' bs' = some r' → (Op.equalIn (d + 1) f.type u v).run P w = .ok q w → r = (q && r') → (Op.eqFields (d + 1) xs ys (f :: fs)).run P w = .ok r w := by
        intro u v q r' as' bs' ks' a b e1 e2 hu hv hagg hps hr' hq hrr
        subst e1; subst e2
        have hta : RepL G (xs.toList.drop (i + 1)) as' := by have := ha.drop 1; simpa [List.drop_drop, Nat.add_comm] using this
        have htb : RepL G (ys.toList.drop (i + 1)) bs' := by have := hb.drop 1; simpa [List.drop_drop, Nat.add_comm] using this
        have ih := run_eqFields (d := d) fs ks' (i + 1) as' bs' r' hps hr' hta htb
        have hx : (Go.part f.type xs f.offset).run P w = .ok u w := by simp [Go.part, hagg, hoff, hu]
        have hy : (Go.part f.type ys f.offset).run P w = .ok v w := by simp [Go.part, hagg, hoff, hv]
        simp only [Op.eqFields, hnm, ne_eq, not_false_eq_true, if_true, Sem.run_bind, hx, hy, Result.andThen_ok, hq]
        cases q
        · simp [hrr]
        · simp [hrr, ih]
      have cellsAt : ∀ {a b as' bs'}, as = a :: as' → bs = b :: bs' → ∃ u v, xs[i]? = some u ∧ ys[i]? = some v ∧ Rep G u a ∧ Rep G v b := by
        intro a b as' bs' e1 e2
        subst e1; subst e2
        obtain ⟨u, hu, hru⟩ := ha.at (i := 0) (x := a) rfl
        obtain ⟨v, hv, hrv⟩ := hb.at (i := 0) (x := b) rfl
        exact ⟨u, v, by simpa using hu, by simpa using hv, hru, hrv⟩
      split at hp
      · rename_i k ks' hu hps
        injection hp with hp; subst hp
        rcases as with _ | ⟨a, as'⟩
        · simp [xz3p] at h
        · rcases bs with _ | ⟨b, bs'⟩
          · cases a <;> simp [xz3p] at h
          · cases a with
            | int k1 a1 => cases b with
              | int k2 b1 =>
                simp only [xz3p] at h
                split at h
                · rename_i hk; subst hk
                  obtain ⟨r', hr', hrr⟩ := Option.map_eq_some_iff.1 h
                  obtain ⟨u, v, h1, h2, h3, h4⟩ := cellsAt rfl rfl
                  cases h3; cases h4
                  exact main _ _ _ r' _ _ _ _ _ rfl rfl h1 h2 (fun w => by simp [isAgg, run_underlying hu]) hps hr' (run_equalIn_int w d _ _ _ _ _ hu) hrr.symm
                · cases h
              | _ => simp [xz3p] at h
            | _ => simp [xz3p] at h
      · rename_i ks' hu hps
        injection hp with hp; subst hp
        rcases as with _ | ⟨a, as'⟩
        · simp [xz3p] at h
        · rcases bs with _ | ⟨b, bs'⟩
          · cases a <;> simp [xz3p] at h
          · cases a with
            | bool a1 => cases b with
              | bool b1 =>
                simp only [xz3p] at h
                obtain ⟨r', hr', hrr⟩ := Option.map_eq_some_iff.1 h
                obtain ⟨u, v, h1, h2, h3, h4⟩ := cellsAt rfl rfl
                cases h3; cases h4
                exact main _ _ _ r' _ _ _ _ _ rfl rfl h1 h2 (fun w => by simp [isAgg, run_underlying hu]) hps hr' (run_equalIn_bool w d _ _ _ hu) hrr.symm
              | _ => simp [xz3p] at h
            | _ => simp [xz3p] at h
      · rename_i ks' hu hps
        injection hp with hp; subst hp
        rcases as with _ | ⟨a, as'⟩
        · simp [xz3p] at h
        · rcases bs with _ | ⟨b, bs'⟩
          · cases a <;> simp [xz3p] at h
          · cases a with
            | str a1 => cases b with
              | str b1 =>
                simp only [xz3p] at h
                obtain ⟨r', hr', hrr⟩ := Option.map_eq_some_iff.1 h
                obtain ⟨u, v, h1, h2, h3, h4⟩ := cellsAt rfl rfl
                cases h3 with | str h3 => cases h4 with | str h4 =>
                subst h3; subst h4
                simp only [← ByteArray.toList_eq] at hrr
                exact main _ _ _ r' _ _ _ _ _ rfl rfl h1 h2 (fun w => by simp [isAgg, run_underlying hu]) hps hr' (run_equalIn_string w d _ _ _ hu) hrr.symm
              | _ => simp [xz3p] at h
            | _ => simp [xz3p] at h
      · cases hp
    · cases hp
theorem run_eqs_rep {ng : Bool} {t : TypeId} {x y : Operand} {a b : Value} {as bs : List AV} {fs : Array Field} {ks : List FK} {r : Bool} (ht : P.underlying t = some (.struct fs)) (hp : plainStruct P t fs = some ks) (ha : Rep G a (.agg as)) (hb : Rep G b (.agg bs)) (h : xz3p ks as bs = some r) :
    RunsTo P w G (do eqGuard (if ng then .neq else .eql) t x y a b; binOp (if ng then .neq else .eql) t a b) (.bool (if ng then !r else r)) := by
  unfold plainStruct at hp
  split at hp
  · rename_i hg
    obtain ⟨h1, h2⟩ := hg
    cases ha with
    | agg ha _ =>
      rename_i va _
      cases hb with
      | agg hb _ =>
        rename_i vb _
        have hf : P.fieldsOf t = fs := by simp [Program.fieldsOf, ht]
        have key : (Op.equalIn 10000 t (.agg va.toArray) (.agg vb.toArray)).run P w = .ok r w := by
          rw [show (10000 : Nat) = 9999 + 1 from rfl, run_equalIn_struct w 9999 t _ _ (by rw [hf]; exact ht) h1, hf]
          exact run_eqFields (d := 9998) fs.toList ks 0 as bs r hp h (by simpa using ha) (by simpa using hb)
        cases ng
        · exact ⟨.bool r, by simp only [Bool.false_eq_true, if_false, Sem.run_bind, run_eqGuard_agg w _ _ _ _ _ _ h2, Result.andThen_ok, run_eql_struct, key], .bool⟩
        · exact ⟨.bool (!r), by simp only [if_true, Sem.run_bind, run_eqGuard_agg w _ _ _ _ _ _ h2, Result.andThen_ok, run_neq_struct, key], .bool⟩
  · cases hp
end
end Go.Proofs.YtnmkpadgogbgkaaDoor
