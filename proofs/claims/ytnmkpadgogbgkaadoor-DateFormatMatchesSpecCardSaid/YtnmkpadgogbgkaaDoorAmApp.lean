/- Appending agrees with appending on plain data; no condition. -/
import Derived.Test.YtnmkpadgogbgkaaDoorAmEff
import Derived.Lib.FrozenHead
set_option linter.all false
set_option linter.unusedSimpArgs false
set_option linter.unusedVariables false
namespace Go.Proofs.YtnmkpadgogbgkaaDoor
open Go.RowKit

section
variable {P : Program} {w w' w0 : World} {G G' : Gh} {n : Nat} {H : AHeap}

theorem Rel0.drop1 (h : Rel0 P w0 G n H w) (g : Nat) : Rel0 P w0 G n (upd H g none) w :=
  ⟨h.ext, h.lo, h.hi, h.seal_, h.caps, h.capLo, fun k ob hob => by
    simp only [upd] at hob
    split at hob
    · cases hob
    · exact h.objs k ob hob⟩
/-- a row grows in its place -/
theorem Rel0.growRow (h : Rel0 P w0 G n H w) {g m c m' : Nat} {cur : Array Value} {e : TypeId} {fz : Nat × Nat} {news : List Value} (hg : H g = some (.row e m)) (hgw : w.heap[g]? = some (.cells cur e fz)) (hfz : fz.2 ≤ m * szP P e) (hcap : G.cap g = some (e, c)) (hsz : cur.size = c * szP P e) (hc : c ≤ maxLen)
    (hm : m' ≤ c) (hl : news.length = m' * szP P e - m * szP P e) (hmm : m ≤ m') (hI : ∀ o, m * szP P e ≤ o → G.I g o = none) :
    Rel0 P w0 (G.add g (cur.toList.take (m * szP P e) ++ news) (some (e, c))) n (upd (upd H g none) g (some (.row e m'))) (w.setRow g (cur.toList.take (m * szP P e) ++ news ++ cur.toList.drop (m * szP P e + news.length)).toArray) ∧
    G.Le (G.add g (cur.toList.take (m * szP P e) ++ news) (some (e, c))) := by
  have hms : m * szP P e ≤ m' * szP P e := Nat.mul_le_mul_right _ hmm
  have hmc' : m' * szP P e ≤ c * szP P e := Nat.mul_le_mul_right _ hm
  have htl : (cur.toList.take (m * szP P e)).length = m * szP P e := by rw [List.length_take]; simp; omega
  have hle : G.Le (G.add g (cur.toList.take (m * szP P e) ++ news) (some (e, c))) := by
    refine Gh.add_le (fun o v hv => ?_) (fun c' hc' => by rw [hcap] at hc'; exact hc')
    have ho : o < m * szP P e := by
      rcases Nat.lt_or_ge o (m * szP P e) with h1 | h1
      · exact h1
      · rw [hI o h1] at hv; cases hv
    have hcell := h.seal_ g o v hv
    rw [cell_of_row w g o cur e fz hgw] at hcell
    rw [List.getElem?_append_left (by omega), List.getElem?_take_of_lt ho]
    simpa using hcell
  refine ⟨?_, hle⟩
  obtain ⟨k1, k2, k3⟩ := h.objs g _ hg
  have hoth : ∀ k, k ≠ g → ∀ cs, (w.setRow g cs).heap[k]? = w.heap[k]? := fun k hk cs => setRow_other w g k cs hk
  have hthis : ∀ cs, (w.setRow g cs).heap[g]? = some (.cells cs e fz) := fun cs => setRow_heap w g cur cs e _ hgw
  have hnsz : (cur.toList.take (m * szP P e) ++ news ++ cur.toList.drop (m * szP P e + news.length)).length = c * szP P e := by
    simp only [List.length_append, List.length_drop, htl, Array.length_toList]
    omega
  refine ⟨⟨h.ext.os, h.ext.tape, h.ext.output, by simpa using h.ext.size, fun k hk => by rw [hoth k (by omega)]; exact h.ext.block k hk⟩, h.lo, by simpa using h.hi, fun b o v hv => ?_, fun b e' c' hc' => ?_, fun b e' c' hc' => ?_, fun k ob hob => ?_⟩
  · simp only [Gh.add] at hv
    split at hv
    · rename_i hb; subst hb
      rw [cell_of_row _ _ o _ e fz (hthis _)]
      simp only [List.getElem?_toArray]
      rw [List.getElem?_append_left (List.getElem?_eq_some_iff.1 hv).1]
      exact hv
    · rename_i hb
      rw [World.cell?_of_block (hoth b hb _)]; exact h.seal_ b o v hv
  · simp only [Gh.add] at hc'
    split at hc'
    · rename_i hb; subst hb
      injection hc' with hc'; injection hc' with e1 e2; subst e1; subst e2
      exact ⟨_, fz, hthis _, by simpa using hnsz⟩
    · rename_i hb
      exact caps_keep (hoth b hb _) (h.caps b e' c' hc')
  · simp only [Gh.add] at hc'
    split at hc'
    · rename_i hb; subst hb; exact k1
    · exact h.capLo b e' c' hc'
  · simp only [upd] at hob
    split at hob
    · rename_i hk; subst hk
      injection hob with hob; subst hob
      refine ⟨k1, k2, _, c, fz, by simp [Gh.add], hthis _, by omega, hm, hc, by simpa using hnsz, fun o ho => ?_⟩
      simp only [Gh.add, if_true]
      exact List.getElem?_eq_none (by simp only [List.length_append, htl]; omega)
    · rename_i hk
      obtain ⟨j1, j2, j3⟩ := h.objs k ob hob
      exact ⟨j1, j2, j3.keep (hoth k hk _) (fun o => by simp [Gh.add, hk]) (by simp [Gh.add, hk]) hle⟩

/-- from where is appended -/
structure Src (P : Program) (w : World) (size : Nat) (u : TypeId) (vy : Value) (m : Nat) (news : List Value) : Prop where
  ty : P.underlying u = some .string ∨ ∃ e', P.underlying u = some (.slice e')
  len : ∀ W : World, (Builtin.lenOf vy).run P W = .ok m W
  cells : ∀ W : World, W.heap = w.heap → (Builtin.firstCells size m vy).run P W = .ok news.toArray W
  nlen : news.length = m * size
  one : ∀ x ∈ news, x.oneCell' = true

section
variable {t u ty e : TypeId} {i : TypeInfo} {zv vy : Value} {m : Nat} {news : List Value}
theorem run_app_empty (ht : P.underlying t = some (.slice e)) (hi : P.info? e = some i) (hs : Src P w i.size u vy 0 []) (A : Option Addr) (n c : Nat) (hn : n ≤ c) : (Builtin.append_ #[t, u] ty #[.slice A n c, vy]).run P w = .ok (.slice A n c) w := by
  have h1 := hs.len w
  have h2 := hs.cells w rfl
  rcases hs.ty with hu | ⟨e', hu⟩ <;> cases A <;> simp [Builtin.append_, run_underlying ht, run_underlying hu, sizeOf, typeInfo, hi, h1, h2, hn, storeCells]
theorem run_app_nil (ht : P.underlying t = some (.slice e)) (hi : P.info? e = some i) (hz : i.zero = some zv) (hs : Src P w i.size u vy m news) (h0 : 0 < m) (h63 : (m : Int) ≤ 9223372036854775807) (h48 : m * i.bytes ≤ 281474976710656) :
    (Builtin.append_ #[t, u] ty #[.slice none 0 0, vy]).run P w = .ok (.slice (some ⟨w.heap.size, 0, none⟩) m (grownCap w m 0 e)) (w.drew.alloc (.cells (news.toArray ++ Builtin.zeroCells zv.cells (grownCap w m 0 e - m)) e)) := by
  have hn : m ≠ 0 := by omega
  have h63' : ¬ (9223372036854775807 < (m : Int)) := by omega
  have h48' : ¬ (281474976710656 < Builtin.nextslicecap m 0 * i.bytes) := by rw [nextslicecap_zero h0]; omega
  have h1 := hs.len w
  have h2 := hs.cells w.drew rfl
  rcases hs.ty with hu | ⟨e', hu⟩ <;> simp [Builtin.append_, run_underlying ht, run_underlying hu, sizeOf, typeInfo, zeroValue, hi, hz, h1, hn, h63', h48', Question.forced, run_firstCells_none, h2, Go.newRow, grownCap]
theorem run_app_grow (ht : P.underlying t = some (.slice e)) (hi : P.info? e = some i) (hz : i.zero = some zv) (b : Addr) (sLen sCap : Nat) (olds : List Value) (hlo : olds.length = sLen * i.size) (holds : ∀ j v, olds[j]? = some v → w.cell? (b.add j) = some v)
    (hs : Src P w i.size u vy m news) (hg : sCap < sLen + m) (h63 : ((sLen + m : Nat) : Int) ≤ 9223372036854775807) (hfit : Builtin.nextslicecap (sLen + m) sCap * i.bytes ≤ 281474976710656) :
    (Builtin.append_ #[t, u] ty #[.slice (some b) sLen sCap, vy]).run P w = .ok (.slice (some ⟨w.heap.size, 0, none⟩) (sLen + m) (grownCap w (sLen + m) sCap e))
        (w.drew.alloc (.cells (olds.toArray ++ news.toArray ++ Builtin.zeroCells zv.cells (grownCap w (sLen + m) sCap e - (sLen + m))) e)) := by
  have hn : ¬ (sLen + m ≤ sCap) := by omega
  have h63' : ¬ (9223372036854775807 < ((sLen : Int) + (m : Int))) := by omega
  have h48' : ¬ (281474976710656 < Builtin.nextslicecap (sLen + m) sCap * i.bytes) := by omega
  have h1 := hs.len w
  have h2 := hs.cells w.drew rfl
  have hfo := run_firstCells_some (P := P) w.drew i.size sLen b sLen sCap olds hlo (by simpa using holds)
  rcases hs.ty with hu | ⟨e', hu⟩ <;>
    (simp [Builtin.append_, run_underlying ht, run_underlying hu, sizeOf, typeInfo, zeroValue, hi, hz, h1, hn, h63', h48', Question.forced, h2, hfo, Go.newRow, grownCap]
     congr 2
     apply Array.ext'
     simp [List.append_assoc])
theorem run_app_room (ht : P.underlying t = some (.slice e)) (hi : P.info? e = some i) (g sLen sCap : Nat) (cur : Array Value) (fz : Nat × Nat) (hg : w.heap[g]? = some (.cells cur e fz)) (hfz : fz.2 ≤ sLen * i.size) (hs : Src P w i.size u vy m news)
    (hroom : sLen + m ≤ sCap) (hfit : sLen * i.size + news.length ≤ cur.size) :
    (Builtin.append_ #[t, u] ty #[.slice (some ⟨g, 0, none⟩) sLen sCap, vy]).run P w = .ok (.slice (some ⟨g, 0, none⟩) (sLen + m) sCap) (w.setRow g (cur.toList.take (sLen * i.size) ++ news ++ cur.toList.drop (sLen * i.size + news.length)).toArray) := by
  have h1 := hs.len w
  have h2 := hs.cells w rfl
  have hst := run_storeCells_atF P g (sLen * i.size) e fz news 0 cur w hg (by simpa using hfz) (by simpa using hfit) hs.one
  simp only [Nat.add_zero] at hst
  have hadd : (⟨g, 0, none⟩ : Addr).add (sLen * i.size) = ⟨g, sLen * i.size, none⟩ := by rw [addr_add, Nat.zero_add]
  rcases hs.ty with hu | ⟨e', hu⟩ <;> simp [Builtin.append_, run_underlying ht, run_underlying hu, sizeOf, typeInfo, hi, h1, hroom, h2, hadd, hst]
end

set_option maxHeartbeats 1000000 in
/-- appending m, which lies somewhere as news -/
theorem app_sound {t u ty e : TypeId} {i : TypeInfo} {zv : Value} {d : Option Nat} {K : AS → Prop} {s : AS} {vx vy : Value} {x : AV} {m : List AV} {news : List Value} (ht : P.underlying t = some (.slice e)) (hi : P.info? e = some i) (hz : i.zero = some zv) (hzs : zv.cells.size = i.size) (hpos : 0 < i.size)
    (h0 : Rel0 P w0 G s.n s.H w) (hx : Rep G vx x) (hsrc : Src P w i.size u vy m.length news) (hrm : RepL G news (flatA m)) (hum : ∀ y ∈ m, y.cells.length = i.size) (hom : ∀ y ∈ flatA m, y.one = true) (h : appK e i.size i.bytes d K s x m) :
    ∃ v' w' G' r n' H', (Builtin.append_ #[t, u] ty #[vx, vy]).run P w = .ok v' w' ∧ K ⟨putO s.e d r, n', H'⟩ ∧ G.Le G' ∧ Rep G' v' r ∧ Rel0 P w0 G' n' H' w' := by
  have hszP : szP P e = i.size := by simp [szP, hi]
  have hlen1 := hsrc.nlen
  unfold appK at h
  split at h
  · rename_i z l tok
    obtain ⟨hby, hmx, h⟩ := h
    split at h
    · -- nil
      obtain ⟨h1, h2⟩ := h
      cases hx
      by_cases hm : m = []
      · subst hm
        have hn0 : news = [] := List.length_eq_zero_iff.1 (by simpa using hlen1)
        subst hn0
        exact ⟨_, w, G, .sl i.size [] .nil, s.n, s.H, run_app_empty ht hi hsrc none 0 0 (Nat.le_refl _), h1 rfl, Gh.Le.rfl_ G, .slnil, h0⟩
      · have hmpos : 0 < m.length := List.length_pos_iff.2 hm
        simp only [List.length_nil, Nat.zero_add] at hby hmx
        have hrun := run_app_nil (ty := ty) ht hi hz hsrc hmpos (by simp only [maxLen] at hmx; omega) (by omega)
        have hge := grownCap_ge w m.length 0 e
        have hcm := grownCap_le_maxLen w m.length 0 e hmx
        have hcsz : (news.toArray ++ Builtin.zeroCells zv.cells (grownCap w m.length 0 e - m.length)).size = grownCap w m.length 0 e * szP P e := by
          simp only [Array.size_append, List.size_toArray, size_zeroCells, hzs, hlen1, hszP, ← Nat.add_mul]
          congr 1; omega
        have hrel := (h0.same (w' := w.drew) rfl rfl rfl rfl).newRow (w' := w.drew.alloc (.cells (news.toArray ++ Builtin.zeroCells zv.cells (grownCap w m.length 0 e - m.length)) e)) (cur := news.toArray ++ Builtin.zeroCells zv.cells (grownCap w m.length 0 e - m.length)) (e := e) (fz := (0, 0)) (vs := news) (c := some (e, grownCap w m.length 0 e)) (ob := some (.row e m.length)) rfl rfl rfl rfl
          (fun j u hu => by rw [Array.getElem?_append_left (by simpa using (List.getElem?_eq_some_iff.1 hu).1)]; simpa using hu)
          (fun e' c' hc => by injection hc with hc; injection hc with a b; subst a; subst b; exact ⟨rfl, hcsz⟩)
          (.inr ⟨m.length, _, rfl, rfl, by simp, hge, hcm, by rw [hlen1, hszP]; exact Nat.le_refl _⟩)
        have hle := (h0.same (w' := w.drew) rfl rfl rfl rfl).addLe news (some (e, grownCap w m.length 0 e))
        refine ⟨_, _, _, .sl i.size m (.own w.heap.size), w.heap.size + 1, _, hrun, h2 hm w.heap.size h0.hi, hle, ?_, hrel⟩
        exact .slown (e := e) (hrm.mono hle) (Gh.add_sealed _ _ _) ⟨hge, hcm, hpos, hum, hom⟩ rfl (by simp [Gh.add])
    · -- own
      rename_i g0
      obtain ⟨rfl, hg, h2⟩ := h
      cases hx with
      | @slown _ vs _ _ c n0 e' hr hs ho hn hc =>
        subst hn
        obtain ⟨k1, k2, cur, c', fz, e1, e2, efz, e3, e4, e5, e6⟩ := h0.objs g0 _ hg
        rw [hc] at e1; injection e1 with e1; injection e1 with e1 e1'; subst e1; subst e1'
        have hlen : vs.length = l.length * i.size := by rw [hr.len, flatA_len ho.uni]
        have hcur : cur.toList.take (l.length * i.size) = vs := by
          apply List.ext_getElem?
          intro j
          rw [List.getElem?_take]
          split
          · rename_i hj
            obtain ⟨u, hu⟩ : ∃ u, vs[j]? = some u := ⟨_, List.getElem?_eq_getElem (by omega)⟩
            have h1 := h0.seal_ _ _ _ (hs j u hu)
            rw [Nat.zero_add, cell_of_row w g0 j cur _ fz e2] at h1
            rw [hu]; simpa using h1
          · exact (List.getElem?_eq_none (by omega)).symm
        by_cases hm : m = []
        · subst hm
          have hn0 : news = [] := List.length_eq_zero_iff.1 (by simpa using hlen1)
          subst hn0
          have hk := h2 g0 s.n (.inl rfl) (Nat.le_refl _) k2
          simp only [List.length_nil, Nat.add_zero, List.append_nil, upd_upd] at hk
          have hsame : upd s.H g0 (some (.row e' l.length)) = s.H := by funext k; simp only [upd]; split; rename_i hk; subst hk; exact hg.symm; rfl
          rw [hsame] at hk
          exact ⟨_, w, G, _, _, _, run_app_empty ht hi hsrc _ l.length c ho.cap, hk, Gh.Le.rfl_ G, .slown hr hs ho rfl hc, h0⟩
        · have hmpos : 0 < m.length := List.length_pos_iff.2 hm
          have huni : ∀ x ∈ l ++ m, x.cells.length = i.size := fun x hx => by rcases List.mem_append.1 hx with hx | hx; exact ho.uni x hx; exact hum x hx
          have hflat : flatA (l ++ m) = flatA l ++ flatA m := by simp [flatA]
          have hone : ∀ x ∈ flatA (l ++ m), x.one = true := fun x hx => by rw [hflat] at hx; rcases List.mem_append.1 hx with hx | hx; exact ho.one x hx; exact hom x hx
          by_cases hroom : l.length + m.length ≤ c
          · have hfit : l.length * i.size + news.length ≤ cur.size := by rw [e5, hszP, hlen1, ← Nat.add_mul]; exact Nat.mul_le_mul_right _ hroom
            have hrun := run_app_room (ty := ty) ht hi g0 l.length c cur fz e2 (by rw [← hszP]; exact efz) hsrc hroom hfit
            have hgr := h0.growRow (m' := l.length + m.length) (news := news) hg e2 efz hc e5 e4 hroom (by rw [hszP, Nat.add_mul, hlen1]; omega) (by omega) e6
            rw [hszP] at hgr
            have hk := h2 g0 s.n (.inl rfl) (Nat.le_refl _) k2
            refine ⟨_, _, _, _, _, _, hrun, hk, hgr.2, ?_, hgr.1⟩
            rw [hcur] at hgr ⊢
            refine .slown (e := e') (vs := vs ++ news) ?_ (Gh.add_sealed _ _ _) ⟨by simpa using hroom, e4, hpos, huni, hone⟩ (by simp) (by simp [Gh.add])
            rw [hflat]
            exact (hr.mono hgr.2).append (hrm.mono hgr.2)
          · have hrun := run_app_grow (ty := ty) ht hi hz ⟨g0, 0, none⟩ l.length c vs hlen (fun j u hu => by rw [addr_add]; exact h0.seal_ _ _ _ (hs j u hu)) hsrc (by omega) (by simp only [maxLen] at hmx; omega) (growslice_fits (by omega) hby)
            have hge := grownCap_ge w (l.length + m.length) c e'
            have hcm := grownCap_le_maxLen w (l.length + m.length) c e' hmx
            have hsm := (h0.same (w' := w.drew) rfl rfl rfl rfl).drop1 g0
            have hll : (vs ++ news).length = (l.length + m.length) * i.size := by simp [hlen, hlen1, Nat.add_mul]
            have hcsz : (vs.toArray ++ news.toArray ++ Builtin.zeroCells zv.cells (grownCap w (l.length + m.length) c e' - (l.length + m.length))).size = grownCap w (l.length + m.length) c e' * szP P e' := by
              simp only [Array.size_append, List.size_toArray, size_zeroCells, hzs, hlen, hlen1, hszP, ← Nat.add_mul]
              congr 1; omega
            have hrel := hsm.newRow (w' := w.drew.alloc (.cells (vs.toArray ++ news.toArray ++ Builtin.zeroCells zv.cells (grownCap w (l.length + m.length) c e' - (l.length + m.length))) e')) (cur := vs.toArray ++ news.toArray ++ Builtin.zeroCells zv.cells (grownCap w (l.length + m.length) c e' - (l.length + m.length))) (e := e') (fz := (0, 0)) (vs := vs ++ news) (c := some (e', grownCap w (l.length + m.length) c e')) (ob := some (.row e' (l.length + m.length))) rfl rfl rfl rfl
              (fun j u hu => by
                have hj := (List.getElem?_eq_some_iff.1 hu).1
                rw [Array.getElem?_append_left (by simpa using hj)]
                simpa using hu)
              (fun e2 c2 hc2 => by injection hc2 with hc2; injection hc2 with a b; subst a; subst b; exact ⟨rfl, hcsz⟩)
              (.inr ⟨l.length + m.length, _, rfl, rfl, by simp, hge, hcm, by rw [hll, hszP]; exact Nat.le_refl _⟩)
            have hle := hsm.addLe (vs ++ news) (some (e', grownCap w (l.length + m.length) c e'))
            refine ⟨_, _, _, .sl i.size (l ++ m) (.own w.heap.size), w.heap.size + 1, _, hrun, h2 w.heap.size (w.heap.size + 1) (.inr h0.hi) (by have := h0.hi; omega) (by omega), hle, ?_, hrel⟩
            refine .slown (e := e') (vs := vs ++ news) ?_ (Gh.add_sealed _ _ _) ⟨by simpa using hge, hcm, hpos, huni, hone⟩ (by simp) (by simp [Gh.add])
            rw [hflat]
            exact (hr.mono hle).append (hrm.mono hle)
    · exact h.elim
  · exact h.elim

theorem src_slice {t e : TypeId} {i : TypeInfo} {vy : Value} {m : List AV} {tk : Tok} (ht : P.underlying t = some (.slice e)) (h0 : Rel0 P w0 G n H w) (hy : Rep G vy (.sl i.size m tk)) : ∃ news, Src P w i.size t vy m.length news ∧ RepL G news (flatA m) ∧ (∀ y ∈ m, y.cells.length = i.size) ∧ (∀ y ∈ flatA m, y.one = true) := by
  obtain ⟨A, c, rfl, hc, hm, hA⟩ := hy.slOut
  by_cases hl : m = []
  · subst hl
    refine ⟨[], ⟨.inr ⟨e, ht⟩, fun W => rfl, fun W _ => ?_, by simp, by simp⟩, .nil, by simp, by simp [flatA]⟩
    cases A <;> simp [Builtin.firstCells, loadCells, loadCellsFrom]
  · obtain ⟨g, off, vs, rfl, hr, hs, ho⟩ := hA hl
    have hlen : vs.length = m.length * i.size := by rw [hr.len, flatA_len ho.uni]
    refine ⟨vs, ⟨.inr ⟨e, ht⟩, fun W => rfl, fun W hW => ?_, hlen, hr.ones ho.one⟩, hr, ho.uni, ho.one⟩
    refine run_firstCells_some (P := P) W i.size m.length ⟨g, off, none⟩ m.length c vs hlen fun j u hu => ?_
    rw [addr_add]
    have := h0.seal_ _ _ _ (hs j u hu)
    unfold World.cell? at this ⊢
    rw [hW]; exact this
theorem flatA_byte (l : List UInt8) : flatA (l.map fun u => AV.int .u8 u.toNat) = l.map fun u => AV.int .u8 u.toNat := by
  induction l with
  | nil => rfl
  | cons x l ih => simp only [List.map_cons, flatA, List.flatMap_cons, AV.cells, List.singleton_append] at ih ⊢; rw [ih]
theorem repL_byte (l : List UInt8) : RepL G (l.map fun u => Value.int .u8 u.toNat) (l.map fun u => AV.int .u8 u.toNat) := by
  induction l with
  | nil => exact .nil
  | cons x l ih => exact .cons .int ih
theorem src_string {u : TypeId} {s : ByteArray} (hu : P.underlying u = some .string) : ∃ news, Src P w 1 u (.string s) (byteA s.data.toList).length news ∧ RepL G news (flatA (byteA s.data.toList)) ∧ (∀ y ∈ byteA s.data.toList, y.cells.length = 1) ∧ (∀ y ∈ flatA (byteA s.data.toList), y.one = true) := by
  refine ⟨s.data.toList.map fun u => Value.int .u8 u.toNat, ⟨.inl hu, fun W => by simp [Builtin.lenOf, byteA], fun W _ => ?_, by simp [byteA], ?_⟩, by rw [byteA, flatA_byte]; exact repL_byte _, ?_, ?_⟩
  · have := Lib.run_firstCells_string (P := P) W 1 s
    simpa [byteA, Lib.strCells] using this
  · intro x hx; obtain ⟨v, _, rfl⟩ := List.mem_map.1 hx; rfl
  · intro x hx; obtain ⟨v, _, rfl⟩ := List.mem_map.1 hx; rfl
  · intro x hx; rw [byteA, flatA_byte] at hx; obtain ⟨v, _, rfl⟩ := List.mem_map.1 hx; rfl
end
end Go.Proofs.YtnmkpadgogbgkaaDoor
