/- Streams: the words ahead of the parts; no condition. -/
import Derived.Test.YtjdccdelcnmocaaGreatDoorMdP
import Derived.Test.YtjdccdelcnmocaaGreatDoorMdJ
import Derived.Test.YtjdccdelcnmocaaGreatDoorMdK
import Derived.Test.YtjdccdelcnmocaaGreatDoorMdO
import Derived.Test.YtjdccdelcnmocaaGreatDoorAdF
import Derived.Test.YtjdccdelcnmocaaGreatDoorMgI
import Derived.WalkKit
import Derived.ProofKit
import Derived.OpenShut
import Derived.LaidLaws
import Derived.Deep.DeepHandedRow
import Derived.Deep.DeepWitnessRowRef
import Derived.Lib.LaidTab
import Derived.Lib.LaidU8
import Derived.MakeChecks
import Derived.Lay
set_option linter.all false
set_option linter.unusedSimpArgs false
set_option linter.unusedVariables false
set_option maxHeartbeats 2000000
namespace Go.Proofs.YtjdccdelcnmocaaGreatDoor
def TokT (t : Tok) (k : Nat) (H : A7) (n : Nat) : Prop := match t with
 | .own g => H g = some (.row 9 k) ∧ g < n
 | .nil => k = 0
 | .ro => False
theorem Rm {t t2 : Tok} {xs : List AV} {x : AV} {z : Nat} {d : Option Nat} {K : AS → Prop} {en : AY} {n : Nat} {H : A7} (h : TokT t xs.length H n) (hz : t ≠ .nil → z = 1) (hl : xs.length ≤ 1000000) (hs : ∀ g, n ≤ g → H g = none)
  (hk : ∀ g' n' H', (Bh t g' ∨ n ≤ g') → n ≤ n' → g' < n' → (∀ k, k < n → ¬ Bh t k → H' k = H k) → H' g' = some (.row 9 (xs.length + 1)) → (∀ k, n' ≤ k → H' k = none) → K ⟨AR en d (.sl 1 (xs ++ [x]) (.own g')), n', H'⟩) :
  appKS 9 1 16 d K ⟨en, n, H⟩ (.sl z xs t) (.sl 1 [x] t2) := by
 match t, h with
 | .nil, h =>
  have h0 : xs = [] := List.length_eq_zero_iff.1 h
  subst h0
  refine Oc (by simp) (by simp) (by simp [maxLen]) fun g hg => ?_
  exact hk g (g + 1) _ (.inr hg) (by omega) (by omega) (fun k h1 _ => by rw [upd_ne (by omega)]) (AO _ _ _) (fun k h1 => by rw [upd_ne (by omega)]; exact hs k (by omega))
 | .own g0, h =>
  obtain ⟨h1, h2⟩ := h
  have hz := hz (by simp)
  subst hz
  refine Gg h1 (by simp; omega) (by simp [maxLen]; omega) fun g n' h3 h4 h5 => ?_
  refine hk g n' _ (h3.elim (fun h => .inl h) .inr) h4 h5 (fun k k1 k2 => ?_) (AO _ _ _) (fun k k1 => ?_)
  ·have : k ≠ g0 := k2
   rw [upd_ne (by rcases h3 with h3 | h3 <;> omega), upd_ne this]
  ·rw [upd_ne (by omega), upd_ne (by omega)]; exact hs k (by omega)
theorem TokT.at_ {t : Tok} {k n n1 : Nat} {H H1 : A7} (h : TokT t k H n) (hH : ∀ g, Bh t g → H1 g = H g) (hn : n ≤ n1) : TokT t k H1 n1 := by
 match t, h with
 | .nil, h => exact h
 | .own g, h => exact ⟨(hH g rfl).trans h.1, by have := h.2; omega⟩
theorem TokT.lt {t : Tok} {k n : Nat} {H : A7} (h : TokT t k H n) : ∀ g, Bh t g → g < n := by
 match t, h with
 | .nil, h => exact fun g hg => hg.elim
 | .own k, h => intro g hg; have e : g = k := hg; subst e; exact h.2
def Z7 (x : Shq) (o : Int) : As := if x.fn = true then fnW.getD (o - 1).toNat [] else if x.cd = true then cdW.getD (o - 1).toNat [] else []
theorem UV (x : Shq) (o : Int) : (Z7 x o).length ≤ 9 := by
 have key : ∀ (l : List As), (∀ y ∈ l, y.length ≤ 9) → ∀ i : Nat, (l.getD i []).length ≤ 9 := fun l h i => by
  rw [List.getD_eq_getElem?_getD]
  cases hi : l[i]? with
  | none => simp
  | some y => exact h y (List.mem_of_getElem? hi)
 unfold Z7
 split
 ·exact key _ (by decide) _
 ·split
  ·exact key _ (by decide) _
  ·simp
def Fl (k o m : Int) (v : List Int) (x : Shq) : List As := if k = 15 then [Z7 x o] else if Z7 x o ≠ [] then [Z7 x o ++ [32] ++ Lib.itoa m] else if 0 < x.n1 then [Lib.itoa m] else v.map Lib.itoa
def A0q (n : Nat) (H : A7) (l : List As) : Bm := fun r n' H' => n ≤ n' ∧ (∀ g, n' ≤ g → H' g = none) ∧ SameB n H H' ∧ ∃ z t, r = .sl z (l.map AV.str) t ∧ TokT t l.length H' n' ∧ (t ≠ .nil → z = 1) ∧ ∀ g, Bh t g → n ≤ g
theorem Wp {n g n' : Nat} {H : A7} {w : As} {e : AY} (hs : ∀ g, n ≤ g → H g = none) (H1 : A7) (h1 : ∀ k, k < n → H1 k = H k) (hs1 : ∀ k, n' ≤ k → H1 k = none) (hg : n ≤ g) (hgn : g < n') (hr : H1 g = some (.row 9 1)) (he : get e 4 = .sl 1 [.str w] (.own g)) : fin (A0q n H [w]) n [.tmp 4] .ret ⟨e, n', H1⟩ :=
 Au (x := .sl 1 [.str w] (.own g)) (by simp [Bt, FE, CF, he]) (A1 _) (by omega) hs1 ⟨by omega, hs1, h1, 1, .own g, rfl, ⟨hr, hgn⟩, fun _ => rfl, fun g' hg' => by have e : g' = g := hg'; omega⟩
attribute [local simp] LV Ev Er Mx Lf M4 NG FQ F4 HI H5 Mi Ll Ls Ka MD NM LX N7 NF MF Mq O8 Nk LY T2 pe LP LT KO MB ND MR Nn O7 NU MW Nt OC NV Ee NB Mv Mw M5 Mt N5 Mf LB LZ Me L3 Ln NI MO N2 KP NL Lz OD Ni Lo F3 N3 F5 Mn Li KI Kr NA Ml MP NJ KV KJ Ko Lk Ld NS MY Ky MH Kd L2 KY O9 NY Kk Ki LU F1 KZ Kc MX LW MN NT My KN Kl Mb KT L0 MT Kt MA Md Mz OA KK Kq Kb KU Kn NX Nl Mm O0 Nd NC Mj M0 Np List.mem_cons guardK Di Fr GV HT Lm Eo FI FP Ej F7 FD Eu Eh FA NP Kj Ew LL M3 Nb Kh MU ML FO MI Nj Kg Nw Mk MK HM El FT F6 Ep Mp L6 FG Ke Ex L8 FN Em Nf FR FV Mo Lt Lp LQ MQ LJ Na Nh T0 Ju KB IE JY Jb Js EN Gn Gs OF Gi Gq EW Dk UR K5 Jm Gk Ji K9 ES EY CA Bf Cr DG AL ev get put I3 AR EH Nq Ng Mh Nv KQ LE Fg part Bu IB Nz IA isNil DC DJ Fi Da Db Kv Lq Lr Kz KG Jg OE LC Lx MZ O6 No L7 LN MJ Lj AV.fits AV.cells ones AV.one Fh DB Fd Ec Gu Fp KH Hw HU DA Bt CF FE I4 AO Br Uo HA NZ Mc List.getElem?_cons_zero List.getElem?_cons_succ F9 FC Eg Kw LG Nx IN Lc MC M1 KX L4 M6 Ks L1 Mr LI Kp
theorem Yz (k o m : Int) (v : List Int) (p : List St) (x : Shq) (n : Nat) (H : A7) (hfn : x.fn = true → 1 ≤ o ∧ o ≤ 6) (hcd : x.fn = false → x.cd = true → 1 ≤ o ∧ o ≤ 3) (hm : 0 ≤ m ∧ m ≤ 10000) (hv : ∀ y ∈ v, 0 ≤ y ∧ y ≤ 10000) (hvl : v.length ≤ 5000) : ACalls Tryz.prog 82 [encS (.mk k o m v p), Ra x] n H (A0q n H (Fl k o m v x)) := by
 have hfa := QV
 have hca := QD
 have him := Ty m (by omega)
 have hil := Lib.itoa_length_le m (by omega) (by omega)
 obtain ⟨xw, P, fn, cd, n0, n1, vs⟩ := x
 dsimp only at hfn hcd
 unfold Fl
 rw [AN]
 generalize hW : A0q n H _ = R
 refine AF Tryz.func82 A22 rfl fun hs => ?_
 have hk8 : ∀ (g2 g3 : Nat) (e : AY) (w : As), n ≤ g2 → g2 < g3 → w = Z7 ⟨xw, P, fn, cd, n0, n1, vs⟩ o → get e 2 = .ptr g2 0 → get e 3 = .ptr g3 0 → get e 5 = .str w → aw Tryz.prog c82_k8 (fin R n [.tmp 4]) ⟨e, g3 + 1, upd (upd H g2 (some (Ab k o m (Xn v) (.sl 5 (Ac p) .ro)))) g3 (some (Pi ⟨xw, P, fn, cd, n0, n1, vs⟩))⟩ := by
  intro g2 g3 e w o1 o2 hw e2 e3 e5
  have hwl := UV ⟨xw, P, fn, cd, n0, n1, vs⟩ o
  rw [← hw] at hW hwl
  have hs1 : ∀ k', g3 + 1 ≤ k' → upd (upd H g2 (some (Ab k o m (Xn v) (.sl 5 (Ac p) .ro)))) g3 (some (Pi ⟨xw, P, fn, cd, n0, n1, vs⟩)) k' = none := fun k' hk => by simp (disch := omega) only [upd_ne]; exact hs k' (by omega)
  have hf1 : ∀ k', k' < n → upd (upd H g2 (some (Ab k o m (Xn v) (.sl 5 (Ac p) .ro)))) g3 (some (Pi ⟨xw, P, fn, cd, n0, n1, vs⟩)) k' = H k' := fun k' hk => by simp (disch := omega) only [upd_ne]
  by_cases k15 : k = 15
  ·rw [if_pos k15] at hW
   subst hW k15
   repeat' (first | (simp -implicitDefEqProofs [HB, HR, HO, G9, Ig, Ip, Ih, IX, GB, c82, -getElem?_pos, e2, e3, e5]) | (simp (disch := omega) only [AC]) | ((with_reducible refine A9 120 ?_); (refine' CallP.sf ?_ (him) ?_); (focus first | (with_reducible exact A0 _) | (simp [A5, A4, A1, A0]; done))) | (with_reducible first | refine A8 ?_ ?_ ?_ | exact AB | assumption | refine A2 ?_ | refine KM.of ?_ | refine AD ?_ | refine A3 ?_ | refine AI ?_ | refine A6 ?_ | refine AJ ?_ | refine AH ?_ | intro _g _hg | refine AE ?_ ?_ | intro _hc) | omega)
   exact Wp hs _ (fun k' hk => by rw [upd_ne (by omega)]; exact hf1 k' hk) (fun k' hk => by rw [upd_ne (by omega)]; exact hs1 k' (by omega)) (by omega) (by omega) (AO _ _ _) rfl
  ·rw [if_neg k15] at hW
   by_cases w0 : w = []
   ·rw [if_neg (by simpa using w0)] at hW
    subst w0
    by_cases h1 : 0 < n1
    ·rw [if_pos h1] at hW
     subst hW
     repeat' (first | (simp -implicitDefEqProofs [HB, HR, HO, G9, Ig, Ip, Ih, IX, GB, c82, -getElem?_pos, e2, e3, e5, k15, h1]) | (simp (disch := omega) only [AC]) | ((with_reducible refine A9 120 ?_); (refine' CallP.sf ?_ (him) ?_); (focus first | (with_reducible exact A0 _) | (simp [A5, A4, A1, A0]; done))) | (with_reducible first | refine A8 ?_ ?_ ?_ | exact AB | assumption | refine A2 ?_ | refine KM.of ?_ | refine AD ?_ | refine A3 ?_ | refine AI ?_ | refine A6 ?_ | refine AJ ?_ | refine AH ?_ | intro _g _hg | refine AE ?_ ?_ | intro _hc) | omega)
     exact Wp hs _ (fun k' hk => by rw [upd_ne (by omega)]; exact hf1 k' hk) (fun k' hk => by rw [upd_ne (by omega)]; exact hs1 k' (by omega)) (by omega) (by omega) (AO _ _ _) rfl
    ·rw [if_neg h1] at hW
     subst hW
     repeat' (first | (simp -implicitDefEqProofs [HB, HR, HO, G9, Ig, Ip, Ih, IX, GB, c82, -getElem?_pos, e2, e3, e5, k15, h1]) | (simp (disch := omega) only [AC]) | ((with_reducible refine A9 120 ?_); (refine' CallP.sf ?_ (him) ?_); (focus first | (with_reducible exact A0 _) | (simp [A5, A4, A1, A0]; done))) | (with_reducible first | refine A8 ?_ ?_ ?_ | exact AB | assumption | refine A2 ?_ | refine KM.of ?_ | refine AD ?_ | refine A3 ?_ | refine AI ?_ | refine A6 ?_ | refine AJ ?_ | refine AH ?_ | intro _g _hg | refine AE ?_ ?_ | intro _hc) | omega)
     refine LoopK.go (fun q st => ∃ (j : Nat) (xs : List AV) (z : Nat) (t : Tok) (n2 : Nat) (H2 : A7), j + q = v.length ∧ xs = ((v.take j).map Lib.itoa).map AV.str ∧ st = ⟨[(6, .sl z xs t), (53, Xn v), (54, aI v.length), (55, aI j)], n2, H2⟩ ∧ n ≤ n2 ∧ (∀ k', n2 ≤ k' → H2 k' = none) ∧ SameB n H H2 ∧ TokT t j H2 n2 ∧ (t ≠ .nil → z = 1) ∧ ∀ g, Bh t g → n ≤ g) v.length ⟨0, [], 0, .nil, g3 + 1, _, by omega, rfl, rfl, by omega, hs1, hf1, rfl, fun h => absurd rfl h, fun g h => h.elim⟩ ?_
     rintro q st ⟨j, xs, z, t, n2, H2, hj, hxs, rfl, hn2, hs2, hf2, hT, hz, hTn⟩ J hJ
     have hjl2 : xs.length = j := by rw [hxs]; simp; omega
     by_cases hjl : j < v.length
     ·obtain ⟨y, hy⟩ : ∃ y, v[j]? = some y := ⟨_, List.getElem?_eq_getElem hjl⟩
      have hyr := hv y (List.mem_of_getElem? hy)
      have hya := ET (f := aI) hy
      have hiy := Ty y (by omega)
      have hjl' : (j : Int) < v.length := by omega
      have hvm : (v.map aI).length = v.length := by simp
      
      repeat' (first | (simp -implicitDefEqProofs [G9, HO, HR, -getElem?_pos, hjl', hya, hvm]) | (simp (disch := omega) only [AC]) | (refine Rm (by rw [hjl2]; exact hT.at_ (fun k hk => by have := hT.lt k hk; have := hTn k hk; simp (disch := omega) only [upd_ne]) (by omega)) hz (by rw [hjl2]; omega) (fun k hk => by simp (disch := omega) only [upd_ne]; exact hs2 k (by omega)) (fun g' n3 H3 a1 a2 a3 a4 a5 a6 => ?_)) | ((with_reducible refine A9 120 ?_); (refine' CallP.sf ?_ (hiy) ?_); (focus first | (with_reducible exact A0 _) | (simp [A5, A4, A1, A0]; done))) | (with_reducible first | refine A8 ?_ ?_ ?_ | exact AB | assumption | refine A2 ?_ | refine KM.of ?_ | refine AD ?_ | refine A3 ?_ | refine AI ?_ | refine A6 ?_ | refine AJ ?_ | refine AH ?_ | intro _g _hg | refine AE ?_ ?_ | intro _hc) | omega)
      refine hJ (q - 1) _ (by omega) ⟨j + 1, xs ++ [.str (Lib.itoa y)], 1, .own g', n3, H3, by omega, by rw [hxs, List.take_add_one, hy]; simp, rfl, by omega, a6, fun k' hk => ?_, ⟨by rw [← hjl2]; exact a5, a3⟩, fun _ => rfl, fun g hg => ?_⟩
      ·rw [a4 k' (by omega) (fun h => by have := hTn k' h; omega), upd_ne (by omega)]; exact hf2 k' hk
      ·have e : g = g' := hg
       rcases a1 with h | h
       ·have := hTn g' h; omega
       ·omega
     ·have hjl' : ¬ (j : Int) < v.length := by omega
      have htk : v.take j = v := List.take_of_length_le (by omega)
      rw [htk] at hxs
      have hjv : j = v.length := by omega
      subst hjv
      
      repeat' (first | (simp -implicitDefEqProofs [G9, HB, -getElem?_pos, hjl']) | (simp (disch := omega) only [AC]) | (with_reducible first | refine A8 ?_ ?_ ?_ | exact AB | assumption | refine A2 ?_ | refine KM.of ?_ | refine AD ?_ | refine A3 ?_ | refine AI ?_ | refine A6 ?_ | refine AJ ?_ | refine AH ?_ | intro _g _hg | refine AE ?_ ?_ | intro _hc) | omega)
      subst hxs
      refine Au (x := .sl z ((v.map Lib.itoa).map AV.str) t) (by simp -implicitDefEqProofs [-getElem?_pos]) (A1 _) (by omega) hs2 ⟨by omega, hs2, hf2, z, t, rfl, by simpa using hT, hz, hTn⟩
   ·rw [if_pos w0] at hW
    subst hW
    repeat' (first | (simp -implicitDefEqProofs [HB, HR, HO, G9, Ig, Ip, Ih, IX, GB, c82, -getElem?_pos, e2, e3, e5, k15, w0]) | (simp (disch := omega) only [AC]) | ((with_reducible refine A9 120 ?_); (refine' CallP.sf ?_ (him) ?_); (focus first | (with_reducible exact A0 _) | (simp [A5, A4, A1, A0]; done))) | (with_reducible first | refine A8 ?_ ?_ ?_ | exact AB | assumption | refine A2 ?_ | refine KM.of ?_ | refine AD ?_ | refine A3 ?_ | refine AI ?_ | refine A6 ?_ | refine AJ ?_ | refine AH ?_ | intro _g _hg | refine AE ?_ ?_ | intro _hc) | omega)
    exact Wp hs _ (fun k' hk => by rw [upd_ne (by omega)]; exact hf1 k' hk) (fun k' hk => by rw [upd_ne (by omega)]; exact hs1 k' (by omega)) (by omega) (by omega) (AO _ _ _) rfl
 have hget : ∀ (l : List As) (i : Int), 1 ≤ i → i ≤ l.length → l[i.toNat - 1]? = some (l.getD (i - 1).toNat []) := fun l i h1 h2 => by
  have e : (i - 1).toNat = i.toNat - 1 := by omega
  rw [e]
  obtain ⟨y, hy⟩ : ∃ y, l[i.toNat - 1]? = some y := ⟨_, List.getElem?_eq_getElem (by omega)⟩
  rw [hy, List.getD_eq_getElem?_getD, hy]; rfl
 by_cases f1 : fn = true
 ·subst f1
  obtain ⟨h1, h2⟩ := hfn rfl
  have hg := hget fnW o h1 (by simp [fnW]; omega)
  have hop : Z7 ⟨xw, P, true, cd, n0, n1, vs⟩ o = fnW.getD (o - 1).toNat [] := rfl
  have hl6 : fnW.length = 6 := rfl
  have h3 : ¬ o - 1 < 0 := by omega
  have h3' : (0 : Int) ≤ o - 1 := by omega
  have h4 : o - 1 < 6 := by omega
  generalize fnW.getD (o - 1).toNat [] = w at *
  repeat' (first | (simp -implicitDefEqProofs [c82, -getElem?_pos, hg, hl6, h3, h3', h4]) | (simp (disch := omega) only [AC]) | ((with_reducible refine A9 118 ?_); (refine' CallP.sf ?_ (hfa) ?_); (focus first | (with_reducible exact A0 _) | (simp [A5, A4, A1, A0]; done))) | ((with_reducible refine A9 119 ?_); (refine' CallP.sf ?_ (hca) ?_); (focus first | (with_reducible exact A0 _) | (simp [A5, A4, A1, A0]; done))) | (with_reducible first | refine A8 ?_ ?_ ?_ | exact AB | assumption | refine A2 ?_ | refine KM.of ?_ | refine AD ?_ | refine A3 ?_ | refine AI ?_ | refine A6 ?_ | refine AJ ?_ | refine AH ?_ | intro _g _hg | refine AE ?_ ?_ | intro _hc) | omega)
  exact hk8 _ _ _ w (by omega) (by omega) hop.symm rfl rfl rfl
 ·rw [Bool.not_eq_true] at f1
  subst f1
  by_cases c1 : cd = true
  ·subst c1
   obtain ⟨h1, h2⟩ := hcd rfl rfl
   have hg := hget cdW o h1 (by simp [cdW]; omega)
   have hop : Z7 ⟨xw, P, false, true, n0, n1, vs⟩ o = cdW.getD (o - 1).toNat [] := rfl
   have hl6 : cdW.length = 3 := rfl
   have h3 : ¬ o - 1 < 0 := by omega
   have h3' : (0 : Int) ≤ o - 1 := by omega
   have h4 : o - 1 < 3 := by omega
   generalize cdW.getD (o - 1).toNat [] = w at *
   repeat' (first | (simp -implicitDefEqProofs [c82, GB, -getElem?_pos, hg, hl6, h3, h3', h4]) | (simp (disch := omega) only [AC]) | ((with_reducible refine A9 118 ?_); (refine' CallP.sf ?_ (hfa) ?_); (focus first | (with_reducible exact A0 _) | (simp [A5, A4, A1, A0]; done))) | ((with_reducible refine A9 119 ?_); (refine' CallP.sf ?_ (hca) ?_); (focus first | (with_reducible exact A0 _) | (simp [A5, A4, A1, A0]; done))) | (with_reducible first | refine A8 ?_ ?_ ?_ | exact AB | assumption | refine A2 ?_ | refine KM.of ?_ | refine AD ?_ | refine A3 ?_ | refine AI ?_ | refine A6 ?_ | refine AJ ?_ | refine AH ?_ | intro _g _hg | refine AE ?_ ?_ | intro _hc) | omega)
   exact hk8 _ _ _ w (by omega) (by omega) hop.symm rfl rfl rfl
  ·rw [Bool.not_eq_true] at c1
   subst c1
   repeat' (first | (simp -implicitDefEqProofs [c82, GB, -getElem?_pos]) | (simp (disch := omega) only [AC]) | ((with_reducible refine A9 118 ?_); (refine' CallP.sf ?_ (hfa) ?_); (focus first | (with_reducible exact A0 _) | (simp [A5, A4, A1, A0]; done))) | ((with_reducible refine A9 119 ?_); (refine' CallP.sf ?_ (hca) ?_); (focus first | (with_reducible exact A0 _) | (simp [A5, A4, A1, A0]; done))) | (with_reducible first | refine A8 ?_ ?_ ?_ | exact AB | assumption | refine A2 ?_ | refine KM.of ?_ | refine AD ?_ | refine A3 ?_ | refine AI ?_ | refine A6 ?_ | refine AJ ?_ | refine AH ?_ | intro _g _hg | refine AE ?_ ?_ | intro _hc) | omega)
   exact hk8 _ _ _ [] (by omega) (by omega) rfl rfl rfl rfl
def Gw (k : Int) : Shq := shqs.getD (k.toNat - 1) UX
mutual
def GS : St → As
 | .mk k o m v p => (Gw k).w ++ [40] ++ Lib.join (Fl k o m v (Gw k) ++ EP p) [44] ++ [41]
def EP : List St → List As
 | [] => []
 | s :: r => GS s :: EP r
end
theorem Q3 : ∀ p : List St, EP p = p.map GS
 | [] => by simp [EP]
 | s :: r => by simp [EP, Q3 r]
theorem Yq {k : Int} (h1 : 1 ≤ k) (h2 : k ≤ 16) : Bf (aI k) shpMap = some (Ra (Gw k)) := by
 have key : ∀ j : Nat, j < 16 → Bf (aI ((j : Int) + 1)) shpMap = some (Ra (Gw ((j : Int) + 1))) := by
  intro j hj
  iterate 16 (rcases j with _ | j; · rfl)
  omega
 have := key (k.toNat - 1) (by omega)
 have e : (((k.toNat - 1 : Nat) : Int) + 1) = k := by omega
 rwa [e] at this
theorem Lu {k : Int} (h1 : 1 ≤ k) (h2 : k ≤ 16) : (Gw k).fn = I6 k ∧ (Gw k).cd = Bj k ∧ (Gw k).w.length ≤ 6 := by
 have key : ∀ j : Nat, j < 16 → (Gw ((j : Int) + 1)).fn = I6 ((j : Int) + 1) ∧ (Gw ((j : Int) + 1)).cd = Bj ((j : Int) + 1) ∧ (Gw ((j : Int) + 1)).w.length ≤ 6 := by
  intro j hj
  iterate 16 (rcases j with _ | j; · exact ⟨rfl, rfl, by decide⟩)
  omega
 have := key (k.toNat - 1) (by omega)
 have e : (((k.toNat - 1 : Nat) : Int) + 1) = k := by omega
 rwa [e] at this
theorem Sq (sep : As) : ∀ l : List As, (Lib.join l sep).length ≤ (l.map fun x => x.length + sep.length).sum
 | [] => by simp [Lib.join_nil]
 | [x] => by simp [Lib.join_one]
 | x :: y :: r => by
  have := Sq sep (y :: r)
  have e : Lib.join (x :: y :: r) sep = x ++ sep ++ Lib.join (y :: r) sep := by simp [Lib.join, List.intercalate]
  rw [e]
  simp only [List.length_append, List.map_cons, List.sum_cons] at this ⊢
  omega
theorem Xl (f : As → Nat) (B : Nat) : ∀ l : List As, (∀ x ∈ l, f x ≤ B) → (l.map f).sum ≤ l.length * B
 | [], _ => by simp
 | x :: r, h => by
  have h1 := h x List.mem_cons_self
  have h2 := Xl f B r fun y hy => h y (List.mem_cons_of_mem _ hy)
  simp only [List.map_cons, List.sum_cons, List.length_cons, Nat.succ_mul]; omega
theorem V5 {k o m : Int} {v : List Int} {x : Shq} (hm : 0 ≤ m ∧ m ≤ 10000) (hv : ∀ y ∈ v, 0 ≤ y ∧ y ≤ 10000) (hvl : v.length ≤ 5000) : ∀ {y : As}, y ∈ Fl k o m v x → y.length ≤ 31 := by
 intro y hy
 have h1 := UV x o
 have h2 := Lib.itoa_length_le m (by omega) (by omega)
 unfold Fl at hy
 split at hy
 ·simp at hy; subst hy; omega
 ·split at hy
  ·simp at hy; subst hy; simp; omega
  ·split at hy
   ·simp at hy; subst hy; omega
   ·obtain ⟨z, hz, rfl⟩ := List.mem_map.1 hy
    have := hv z hz
    have := Lib.itoa_length_le z (by omega) (by omega)
    omega
theorem QL {k o m : Int} {v : List Int} {x : Shq} (hvl : v.length ≤ 5000) : (Fl k o m v x).length ≤ 5000 := by
 unfold Fl
 split
 ·simp
 ·split
  ·simp
  ·split
   ·simp
   ·simpa using hvl
structure TxtOk (k o m : Int) (v : List Int) : Prop where
 k1 : 1 ≤ k
 k2 : k ≤ 16
 fn : (Gw k).fn = true → 1 ≤ o ∧ o ≤ 6
 cd : (Gw k).fn = false → (Gw k).cd = true → 1 ≤ o ∧ o ≤ 3
 mb : 0 ≤ m ∧ m ≤ 10000
 vb : ∀ y ∈ v, 0 ≤ y ∧ y ≤ 10000
 vl : v.length ≤ 5000
theorem UE (k : Int) : ∀ (i : Nat) (v : List Int), Ai k i v = true → ∀ y ∈ v, 0 ≤ y ∧ y ≤ 10000
 | _, [], _, y, h => by cases h
 | i, x :: r, h, y, hy => by
  rw [Ai, Bool.and_eq_true] at h
  rcases List.mem_cons.1 hy with rfl | hy
  ·have := h.1
   unfold GF at this
   simp only [Bool.and_eq_true, decide_eq_true_eq] at this
   obtain ⟨h1, h2⟩ := this
   split at h1 <;> split at h2 <;> omega
  ·exact UE k (i + 1) r h.2 y hy
theorem Xm {k o m : Int} {v : List Int} {p : List St} (hok : OY (.mk k o m v p)) (hsm : T1 (.mk k o m v p)) : TxtOk k o m v := by
 obtain ⟨h1, _⟩ := hok
 have N := Hh h1
 obtain ⟨f1, f2, _⟩ := Lu N.k1 N.k2
 refine ⟨N.k1, N.k2, fun h => ?_, fun _ h => N.cnd (by rw [← f2]; exact h), ?_, UE k 0 v N.vals, ?_⟩
 ·rcases N.fn (by rw [← f1]; exact h) with h | h <;> omega
 ·by_cases hn : EZ k = true
  ·have := N.num hn
   unfold IK IS at this
   obtain ⟨h3, h4⟩ := this
   refine ⟨?_, ?_⟩
   ·split at h3
    ·omega
    ·split at h3 <;> omega
   ·split at h4
    ·omega
    ·split at h4
     ·omega
     ·split at h4 <;> omega
  ·have := N.non (by simpa using hn)
   omega
 ·by_cases hk1 : k = 1
  ·have := hsm.1
   rw [AU, Bg, if_pos hk1] at this
   exact this
  ·by_cases hk2 : k = 2
   ·have := N.rng hk2; omega
   ·rw [N.nov hk1 hk2]; simp
theorem Wi : ∀ s : St, OY s → T1 s → (GS s).length + 1 ≤ 300000 * Ah s := by
 intro s
 refine St.ind (Q := fun s => OY s → T1 s → (GS s).length + 1 ≤ 300000 * Ah s) ?_ s
 intro k o m v p ih hok hsm
 have T := Xm hok hsm
 obtain ⟨_, _, hw⟩ := Lu T.k1 T.k2
 have hp : ∀ q : List St, (∀ s ∈ q, s ∈ p) → Zw q → Z4 q → ((EP q).map fun x => x.length + 1).sum ≤ 300000 * BL q := by
  intro q
  induction q with
  | nil => intro _ _ _; simp [EP]
  | cons s r ihr =>
   intro h h1 h2
   have a1 := ih s (h s List.mem_cons_self) h1.1 h2.1
   have a2 := ihr (fun x hx => h x (List.mem_cons_of_mem _ hx)) h1.2 h2.2
   simp only [EP, List.map_cons, List.sum_cons, BL]
   omega
 have h1 := hp p (fun _ h => h) hok.2 hsm.2
 have h2 := Sq [44] (Fl k o m v (Gw k) ++ EP p)
 have h3 := Xl (fun x => x.length + 1) 32 (Fl k o m v (Gw k)) fun y hy => by have := V5 T.mb T.vb T.vl hy; omega
 have h4 := QL (k := k) (o := o) (m := m) (x := Gw k) T.vl
 rw [List.map_append, List.sum_append] at h2
 simp only [GS, List.length_append, Ah, List.length_cons, List.length_nil, Nat.zero_add] at h2 ⊢
 omega
theorem Iq : ∀ p : List St, (EP p).length = p.length
 | [] => rfl
 | s :: r => by simp [EP, Iq r]
theorem WZ {p : List St} {j : Nat} {s : St} (h : p[j]? = some s) : (EP p).take (j + 1) = (EP p).take j ++ [GS s] := by
 have : (EP p)[j]? = some (GS s) := by rw [Q3, List.getElem?_map, h]; rfl
 rw [List.take_add_one, this]; rfl
theorem A0s (s : St) : BK s → OY s → T1 s → Ah s ≤ 60 → ∀ (gm n : Nat) (H : A7), H gm = some (.map (some .i64) shpMap) → APureAt Tryz.prog 52 [encS s, .mp gm] n H (.str (GS s)) := by
 refine St.ind (Q := fun s => BK s → OY s → T1 s → Ah s ≤ 60 → ∀ (gm n : Nat) (H : A7), H gm = some (.map (some .i64) shpMap) → APureAt Tryz.prog 52 [encS s, .mp gm] n H (.str (GS s))) ?_ s
 intro k o m v p ih hfit hok hsm hsz gm n H hgm
 have T := Xm hok hsm
 obtain ⟨_, _, hw⟩ := Lu T.k1 T.k2
 have htl := Wi (.mk k o m v p) hok hsm
 have hwc := fun n H => Yz k o m v p (Gw k) n H T.fn T.cd T.mb T.vb T.vl
 have hcnt := QL (k := k) (o := o) (m := m) (x := Gw k) T.vl
 have hget := Yq T.k1 T.k2
 have hpl := BM p
 have hsz2 := EO p
 have hszp : BL p + 1 ≤ 60 := hsz
 have hjl : (Lib.join (Fl k o m v (Gw k) ++ EP p) [44]).length ≤ 300000 * 60 := by
  simp only [GS, List.length_append] at htl; omega
 have hja := Zv (Fl k o m v (Gw k) ++ EP p) [44] (by simp [Iq]; omega) (by omega)
 rw [GS]
 rw [AN] at hwc ⊢
 generalize hx : Gw k = x at *
 generalize Fl k o m v x = ws at *
 obtain ⟨xw, P, fn, cd, n0, n1, vs⟩ := x
 have hw' : xw.length ≤ 6 := hw
 generalize hsm' : shpMap = sm at *
 refine CN Tryz.func52 A2d rfl fun hH => ?_
 have hgmn : gm < n := by
  rcases Nat.lt_or_ge gm n with h | h
  ·exact h
  ·rw [hH gm h] at hgm; cases hgm
 repeat' (first | (simp -implicitDefEqProofs [c52, -getElem?_pos, hgm, hget, splice]) | (simp (disch := omega) only [AC]) | ((with_reducible refine Ae 82 ?_); refine ⟨_, hwc _ _, ?_⟩; rintro rb n2 H2 hle2 hsup2 ⟨_, _, hfr2, z, t, rfl, hT, hz, hTn⟩) | (with_reducible first | refine A8 ?_ ?_ ?_ | exact AB | assumption | refine A2 ?_ | refine KM.of ?_ | refine AD ?_ | refine A3 ?_ | refine AI ?_ | refine A6 ?_ | refine AJ ?_ | refine AH ?_ | intro _g _hg | refine AE ?_ ?_ | intro _hc) | omega)
 rename_i g2 hg2 _ _
 have hle2' : _g + 1 ≤ n2 := hle2
 generalize hg5 : _g = g5 at *
 have q2 : H2 g2 = some (Ab k o m (Xn v) (.sl 5 (Ac p) .ro)) := (hfr2 g2 (show g2 < g5 + 1 by omega)).trans (by simp (disch := omega) only [upd_ne, AO])
 have q5 : H2 g5 = some (Pi ⟨xw, P, fn, cd, n0, n1, vs⟩) := (hfr2 g5 (show g5 < g5 + 1 by omega)).trans (by simp (disch := omega) only [upd_ne, AO] <;> rfl)
 have hsame : SameB n H H2 := fun g hg => (hfr2 g (show g < g5 + 1 by omega)).trans (by simp (disch := omega) only [upd_ne])
 have hTn' : ∀ g, Bh t g → g5 + 1 ≤ g := hTn
 repeat' (first | (simp -implicitDefEqProofs [c52, -getElem?_pos, q2, hpl, splice]) | (simp (disch := omega) only [AC]) | (with_reducible first | refine A8 ?_ ?_ ?_ | exact AB | assumption | refine A2 ?_ | refine KM.of ?_ | refine AD ?_ | refine A3 ?_ | refine AI ?_ | refine A6 ?_ | refine AJ ?_ | refine AH ?_ | intro _g _hg | refine AE ?_ ?_ | intro _hc) | omega)
 refine LoopK.go (fun q st => ∃ (j : Nat) (xs : List AV) (z : Nat) (t : Tok) (n3 : Nat) (H3 : A7), j + q = p.length ∧ xs = (ws ++ (EP p).take j).map AV.str ∧ st = ⟨[(1, .mp gm), (5, .ptr g5 0), (6, .sl z xs t), (17, .sl 5 (Ac p) .ro), (18, aI p.length), (19, aI j)], n3, H3⟩ ∧ g5 + 1 ≤ n3 ∧ (∀ k', n3 ≤ k' → H3 k' = none) ∧ SameB n H H3 ∧ H3 g5 = some (Pi ⟨xw, P, fn, cd, n0, n1, vs⟩) ∧ TokT t (ws.length + j) H3 n3 ∧ (t ≠ .nil → z = 1) ∧ ∀ g, Bh t g → g5 + 1 ≤ g) p.length ⟨0, _, z, t, n2, H2, by omega, by simp, rfl, hle2', hsup2, hsame, q5, by simpa using hT, hz, hTn'⟩ ?_
 clear hT hz hTn hTn' q2 q5 hsame hfr2 hsup2 hle2 hle2'
 rintro q st ⟨j, xs, z, t, n2, H2, hj, hxs, rfl, hle2, hsup2, hsame, q5, hT, hz, hTn⟩ J hJ
 have hjl2 : xs.length = ws.length + j := by rw [hxs]; simp [Iq]; omega
 have qm : H2 gm = some (.map (some .i64) sm) := by rw [hsame gm hgmn]; exact hgm
 by_cases hjp : j < p.length
 ·obtain ⟨s, hs⟩ : ∃ s, p[j]? = some s := ⟨_, List.getElem?_eq_getElem hjp⟩
  have hsm2 := List.mem_of_getElem? hs
  have hst := ih s hsm2 (DL hfit.2.2 s hsm2) (Fu hok.2 s hsm2) (KA hsm.2 s hsm2) (by have := EQ s hsm2; omega) gm
  have hse := Fa hs
  have hjp' : (j : Int) < p.length := by omega
  have htk := WZ hs
  obtain ⟨k', o', m', v', p'⟩ := s
  rw [AN] at hst hse
  generalize GS _ = ts at hst htk
  
  repeat' (first | (simp -implicitDefEqProofs [QQ, Vn, Va, -getElem?_pos, hjp', hpl, hse, splice]) | (simp (disch := omega) only [AC]) | (refine Rm (by rw [hjl2]; exact hT.at_ (fun k hk => by have := hT.lt k hk; have := hTn k hk; simp (disch := omega) only [upd_ne]) (by omega)) hz (by rw [hjl2]; omega) (fun k hk => by simp (disch := omega) only [upd_ne]; exact hsup2 k (by omega)) (fun g' n3 H3 a1 a2 a3 a4 a5 a6 => ?_)) | ((with_reducible refine Ae 52 ?_); (refine' CallK.sfAt ?_ ((hst _ _ (by simp (disch := omega) only [upd_ne]; exact qm))) ?_); (focus first | (with_reducible exact A0 _) | (simp [A5, A4, A1, A0]; done))) | (with_reducible first | refine A8 ?_ ?_ ?_ | exact AB | assumption | refine A2 ?_ | refine KM.of ?_ | refine AD ?_ | refine A3 ?_ | refine AI ?_ | refine A6 ?_ | refine AJ ?_ | refine AH ?_ | intro _g _hg | refine AE ?_ ?_ | intro _hc) | omega)
  refine hJ (q - 1) _ (by omega) ⟨j + 1, xs ++ [.str ts], 1, .own g', n3, H3, by omega, by rw [hxs, htk]; simp, by simp, by omega, a6, fun k' hk => ?_, ?_, ⟨by rw [a5, hjl2]; rfl, a3⟩, fun _ => rfl, fun g hg => ?_⟩
  ·rw [a4 k' (by omega) (fun h => by have := hTn k' h; omega)]; simp (disch := omega) only [upd_ne]; exact hsame k' hk
  ·rw [a4 g5 (by omega) (fun h => by have := hTn g5 h; omega)]; simp (disch := omega) only [upd_ne]; exact q5
  ·have e : g = g' := hg
   rcases a1 with h | h
   ·have := hTn g' h; omega
   ·omega
 ·have hjp' : ¬ (j : Int) < p.length := by omega
  have htk : (EP p).take j = EP p := List.take_of_length_le (by rw [Iq]; omega)
  rw [htk] at hxs
  have hz1 : z = 1 ∨ xs = [] := by
   by_cases ht : t = .nil
   ·subst ht
    refine .inr (List.length_eq_zero_iff.1 ?_)
    rw [hjl2]; exact hT
   ·exact .inl (hz ht)
  unfold aSs at hja
  rw [← hxs] at hja
  
  repeat' (first | (simp -implicitDefEqProofs [QQ, Vl, -getElem?_pos, hjp', q5]) | (simp (disch := omega) only [AC]) | ((with_reducible refine A9 83 ?_); refine CallP.of hja (Aa (Fe hz1) (A0 _)) ?_) | (with_reducible first | refine A8 ?_ ?_ ?_ | exact AB | assumption | refine A2 ?_ | refine KM.of ?_ | refine AD ?_ | refine A3 ?_ | refine AI ?_ | refine A6 ?_ | refine AJ ?_ | refine AH ?_ | intro _g _hg | refine AE ?_ ?_ | intro _hc) | omega)
  all_goals exact A1 _
def YA (s : St) : As × (Int × Int) := if (Am s).1 ≠ 0 then ([], Am s) else if 4000 < (GS s).length then ([], (14, -1)) else (GS s, (0, 0))
theorem Yb (s : St) (hf : BK s) : APure Tryz.prog 23 [encS s] (.tup [.str (YA s).1, aF (YA s).2]) := by
 have hv := FU s hf
 have hok := @Az s
 have htx := fun (h : (Am s).1 = 0) => A0s s hf (hok h).2.1 (hok h).2.2.1 (hok h).2.2.2
 unfold YA
 generalize Am s = f at *
 generalize GS s = tx at *
 obtain ⟨k, o, m, v, p⟩ := s
 rw [AN] at *
 by_cases h0 : f.1 = 0
 ·rw [if_neg (fun h => h h0)]
  have htx := htx h0
  have hf0 := (hok h0).1
  by_cases hl : 4000 < tx.length
  ·rw [if_pos hl]
   have hl' : (4000 : Int) < tx.length := by omega
   
   refine AA Tryz.func23 WP rfl fun n H hH => ?_
   repeat' (first | (simp -implicitDefEqProofs [Ns, LO, c23, -getElem?_pos, h0, hl', splice]) | (simp (disch := omega) only [AC]) | ((with_reducible refine Ae 39 ?_); refine ⟨_, Fj _ _, ?_⟩; rintro r n' H' hle hsup ⟨gm, rfl, hg1, rfl, rfl⟩; dsimp only at hg1 hle) | ((with_reducible refine KC.of ?_ ?_); rotate_left 1) | ((with_reducible refine A9 15 ?_); (refine' CallP.sf ?_ (hv) ?_); (focus first | (with_reducible exact A0 _) | (simp [A5, A4, A1, A0]; done))) | ((with_reducible refine Ae 52 ?_); (refine' CallK.sfAt ?_ ((htx _ _ _ (AO _ _ _))) ?_); (focus first | (with_reducible exact A0 _) | (simp [A5, A4, A1, A0]; done))) | (with_reducible first | refine A8 ?_ ?_ ?_ | exact AB | assumption | refine A2 ?_ | refine KM.of ?_ | refine AD ?_ | refine A3 ?_ | refine A6 ?_ | intro _g _hg | refine AE ?_ ?_ | intro _hc) | omega)
   all_goals first | exact A1 _ | exact KeepM.rfl_ _ _ | exact KeepM.new (by simp (disch := omega) only [upd_ne]; exact hH _ (by omega)) | (intro g hg; simp (disch := omega) only [upd_ne])
  ·rw [if_neg hl]
   have hl' : ¬ (4000 : Int) < tx.length := by omega
   
   refine AA Tryz.func23 WP rfl fun n H hH => ?_
   repeat' (first | (simp -implicitDefEqProofs [Ns, LO, c23, -getElem?_pos, h0, hl', splice]) | (simp (disch := omega) only [AC]) | ((with_reducible refine Ae 39 ?_); refine ⟨_, Fj _ _, ?_⟩; rintro r n' H' hle hsup ⟨gm, rfl, hg1, rfl, rfl⟩; dsimp only at hg1 hle) | ((with_reducible refine KC.of ?_ ?_); rotate_left 1) | ((with_reducible refine A9 15 ?_); (refine' CallP.sf ?_ (hv) ?_); (focus first | (with_reducible exact A0 _) | (simp [A5, A4, A1, A0]; done))) | ((with_reducible refine Ae 52 ?_); (refine' CallK.sfAt ?_ ((htx _ _ _ (AO _ _ _))) ?_); (focus first | (with_reducible exact A0 _) | (simp [A5, A4, A1, A0]; done))) | (with_reducible first | refine A8 ?_ ?_ ?_ | exact AB | assumption | refine A2 ?_ | refine KM.of ?_ | refine AD ?_ | refine A3 ?_ | refine A6 ?_ | intro _g _hg | refine AE ?_ ?_ | intro _hc) | omega)
   all_goals first | exact A1 _ | exact KeepM.rfl_ _ _ | exact KeepM.new (by simp (disch := omega) only [upd_ne]; exact hH _ (by omega)) | (intro g hg; simp (disch := omega) only [upd_ne])
 ·rw [if_pos h0]
  
  refine AA Tryz.func23 WP rfl fun n H hH => ?_
  repeat' (first | (simp -implicitDefEqProofs [Ns, LO, c23, -getElem?_pos, h0, splice]) | (simp (disch := omega) only [AC]) | ((with_reducible refine A9 15 ?_); (refine' CallP.sf ?_ (hv) ?_); (focus first | (with_reducible exact A0 _) | (simp [A5, A4, A1, A0]; done))) | (with_reducible first | refine A8 ?_ ?_ ?_ | exact AB | assumption | refine A2 ?_ | refine KM.of ?_ | refine AD ?_ | refine A3 ?_ | refine A6 ?_ | intro _g _hg | refine AE ?_ ?_ | intro _hc) | omega)
  all_goals first | exact A1 _ | (intro g hg; simp (disch := omega) only [upd_ne])
def OI (l : Aw) : List Int := l.map (·.1)
theorem Qu : ∀ (l : Aw) (n : Int), (OI (J1 (Dn 4) n l)).Pairwise (· ≤ ·) ∧ ∀ x ∈ OI (J1 (Dn 4) n l), n ≤ x
 | [], n => by simp [J1, OI]
 | (x, c) :: r, n => by
  obtain ⟨h1, h2⟩ := Qu r (Dn 4 n x)
  have h3 : n ≤ Dn 4 n x := by simp [Dn]; omega
  simp only [J1, OI, List.map_cons, List.pairwise_cons] at h1 h2 ⊢
  refine ⟨⟨h2, h1⟩, fun y hy => ?_⟩
  rcases List.mem_cons.1 hy with rfl | hy
  ·exact h3
  ·exact Int.le_trans h3 (h2 y hy)
theorem EX (fa fb : Ad) : ∀ (a b : Aw), (OI (CG fa fb a b)).Perm (OI a ++ OI b)
 | [], [] => by rw [CG]; exact List.Perm.refl _
 | [], (y, d) :: t => by
  have := EX fa fb [] t
  rw [CG]
  simpa [OI] using this
 | (x, c) :: r, [] => by
  have := EX fa fb r []
  rw [CG]
  simpa [OI] using this
 | (x, c) :: r, (y, d) :: t => by
  rw [CG]
  split
  ·have := EX fa fb r ((y, d) :: t)
   simpa [OI] using this
  ·have := EX fa fb ((x, c) :: r) t
   simp only [OI, List.map_cons] at this ⊢
   exact (List.Perm.cons y this).trans (List.perm_middle (l₁ := x :: r.map (·.1))).symm
 termination_by a b => a.length + b.length
theorem GK (fa fb : Ad) : ∀ (a b : Aw), (OI a).Pairwise (· ≤ ·) → (OI b).Pairwise (· ≤ ·) → (OI (CG fa fb a b)).Pairwise (· ≤ ·)
 | [], [], _, _ => by rw [CG]; simp [OI]
 | [], (y, d) :: t, h, k => by
  simp only [OI, List.map_cons, List.pairwise_cons] at k
  rw [CG]
  simp only [OI, List.map_cons, List.pairwise_cons]
  refine ⟨fun z hz => ?_, GK fa fb [] t h k.2⟩
  have := (EX fa fb [] t).mem_iff.1 hz
  simp [OI] at this
  exact k.1 z (by simpa using this)
 | (x, c) :: r, [], h, k => by
  simp only [OI, List.map_cons, List.pairwise_cons] at h
  rw [CG]
  simp only [OI, List.map_cons, List.pairwise_cons]
  refine ⟨fun z hz => ?_, GK fa fb r [] h.2 k⟩
  have := (EX fa fb r []).mem_iff.1 hz
  simp [OI] at this
  exact h.1 z (by simpa using this)
 | (x, c) :: r, (y, d) :: t, h, k => by
  have h' := h
  have k' := k
  simp only [OI, List.map_cons, List.pairwise_cons] at h k
  rw [CG]
  split
  ·rename_i hxy
   simp only [OI, List.map_cons, List.pairwise_cons]
   refine ⟨fun z hz => ?_, GK fa fb r ((y, d) :: t) h.2 k'⟩
   have := (EX fa fb r ((y, d) :: t)).mem_iff.1 hz
   rcases List.mem_append.1 this with hz | hz
   ·exact h.1 z hz
   ·simp only [OI, List.map_cons, List.mem_cons] at hz
    rcases hz with rfl | hz
    ·exact hxy
    ·exact Int.le_trans hxy (k.1 z hz)
  ·rename_i hxy
   simp only [OI, List.map_cons, List.pairwise_cons]
   refine ⟨fun z hz => ?_, GK fa fb ((x, c) :: r) t h' k.2⟩
   have := (EX fa fb ((x, c) :: r) t).mem_iff.1 hz
   rcases List.mem_append.1 this with hz | hz
   ·simp only [OI, List.map_cons, List.mem_cons] at hz
    rcases hz with rfl | hz
    ·omega
    ·have := h.1 z hz; omega
   ·exact k.1 z hz
 termination_by a b => a.length + b.length
theorem VL {s t : St} (hs : Am s = (0, 0)) (ht : Am t = (0, 0)) (hz : Ah s + Ah t ≤ 55) (hb : AU s + AU t ≤ 5000) :
  Am (AX 9 4 0 s) = (0, 0) ∧ Am (AX 9 4 0 t) = (0, 0) ∧ Am (Aj 16 0 (AX 9 4 0 s) (AX 9 4 0 t)) = (0, 0) ∧
  (GH (AQ (AX 9 4 0 s))).Pairwise (· ≤ ·) ∧ (GH (AQ (AX 9 4 0 t))).Pairwise (· ≤ ·) ∧ (GH (AQ (Aj 16 0 (AX 9 4 0 s) (AX 9 4 0 t)))).Pairwise (· ≤ ·) ∧
  (GH (AQ (Aj 16 0 (AX 9 4 0 s) (AX 9 4 0 t)))).Perm (GH (AQ (AX 9 4 0 s)) ++ GH (AQ (AX 9 4 0 t))) := by
 obtain ⟨_, h1, h2, h3⟩ := Az (s := s) (by rw [hs])
 obtain ⟨_, k1, k2, k3⟩ := Az (s := t) (by rw [ht])
 have one : ∀ x : St, Ar (AX 9 4 0 x) = 0 := fun x => by simp [Ar, Bi, CX, Ea, EZ, I6, Bj, EL, Ai, IK, IS]
 have bnd : ∀ x : St, AU (AX 9 4 0 x) = AU x := fun x => by simp [AU, Df, Bg]
 refine ⟨DY ⟨one s, h1, trivial⟩ ⟨by rw [bnd]; omega, h2, trivial⟩ (by simp [Ah, BL]; omega), DY ⟨one t, k1, trivial⟩ ⟨by rw [bnd]; omega, k2, trivial⟩ (by simp [Ah, BL]; omega),
  DY ⟨by simp [Ar, Bi, CX, Ea, EZ, I6, Bj, EL, Ai], ⟨one s, h1, trivial⟩, ⟨one t, k1, trivial⟩, trivial⟩ ⟨by simp only [AU, Df, Bg]; simp; omega, ⟨by rw [bnd]; omega, h2, trivial⟩, ⟨by rw [bnd]; omega, k2, trivial⟩, trivial⟩ (by simp [Ah, BL]; omega), ?_⟩
 have e : ∀ x : St, AQ (AX 9 4 0 x) = Bq 9 4 0 (AQ x) := fun x => by simp [AQ, Fb, DE]
 have e2 : ∀ x y : St, (AQ (Aj 16 0 x y)).l = CG (AQ x).fin (AQ y).fin (AQ x).l (AQ y).l := fun x y => by simp [AQ, Fb, DE]
 have e3 : ∀ F : Fut, (Bq 9 4 0 F).l = J1 (Dn 4) 0 F.l := fun F => by simp [Bq]
 have p1 := (Qu (AQ s).l 0).1
 have p2 := (Qu (AQ t).l 0).1
 simp only [GH]
 rw [e2, e s, e t, e3, e3]
 exact ⟨p1, p2, GK _ _ _ _ p1 p2, EX _ _ _ _⟩
def Oj (s : St) (m : Int) : AV :=
 if (Am s).1 ≠ 0 then .tup [.sl 1 [] .ro, .sl 1 [] .ro, .bool false, aF (Am s)]
 else if ¬ (0 ≤ m ∧ m ≤ 5000) then .tup [.sl 1 [] .ro, .sl 1 [] .ro, .bool false, aF (4, -2)]
 else .tup [.sl 1 ((((AQ s).l.map (·.1)).take m.toNat).map aI) .ro, .sl 1 ((if m.toNat ≤ (AQ s).l.length then Hp (AQ s) m.toNat else (AQ s).fin).map aI) .ro, .bool (decide ((AQ s).l.length < m.toNat)), aF (0, 0)]
theorem Kx {c d : AV} : A4 (.tup [.sl 0 [] .nil, .sl 0 [] .nil, c, d]) (.tup [.sl 1 [] .ro, .sl 1 [] .ro, c, d]) :=
 ⟨_, rfl, _, _, rfl, ⟨1, [], .ro, rfl, .inl rfl, .inr ⟨rfl, rfl⟩, rfl⟩, _, _, rfl, ⟨1, [], .ro, rfl, .inl rfl, .inr ⟨rfl, rfl⟩, rfl⟩, A0 _⟩
theorem Yc (s : St) (hf : BK s) (m : Int) (h : (Am s).1 ≠ 0 ∨ ¬ (0 ≤ m ∧ m ≤ 5000)) : APure Tryz.prog 18 [encS s, aI m] (Oj s m) := by
 have hv := FU s hf
 unfold Oj
 have h00 : (Am s).1 = 0 → Am s = (0, 0) := fun h => (Az h).1
 generalize AQ s = F
 generalize Am s = f at *
 obtain ⟨k, o, m', v, p⟩ := s
 rw [AN] at *
 generalize v.map aI = va at *
 generalize Ac p = ep at *
 
 refine AA Tryz.func18 ZF rfl fun n H hH => ?_
 by_cases h0 : f.1 = 0
 ·have h2 := h.resolve_left (by simpa using h0)
  have h01 := h00 h0
  rw [if_neg (by simpa using h0), if_pos h2]
  by_cases hm0 : m < 0
  ·repeat' (first | (simp -implicitDefEqProofs [c18, FW, -getElem?_pos, h0, hm0, splice, Kx]) | (simp (disch := omega) only [AC]) | ((with_reducible refine A9 15 ?_); (refine' CallP.sf ?_ (hv) ?_); (focus first | (with_reducible exact A0 _) | (simp [A5, A4, A1, A0]; done))) | (with_reducible first | refine A8 ?_ ?_ ?_ | exact AB | refine SameB.upd ?_ ?_ _ | assumption | refine A2 ?_ | refine KM.of ?_ | refine AD ?_ | refine A3 ?_ | refine AI ?_ | refine A6 ?_ | refine AJ ?_ | refine AH ?_ | intro _g _hg | refine AE ?_ ?_ | intro _hc) | omega)
   all_goals first | exact Kx | omega
  ·have hm1 : (5000 : Int) < m := by omega
   repeat' (first | (simp -implicitDefEqProofs [c18, FW, -getElem?_pos, h0, hm0, hm1, splice, Kx]) | (simp (disch := omega) only [AC]) | ((with_reducible refine A9 15 ?_); (refine' CallP.sf ?_ (hv) ?_); (focus first | (with_reducible exact A0 _) | (simp [A5, A4, A1, A0]; done))) | (with_reducible first | refine A8 ?_ ?_ ?_ | exact AB | refine SameB.upd ?_ ?_ _ | assumption | refine A2 ?_ | refine KM.of ?_ | refine AD ?_ | refine A3 ?_ | refine AI ?_ | refine A6 ?_ | refine AJ ?_ | refine AH ?_ | intro _g _hg | refine AE ?_ ?_ | intro _hc) | omega)
   all_goals first | exact Kx | omega
 ·rw [if_pos h0]
  repeat' (first | (simp -implicitDefEqProofs [c18, FW, -getElem?_pos, h0, splice, Kx]) | (simp (disch := omega) only [AC]) | ((with_reducible refine A9 15 ?_); (refine' CallP.sf ?_ (hv) ?_); (focus first | (with_reducible exact A0 _) | (simp [A5, A4, A1, A0]; done))) | (with_reducible first | refine A8 ?_ ?_ ?_ | exact AB | refine SameB.upd ?_ ?_ _ | assumption | refine A2 ?_ | refine KM.of ?_ | refine AD ?_ | refine A3 ?_ | refine AI ?_ | refine A6 ?_ | refine AJ ?_ | refine AH ?_ | intro _g _hg | refine AE ?_ ?_ | intro _hc) | omega)
  all_goals first | exact Kx | omega
theorem Uu (l : List Int) : AZ (l.map aI) = l.map aI := by
 induction l with
 | nil => rfl
 | cons x l ih => simp only [AZ, List.map_cons, List.flatMap_cons] at ih ⊢; rw [ih]; rfl
theorem Wd (s : St) (hf : BK s) (hs0 : (Am s).1 = 0) (m : Nat) (hm : m ≤ 5000) (n : Nat) (H : A7) : ACalls Tryz.prog 18 [encS s, aI m] n H (ZM n H (((AQ s).l.map (·.1)).take m) (if m ≤ (AQ s).l.length then Hp (AQ s) m else (AQ s).fin) (decide ((AQ s).l.length < m))) := by
 have hv := FU s hf
 obtain ⟨h00, hok, hsm, hsz⟩ := Az hs0
 have hop := Zd s hf hok hsm hsz
 have hmon := Qm s
 rw [h00] at hv
 unfold SW at hop
 generalize hR : ZM _ _ _ _ _ = R
 generalize Ah s = sz at *
 generalize AQ s = F at *
 obtain ⟨k, o, m', v, p⟩ := s
 rw [AN] at *
 generalize v.map aI = va at *
 generalize Ac p = ep at *
 have hm0 : ¬ (m : Int) < 0 := by omega
 have hm1 : ¬ (5000 : Int) < m := by omega
 refine AF Tryz.func18 ZF rfl fun hs => ?_
 repeat' (first | (simp -implicitDefEqProofs [c18, FW, Ix, -getElem?_pos, hm0, hm1, splice]) | (simp (disch := omega) only [AC]) | ((with_reducible refine Ae 43 ?_); refine ⟨_, hop _g _ _ [] none (by simp; omega) ⟨rfl, by simp (disch := omega) only [upd_ne, AO] <;> rfl⟩, ?_⟩; rintro r n' H' hle hsup hpost) | ((with_reducible refine A9 15 ?_); (refine' CallP.sf ?_ (hv) ?_); (focus first | (with_reducible exact A0 _) | (simp [A5, A4, A1, A0]; done))) | (with_reducible first | refine A8 ?_ ?_ ?_ | exact AB | assumption | refine A2 ?_ | refine KM.of ?_ | refine AD ?_ | refine A3 ?_ | refine AI ?_ | refine A6 ?_ | refine AJ ?_ | refine AH ?_ | intro _g _hg | refine AE ?_ ?_ | intro _hc) | omega)
 rename_i ga hga g7 hg7 g8 hg8
 dsimp only at hpost
 obtain ⟨h1, h2, h3, gg, h4, h5, h6, h7, O', h8, h9, h10⟩ := hpost
 have hgg : _g + 1 ≤ gg := h5.resolve_left (fun e => by cases e)
 have hou : ∀ g, OU [⟨r, some F.l, F.cur, F.fin, O'⟩] g ↔ O' g := fun g => by simp [OU]
 have hlo : ∀ k, k < _g + 1 → k ≠ _g → H' k = _ := fun k a1 a2 => h7 k a1 a2 (by simp)
 refine X5 (n := n) hm h1 (O := O') ⟨⟨⟨h10, hmon.1⟩, fun g hg => (h8 g hg).2, fun g _ h => h, trivial⟩, ⟨by simpa using h4.1, by simpa using h4.2, by simp [AP], by simp [AP]⟩, fun h => h9 ((hou gg).1 h), fun h => by have := h8 _g ((hou _g).1 h); omega, h3⟩ (by omega) (by omega) (by omega) (fun g hg => by have := h8 g ((hou g).1 hg); omega) (fun k hk => by rw [hlo k (by omega) (by omega)]; simp (disch := omega) only [upd_ne]) ⟨fun h => by have := h8 g7 ((hou g7).1 h); omega, by omega, by omega, by rw [hlo g7 (by omega) (by omega)]; simp (disch := omega) only [upd_ne, AO] <;> rfl⟩ (by omega) (by omega) hR.symm rfl
theorem Ws (s : St) (hf : BK s) (m : Int) : APure Tryz.prog 18 [encS s, aI m] (Oj s m) := by
 by_cases h : (Am s).1 ≠ 0 ∨ ¬ (0 ≤ m ∧ m ≤ 5000)
 ·exact Yc s hf m h
 ·have hs0 : (Am s).1 = 0 := Decidable.not_not.1 fun h' => h (.inl h')
  have hm : 0 ≤ m ∧ m ≤ 5000 := Decidable.not_not.1 fun h' => h (.inr h')
  obtain ⟨j, rfl⟩ : ∃ j : Nat, m = j := ⟨m.toNat, by omega⟩
  intro n H
  have hv : Oj s j = .tup [.sl 1 ((((AQ s).l.map (·.1)).take j).map aI) .ro, .sl 1 ((if j ≤ (AQ s).l.length then Hp (AQ s) j else (AQ s).fin).map aI) .ro, .bool (decide ((AQ s).l.length < j)), aF (0, 0)] := by
   rw [Oj, if_neg (by simpa using hs0), if_neg (by simpa using hm), Int.toNat_natCast]
  rw [hv]
  generalize hcs : (if j ≤ (AQ s).l.length then Hp (AQ s) j else (AQ s).fin) = cs
  have h1 := Wd s hf hs0 j (by omega) n H
  rw [hcs] at h1
  refine (ACalls.frz (R' := fun r n' H' => n ≤ n' ∧ SameB n H H' ∧ r = .tup [.sl 1 ((((AQ s).l.map (·.1)).take j).map aI) .ro, .sl 1 (cs.map aI) .ro, .bool (decide ((AQ s).l.length < j)), aF (0, 0)]) h1 ?_).forget ?_
  ·rintro r n' H' hn ⟨h1, h2, h3, gg, h4, h5, rfl⟩
   refine ⟨gg, _, 1, cs.map aI, by rw [h5, Uu], by kernel_rfl, by omega, fun x hx => ?_, h1, fun k hk => by rw [upd_ne (by omega)]; exact h3 k hk, ?_⟩
   ·obtain ⟨y, _, rfl⟩ := List.mem_map.1 hx; rfl
   ·simp [OZ, Qt]
  ·rintro r n' H' hn ⟨h1, h2, rfl⟩
   exact ⟨h2, rfl, rfl, rfl⟩
theorem MS (a b : List Int) (ha : a.length ≤ 140737488355328) : APure Tryz.prog 22 [.sl 1 (a.map aI) .ro, .sl 1 (b.map aI) .ro] (.bool (decide (a = b))) := by
 have hal : (a.map aI).length = a.length := by simp
 have hbl : (b.map aI).length = b.length := by simp
 by_cases hl : a.length = b.length
 ·have hl' : (a.length : Int) = b.length := by omega
  
  refine AA Tryz.func22 Z8 rfl fun n H hH => ?_
  repeat' (first | (simp -implicitDefEqProofs [c22, H7, HV, HG, HH, HX, c22, -getElem?_pos, hal, hbl, hl, hl']) | (simp (disch := omega) only [AC]) | (with_reducible first | refine A8 ?_ ?_ ?_ | exact AB | refine SameB.upd ?_ ?_ _ | assumption | refine A2 ?_ | refine KM.of ?_ | refine AD ?_ | intro _g _hg | refine AE ?_ ?_ | intro _hc) | omega)
  refine LoopK.go (fun r st => ∃ j : Nat, j + r = a.length ∧ st = ⟨[(0, .sl 1 (a.map aI) .ro), (1, .sl 1 (b.map aI) .ro), (5, aI j)], n, H⟩ ∧ a.take j = b.take j) a.length ⟨0, by omega, rfl, rfl⟩ ?_
  rintro r st ⟨j, hj, rfl, hE⟩ J hJ
  by_cases hjl : j < a.length
  ·obtain ⟨x, hx⟩ : ∃ x, a[j]? = some x := ⟨_, List.getElem?_eq_getElem hjl⟩
   obtain ⟨y, hy⟩ : ∃ y, b[j]? = some y := ⟨_, List.getElem?_eq_getElem (by omega)⟩
   have hxa := ET (f := aI) hx
   have hya := ET (f := aI) hy
   have hjl' : (j : Int) < a.length := by omega
   by_cases hxy : x = y
   ·subst hxy
    have hE2 : a.take (j + 1) = b.take (j + 1) := by rw [List.take_succ, List.take_succ, hE, hx, hy]
    generalize a.map aI = aa at *
    generalize b.map aI = ba at *
    
    repeat' (first | (simp -implicitDefEqProofs [H7, HV, HG, HH, HX, c22, -getElem?_pos, hal, hbl, hl, hl', hxa, hya, hjl']) | (simp (disch := omega) only [AC]) | (with_reducible first | refine A8 ?_ ?_ ?_ | exact AB | refine SameB.upd ?_ ?_ _ | assumption | refine A2 ?_ | refine KM.of ?_ | refine AD ?_ | intro _g _hg | refine AE ?_ ?_ | intro _hc) | omega)
    exact hJ (r - 1) _ (by omega) ⟨j + 1, by omega, rfl, hE2⟩
   ·have hne : ¬ a = b := fun e => by subst e; rw [hx] at hy; injection hy with hy; exact hxy hy
    rw [decide_eq_false hne]
    generalize a.map aI = aa at *
    generalize b.map aI = ba at *
    
    repeat' (first | (simp -implicitDefEqProofs [H7, HV, HG, HH, HX, c22, -getElem?_pos, hal, hbl, hl, hl', hxa, hya, hjl', hxy, A4]) | (simp (disch := omega) only [AC]) | (with_reducible first | refine A8 ?_ ?_ ?_ | exact AB | refine SameB.upd ?_ ?_ _ | assumption | refine A2 ?_ | refine KM.of ?_ | refine AD ?_ | intro _g _hg | refine AE ?_ ?_ | intro _hc) | omega)
  ·have hjl' : ¬ (j : Int) < a.length := by omega
   rw [List.take_of_length_le (by omega), List.take_of_length_le (by omega)] at hE
   rw [decide_eq_true hE]
   generalize a.map aI = aa at *
   generalize b.map aI = ba at *
   
   repeat' (first | (simp -implicitDefEqProofs [H7, HV, HG, HH, HX, c22, -getElem?_pos, hal, hbl, hl, hl', hjl', A4]) | (simp (disch := omega) only [AC]) | (with_reducible first | refine A8 ?_ ?_ ?_ | exact AB | refine SameB.upd ?_ ?_ _ | assumption | refine A2 ?_ | refine KM.of ?_ | refine AD ?_ | intro _g _hg | refine AE ?_ ?_ | intro _hc) | omega)
 ·have hl' : ¬ (a.length : Int) = b.length := by omega
  have hne : ¬ a = b := fun e => hl (by rw [e])
  rw [decide_eq_false hne]
  generalize a.map aI = aa at *
  generalize b.map aI = ba at *
  
  refine AA Tryz.func22 Z8 rfl fun n H hH => ?_
  repeat' (first | (simp -implicitDefEqProofs [H7, HV, HG, HH, HX, c22, -getElem?_pos, hal, hbl, hl, hl', A4]) | (simp (disch := omega) only [AC]) | (with_reducible first | refine A8 ?_ ?_ ?_ | exact AB | refine SameB.upd ?_ ?_ _ | assumption | refine A2 ?_ | refine KM.of ?_ | refine AD ?_ | intro _g _hg | refine AE ?_ ?_ | intro _hc) | omega)
theorem K4 (s : St) : BK s → Ah s ≤ 1000 → APure Tryz.prog 31 [encS s] (aI (Ah s : Nat)) := by
 refine St.ind (Q := fun s => BK s → Ah s ≤ 1000 → APure Tryz.prog 31 [encS s] (aI (Ah s : Nat))) ?_ s
 intro k o m v p ih hf hsz
 obtain ⟨hv, hp, hpp⟩ := hf
 have hss : Ah (.mk k o m v p) = BL p + 1 := by simp [Ah]
 rw [hss] at hsz ⊢
 have hpl := BM p
 have hp60 := EO p
 rw [AN]
 generalize hnx : ((BL p + 1 : Nat) : Int) = nx
 
 refine AA Tryz.func31 A19 rfl fun n H hH => ?_
 repeat' (first | (simp -implicitDefEqProofs [c31, Lv, Lw, NW, LF, c31, -getElem?_pos]) | (simp (disch := omega) only [AC]) | (with_reducible first | refine A8 ?_ ?_ ?_ | exact AB | refine SameB.upd ?_ ?_ _ | assumption | refine A2 ?_ | refine KM.of ?_ | refine AD ?_ | refine A3 ?_ | refine A6 ?_ | intro _g _hg | refine AE ?_ ?_ | intro _hc) | omega)
 refine LoopK.go (fun r st => ∃ (j c n2 : Nat) (H2 : A7), j + r = p.length ∧ st = ⟨[(1, .ptr _g 0), (3, aI c), (4, aI j)], n2, H2⟩ ∧ _g < n2 ∧ c + BL (p.drop j) = BL p + 1 ∧ SameB n H H2 ∧ H2 _g = some (Ab k o m (.sl 1 (v.map aI) .ro) (.sl 5 (Ac p) .ro))) p.length ⟨0, 1, _, _, by omega, by simp; exact ⟨rfl, rfl⟩, by omega, by simp; omega, (fun k hk => by simp (disch := omega) only [upd_ne]), AO _ _ _⟩ ?_
 rintro r st ⟨j, c, n2, H2, hj, rfl, hn2, hcs, hsame, q1⟩ J hJ
 by_cases hjl : j < p.length
 ·obtain ⟨x, hx'⟩ : ∃ x, p[j]? = some x := ⟨_, List.getElem?_eq_getElem hjl⟩
  have hxm := List.mem_of_getElem? hx'
  have hsm := EQ x hxm
  rw [RR hx'] at hcs
  have hst := ih x hxm (DL hpp x hxm) (by omega)
  have hxe := Fa hx'
  have hxf := BG x
  have hjl' : (j : Int) < p.length := by omega
  generalize hsx : Ah x = sx at *
  obtain ⟨k', o', m', v', p'⟩ := x
  rw [AN] at hst hxe hxf
  generalize Ac p = ep at *
  generalize Ac p' = ep' at *
  generalize v'.map aI = ev' at *
  
  repeat' (first | (simp -implicitDefEqProofs [Lv, Lw, NW, LF, c31, -getElem?_pos, q1, hpl, hjl', hxe, splice]) | (simp (disch := omega) only [AC]) | ((with_reducible refine A9 31 ?_); (refine' CallP.sf ?_ (hst) ?_); (focus first | (with_reducible exact A0 _) | (simp [A5, A4, A1, A0]; done))) | (with_reducible first | refine A8 ?_ ?_ ?_ | exact AB | refine SameB.upd ?_ ?_ _ | assumption | refine A2 ?_ | refine KM.of ?_ | refine AD ?_ | refine A3 ?_ | refine A6 ?_ | intro _g _hg | refine AE ?_ ?_ | intro _hc) | omega)
  exact hJ (r - 1) _ (by omega) ⟨j + 1, c + sx, _, _, by omega, rfl, hn2, by omega, hsame, q1⟩
 ·have hjl' : ¬ (j : Int) < p.length := by omega
  rw [List.drop_eq_nil_of_le (by omega), BL] at hcs
  have e1 : nx = c := by omega
  subst e1
  generalize Ac p = ep at *
  
  repeat' (first | (simp -implicitDefEqProofs [Lv, Lw, NW, LF, c31, -getElem?_pos, q1, hpl, hjl', A4, A5]) | (simp (disch := omega) only [AC]) | (with_reducible first | refine A8 ?_ ?_ ?_ | exact AB | refine SameB.upd ?_ ?_ _ | assumption | refine A2 ?_ | refine KM.of ?_ | refine AD ?_ | refine A3 ?_ | refine A6 ?_ | intro _g _hg | refine AE ?_ ?_ | intro _hc) | omega)
  all_goals first | exact hsame | omega
abbrev tx0 : As := [116, 97, 107, 101, 40, 50, 44, 102, 105, 108, 116, 101, 114, 40, 100, 105, 118, 105, 115, 105, 98, 108, 101, 32, 51, 44, 114, 97, 110, 103, 101, 40, 49, 44, 49, 48, 48, 44, 49, 41, 41, 41]
abbrev tx1 : As := [114, 97, 110, 103, 101, 40, 48, 44, 51, 44, 49, 41]
def s0 : St := .mk 5 0 2 [] [.mk 4 3 3 [] [.mk 2 0 0 [1, 100, 1] []]]
def WQ (n : Int) : St := .mk 2 0 0 [0, n, 1] []
theorem Za : YB tx0 = (s0, (0, 0)) := by kernel_rfl
theorem A0m : Oj s0 5 = .tup [.sl 1 ([3, 6].map aI) .ro, .sl 1 ([6].map aI) .ro, .bool true, aF (0, 0)] := by kernel_rfl
theorem A0e : Xw s0 = .tup [aI 2, aF (0, 0)] := by kernel_rfl
theorem A07 : YA (WQ 3) = (tx1, (0, 0)) := by kernel_rfl
theorem SK {z : Nat} {l : List AV} {t : Tok} (hz : z = 5 ∨ l = []) : A4 (.sl z l t) (.sl 5 l .ro) := ⟨5, l, .ro, rfl, .inl rfl, hz.imp Eq.symm (fun h => ⟨h, rfl⟩), A0 l⟩
theorem Tn (n : Int) : APure Tryz.prog 42 [aI n] (encS (WQ n)) := by
 rw [WQ, AN]
 
 refine AA Tryz.func42 A15 rfl fun n H hH => ?_
 repeat' (first | (simp -implicitDefEqProofs [c42, -getElem?_pos, splice]) | (simp (disch := omega) only [AC]) | (with_reducible first | refine A8 ?_ ?_ ?_ | exact AB | refine SameB.upd ?_ ?_ _ | assumption | refine A2 ?_ | refine KM.of ?_ | refine AD ?_ | refine A3 ?_ | refine AI ?_ | refine A6 ?_ | refine AJ ?_ | refine AH ?_ | intro _g _hg | refine AE ?_ ?_ | intro _hc) | omega)
 all_goals first | exact DK (Aa (A1 _) (Aa (A1 _) (Aa (A1 _) (Aa (Fe (.inl rfl)) (Aa DI (A0 _)))))) | (intro g hg; simp (disch := omega) only [upd_ne])
theorem Fo (k o m : Int) (s : St) : APure Tryz.prog 30 [aI k, aI o, aI m, encS s] (encS (AX k o m s)) := by
 rw [AX, AN, Ac, Ac]
 obtain ⟨k', o', m', v', p'⟩ := s
 rw [AN]
 
 refine AA Tryz.func30 A2j rfl fun n H hH => ?_
 repeat' (first | (simp -implicitDefEqProofs [c30, -getElem?_pos, splice]) | (simp (disch := omega) only [AC]) | (with_reducible first | refine A8 ?_ ?_ ?_ | exact AB | refine SameB.upd ?_ ?_ _ | assumption | refine A2 ?_ | refine KM.of ?_ | refine AD ?_ | refine A3 ?_ | refine AI ?_ | refine A6 ?_ | refine AJ ?_ | refine AH ?_ | intro _g _hg | refine AE ?_ ?_ | intro _hc) | omega)
 all_goals first | exact DK (Aa (A1 _) (Aa (A1 _) (Aa (A1 _) (Aa DI (Aa (SK (.inl rfl)) (A0 _)))))) | (intro g hg; simp (disch := omega) only [upd_ne])
theorem JC (k o : Int) (s t : St) : APure Tryz.prog 29 [aI k, aI o, encS s, encS t] (encS (Aj k o s t)) := by
 rw [Aj, AN, Ac, Ac, Ac]
 obtain ⟨k', o', m', v', p'⟩ := s
 obtain ⟨k2, o2, m2, v2, p2⟩ := t
 rw [AN, AN]
 
 refine AA Tryz.func29 A2g rfl fun n H hH => ?_
 repeat' (first | (simp -implicitDefEqProofs [c29, -getElem?_pos, splice]) | (simp (disch := omega) only [AC]) | (with_reducible first | refine A8 ?_ ?_ ?_ | exact AB | refine SameB.upd ?_ ?_ _ | assumption | refine A2 ?_ | refine KM.of ?_ | refine AD ?_ | refine A3 ?_ | refine AI ?_ | refine A6 ?_ | refine AJ ?_ | refine AH ?_ | intro _g _hg | refine AE ?_ ?_ | intro _hc) | omega)
 all_goals first | exact DK (Aa (A1 _) (Aa (A1 _) (Aa (A1 _) (Aa DI (Aa (SK (.inl rfl)) (A0 _)))))) | (intro g hg; simp (disch := omega) only [upd_ne])
def KF (s : St) : List Int × Bool := if (Am s).1 = 0 then (GH (AQ s), true) else ([], false)
theorem C9 (s : St) (hf : BK s) : APure Tryz.prog 28 [encS s] (.tup [.sl 1 ((KF s).1.map aI) .ro, .bool (KF s).2]) := by
 have hr : ∃ cs e, Oj s 5000 = .tup [.sl 1 ((KF s).1.map aI) .ro, .sl 1 cs .ro, .bool e, aF (Am s)] := by
  unfold Oj KF
  by_cases h0 : (Am s).1 = 0
  ·obtain ⟨h1, h2, h3, _⟩ := Az h0
   have h5 : (AQ s).l.length ≤ 5000 := by
    have := (Gr s h2).1
    obtain ⟨k, o, m, v, p⟩ := s
    have := h3.1
    omega
   rw [if_neg (fun h => h h0), if_neg (by decide), if_pos h0]
   have e1 : ((AQ s).l.map (·.1)).take (5000 : Int).toNat = GH (AQ s) := List.take_of_length_le (by simpa using h5)
   rw [e1, h1]
   exact ⟨_, _, rfl⟩
  ·rw [if_pos h0, if_neg h0]
   exact ⟨_, _, rfl⟩
 obtain ⟨cs, e, hr⟩ := hr
 have hrun := Ws s hf 5000
 rw [hr] at hrun
 have h2 : (KF s).2 = decide ((Am s).1 = 0) := by unfold KF; split <;> simp [*]
 rw [h2]
 generalize (KF s).1 = xs at *
 generalize Am s = f at *
 obtain ⟨k, o, m, v, p⟩ := s
 rw [AN] at *
 by_cases h0 : f.1 = 0
 ·rw [decide_eq_true h0]
  
  refine AA Tryz.func28 ZA rfl fun n H hH => ?_
  repeat' (first | (simp -implicitDefEqProofs [c28, -getElem?_pos, h0, splice]) | (simp (disch := omega) only [AC]) | ((with_reducible refine A9 18 ?_); (refine' CallP.sf ?_ (hrun) ?_); (focus first | (with_reducible exact A0 _) | (simp [A5, A4, A1, A0]; done))) | (with_reducible first | refine A8 ?_ ?_ ?_ | exact AB | assumption | refine A2 ?_ | refine KM.of ?_ | refine AD ?_ | refine A3 ?_ | refine A6 ?_ | intro _g _hg | refine AE ?_ ?_ | intro _hc) | omega)
  all_goals first | exact A1 _ | (intro g hg; simp (disch := omega) only [upd_ne])
 ·rw [decide_eq_false h0]
  have hb : (f.1 == 0) = false := by simpa using h0
  
  refine AA Tryz.func28 ZA rfl fun n H hH => ?_
  repeat' (first | (simp -implicitDefEqProofs [c28, -getElem?_pos, h0, hb, splice]) | (simp (disch := omega) only [AC]) | ((with_reducible refine A9 18 ?_); (refine' CallP.sf ?_ (hrun) ?_); (focus first | (with_reducible exact A0 _) | (simp [A5, A4, A1, A0]; done))) | (with_reducible first | refine A8 ?_ ?_ ?_ | exact AB | assumption | refine A2 ?_ | refine KM.of ?_ | refine AD ?_ | refine A3 ?_ | refine A6 ?_ | intro _g _hg | refine AE ?_ ?_ | intro _hc) | omega)
  all_goals first | exact A1 _ | (intro g hg; simp (disch := omega) only [upd_ne])
theorem GR : APure Tryz.prog 16 [] (.bool true) := by
 have h1 := YS tx0
 have h2 := Ws s0 ⟨by decide, by decide, ⟨by decide, by decide, ⟨by decide, by decide, trivial⟩, trivial⟩, trivial⟩ 5
 have h3 := Tn 3
 have h4 := Yb (WQ 3) ⟨by decide, by decide, trivial⟩
 have h5 := SG s0 ⟨by decide, by decide, ⟨by decide, by decide, ⟨by decide, by decide, trivial⟩, trivial⟩, trivial⟩
 have h6 := MS [3, 6] [3, 6] (by decide)
 have h7 := MS [6] [6] (by decide)
 rw [Za] at h1
 rw [A0m] at h2
 rw [A07] at h4
 rw [A0e] at h5
 rw [decide_eq_true rfl] at h6 h7
 dsimp only at h1 h4
 have hs : ∃ k o m v p, s0 = .mk k o m v p := ⟨_, _, _, _, _, rfl⟩
 have hc : ∃ k o m v p, WQ 3 = .mk k o m v p := ⟨_, _, _, _, _, rfl⟩
 obtain ⟨k, o, m, v, p, hs⟩ := hs
 obtain ⟨k', o', m', v', p', hc⟩ := hc
 rw [hs] at h1 h2 h5
 rw [hc] at h3 h4
 rw [AN] at h1 h2 h3 h4 h5
 
 refine AA Tryz.func16 A1r rfl fun n H hH => ?_
 repeat' (first | (simp -implicitDefEqProofs [c16, -getElem?_pos, splice]) | (simp (disch := omega) only [AC]) | ((with_reducible refine A9 22 ?_); refine CallP.of h6 (Aa (A1 _) (Aa (Fe (.inl rfl)) (A0 _))) ?_) | ((with_reducible refine A9 22 ?_); refine CallP.of h7 (Aa (A1 _) (Aa (Fe (.inl rfl)) (A0 _))) ?_) | ((with_reducible refine A9 25 ?_); (refine' CallP.sf ?_ (h1) ?_); (focus first | (with_reducible exact A0 _) | (simp [A5, A4, A1, A0]; done) | ((repeat (first | (with_reducible exact A1 _) | (exact simL_nil0) | (refine Aa ?_ ?_) | (exact DI) | (refine simA_sl0 ?_) | (refine DK ?_))); done))) | ((with_reducible refine A9 18 ?_); (refine' CallP.sf ?_ (h2) ?_); (focus first | (with_reducible exact A0 _) | (simp [A5, A4, A1, A0]; done) | ((repeat (first | (with_reducible exact A1 _) | (exact simL_nil0) | (refine Aa ?_ ?_) | (exact DI) | (refine simA_sl0 ?_) | (refine DK ?_))); done))) | ((with_reducible refine A9 42 ?_); (refine' CallP.sf ?_ (h3) ?_); (focus first | (with_reducible exact A0 _) | (simp [A5, A4, A1, A0]; done) | ((repeat (first | (with_reducible exact A1 _) | (exact simL_nil0) | (refine Aa ?_ ?_) | (exact DI) | (refine simA_sl0 ?_) | (refine DK ?_))); done))) | ((with_reducible refine A9 23 ?_); (refine' CallP.sf ?_ (h4) ?_); (focus first | (with_reducible exact A0 _) | (simp [A5, A4, A1, A0]; done) | ((repeat (first | (with_reducible exact A1 _) | (exact simL_nil0) | (refine Aa ?_ ?_) | (exact DI) | (refine simA_sl0 ?_) | (refine DK ?_))); done))) | ((with_reducible refine A9 13 ?_); (refine' CallP.sf ?_ (h5) ?_); (focus first | (with_reducible exact A0 _) | (simp [A5, A4, A1, A0]; done) | ((repeat (first | (with_reducible exact A1 _) | (exact simL_nil0) | (refine Aa ?_ ?_) | (exact DI) | (refine simA_sl0 ?_) | (refine DK ?_))); done))) | (with_reducible first | refine A8 ?_ ?_ ?_ | exact AB | refine SameB.upd ?_ ?_ _ | assumption | refine A2 ?_ | refine KM.of ?_ | refine AD ?_ | refine A3 ?_ | refine AI ?_ | refine A6 ?_ | refine AJ ?_ | refine AH ?_ | intro _g _hg | refine AE ?_ ?_ | intro _hc) | omega)
 all_goals exact A1 _
theorem UU : ∀ {l : List Int}, l.Pairwise (· ≤ ·) → ∀ {i : Nat} {x y : Int}, l[i]? = some x → l[i + 1]? = some y → x ≤ y
 | [], _, i, x, y, h, _ => by simp at h
 | a :: r, hp, 0, x, y, h, k => by
  simp at h; subst h
  exact (List.pairwise_cons.1 hp).1 y (List.mem_of_getElem? (by simpa using k))
 | a :: r, hp, i + 1, x, y, h, k => UU (List.pairwise_cons.1 hp).2 (i := i) (by simpa using h) (by simpa using k)
theorem Hs (l : List Int) (hl : l.length ≤ 140737488355328) (hp : l.Pairwise (· ≤ ·)) : APure Tryz.prog 32 [.sl 1 (l.map aI) .ro] (.bool true) := by
 have hll : (l.map aI).length = l.length := by simp
 
 refine AA Tryz.func32 A1a rfl fun n H hH => ?_
 repeat' (first | (simp -implicitDefEqProofs [c32, -getElem?_pos, hll]) | (simp (disch := omega) only [AC]) | (with_reducible first | refine A8 ?_ ?_ ?_ | exact AB | assumption | refine A2 ?_ | refine KM.of ?_ | refine AD ?_ | intro _g _hg | refine AE ?_ ?_ | intro _hc) | omega)
 refine LoopK.go (fun q st => ∃ j : Nat, j + q = l.length + 1 ∧ st = ⟨[(0, .sl 1 (l.map aI) .ro), (3, aI ((j : Int) + 1))], n, H⟩) (l.length + 1) ⟨0, by omega, rfl⟩ ?_
 rintro q st ⟨j, hj, rfl⟩ J hJ
 by_cases hjl : j + 1 < l.length
 ·obtain ⟨x, hx⟩ : ∃ x, l[j]? = some x := ⟨_, List.getElem?_eq_getElem (by omega)⟩
  obtain ⟨y, hy⟩ : ∃ y, l[j + 1]? = some y := ⟨_, List.getElem?_eq_getElem hjl⟩
  have hxy := UU hp hx hy
  have hxa := ET (f := aI) hx
  have hya := ET (f := aI) hy
  have hjl' : (j : Int) + 1 < l.length := by omega
  have e1 : ((j : Int) + 1).toNat = j + 1 := by omega
  have e2 : (j : Int) + 1 - 1 = j := by omega
  have h3 : ¬ y < x := by omega
  have h4 : (0 : Int) ≤ (j : Int) + 1 := by omega
  have h5 : (j : Int) < l.length := by omega
  
  repeat' (first | (simp -implicitDefEqProofs [Q5, Q4, QA, Pw, c32, -getElem?_pos, hll, hjl', hx, hy, e1, e2, h3, h4, h5]) | (simp (disch := omega) only [AC]) | (with_reducible first | refine A8 ?_ ?_ ?_ | exact AB | assumption | refine A2 ?_ | refine KM.of ?_ | refine AD ?_ | intro _g _hg | refine AE ?_ ?_ | intro _hc) | omega)
  exact hJ (q - 1) _ (by omega) ⟨j + 1, by omega, rfl⟩
 ·have hjl' : ¬ (j : Int) + 1 < l.length := by omega
  
  repeat' (first | (simp -implicitDefEqProofs [Q5, Q4, QA, Pw, c32, -getElem?_pos, hll, hjl']) | (simp (disch := omega) only [AC]) | (with_reducible first | refine A8 ?_ ?_ ?_ | exact AB | assumption | refine A2 ?_ | refine KM.of ?_ | refine AD ?_ | intro _g _hg | refine AE ?_ ?_ | intro _hc) | omega)
  all_goals first | exact A1 _ | exact AB
theorem Qz (l : List Int) (x : Int) (hl : l.length ≤ 140737488355328) : APure Tryz.prog 33 [.sl 1 (l.map aI) .ro, aI x] (aI (l.count x : Nat)) := by
 have hll : (l.map aI).length = l.length := by simp
 
 refine AA Tryz.func33 A1w rfl fun n H hH => ?_
 repeat' (first | (simp -implicitDefEqProofs [c33, -getElem?_pos, hll]) | (simp (disch := omega) only [AC]) | (with_reducible first | refine A8 ?_ ?_ ?_ | exact AB | assumption | refine A2 ?_ | refine KM.of ?_ | refine AD ?_ | intro _g _hg | refine AE ?_ ?_ | intro _hc) | omega)
 refine LoopK.go (fun q st => ∃ j : Nat, j + q = l.length ∧ st = ⟨[(0, .sl 1 (l.map aI) .ro), (1, aI x), (5, aI ((l.take j).count x : Nat)), (6, aI j)], n, H⟩) l.length ⟨0, by omega, by simp⟩ ?_
 rintro q st ⟨j, hj, rfl⟩ J hJ
 by_cases hjl : j < l.length
 ·obtain ⟨y, hy⟩ : ∃ y, l[j]? = some y := ⟨_, List.getElem?_eq_getElem hjl⟩
  have hya := ET (f := aI) hy
  have hjl' : (j : Int) < l.length := by omega
  have htk : l.take (j + 1) = l.take j ++ [y] := by rw [List.take_add_one, hy]; rfl
  have hcl : (l.take j).count x ≤ l.length := Nat.le_trans List.count_le_length (by simp; omega)
  by_cases hyx : y = x
  ·have e1 : (l.take (j + 1)).count x = (l.take j).count x + 1 := by rw [htk, List.count_append, hyx]; simp
   generalize (l.take j).count x = c at *
   
   repeat' (first | (simp -implicitDefEqProofs [LD, Nu, Nm, Ku, c33, -getElem?_pos, hll, hjl', hya, hyx]) | (simp (disch := omega) only [AC]) | (with_reducible first | refine A8 ?_ ?_ ?_ | exact AB | assumption | refine A2 ?_ | refine KM.of ?_ | refine AD ?_ | intro _g _hg | refine AE ?_ ?_ | intro _hc) | omega)
   exact hJ (q - 1) _ (by omega) ⟨j + 1, by omega, by rw [e1]; rfl⟩
  ·have e1 : (l.take (j + 1)).count x = (l.take j).count x := by rw [htk, List.count_append, List.count_singleton, if_neg (by simpa using hyx)]; rfl
   generalize (l.take j).count x = c at *
   
   repeat' (first | (simp -implicitDefEqProofs [LD, Nu, Nm, Ku, c33, -getElem?_pos, hll, hjl', hya, hyx]) | (simp (disch := omega) only [AC]) | (with_reducible first | refine A8 ?_ ?_ ?_ | exact AB | assumption | refine A2 ?_ | refine KM.of ?_ | refine AD ?_ | intro _g _hg | refine AE ?_ ?_ | intro _hc) | omega)
   exact hJ (q - 1) _ (by omega) ⟨j + 1, by omega, by rw [e1]; rfl⟩
 ·have hjl' : ¬ (j : Int) < l.length := by omega
  rw [List.take_of_length_le (by omega)]
  
  repeat' (first | (simp -implicitDefEqProofs [LD, Nu, Nm, Ku, c33, -getElem?_pos, hll, hjl']) | (simp (disch := omega) only [AC]) | (with_reducible first | refine A8 ?_ ?_ ?_ | exact AB | assumption | refine A2 ?_ | refine KM.of ?_ | refine AD ?_ | intro _g _hg | refine AE ?_ ?_ | intro _hc) | omega)
  all_goals first | exact A1 _ | exact AB
open Go.ChangeShapes Go.WideShapes Go.ChangeAt Go.RowKit Go.Deep
theorem X4 : ownKnob Tryz.prog.godebug = none := by kernel_rfl
theorem Sc : laidOutB Tryz.prog = true := by kernel_rfl
theorem WE {w : World} {v : Value} {x : AV} (h : RepL (Tl w) [v] [x]) : Rep (Tl w) v x := by cases h; assumption
abbrev laidL : List (String × DataW Unit) := Rows.streamsBoundMatchesSpecRow.laid
abbrev A1z : String := Rows.streamsBoundMatchesSpecRow.laid[2].1
abbrev A27 : String := Rows.streamsBoundMatchesSpecRow.laid[6].1
theorem Wq {P : Program} {w : World} {name : String} {d : DataW Unit} {k : IntKind} {zs : List Int} {g t e : Nat} {n : Nat} (h : Lib.VarReads P w name d) (hd : d = Lib.tabData k zs) (hg : P.globalNamed name = some g) (hty : (P.globals[g]?).map (·.type) = some t)
  (ht : P.underlying t = some (.array n e)) (he : P.underlying e = some (.int k)) (hce : P.cellsOf e = 1) (hct : P.cellsOf t = n) : ∃ t fz, w.heap[g]? = some (.cells (zs.map fun z => Value.int k z).toArray t fz) := by
 subst hd
 obtain ⟨g', t', cs, fuel, p, hg', ht', hvar, htr⟩ := h
 obtain rfl := Option.some.inj (hg.symm.trans hg')
 obtain rfl := Option.some.inj (hty.symm.trans ht')
 have hc := Lib.cells_of_tab ht he hce hct htr
 unfold World.var? at hvar
 rw [hg, Option.bind_some] at hvar
 split at hvar
 ·rename_i cs' t2 fz hh
  injection hvar with hvar
  subst hvar
  exact ⟨t2, fz, by rw [hh, ← hc]⟩
 ·cases hvar
theorem XY {P : Program} {w : World} {name nm : String} {d0 d : DataW Unit} {g t : Nat} {ms : Array (String × TypeId)} (h : Lib.VarReads P w name d0) (hd : d0 = .iface nm d) (hg : P.globalNamed name = some g) (hty : (P.globals[g]?).map (·.type) = some t)
  (ht : P.underlying t = some (.interface ms)) : ∃ v, w.cell? ⟨g, 0, none⟩ = some v ∧ (v = .nilIface ∨ ∃ te pe, v = .iface te pe) := by
 subst hd
 obtain ⟨g', t', cs, fuel, p, hg', ht', hvar, htr⟩ := h
 obtain rfl := Option.some.inj (hg.symm.trans hg')
 obtain rfl := Option.some.inj (hty.symm.trans ht')
 obtain ⟨_, u, v, hcs, _, _⟩ := iface_of_trod ht htr
 unfold World.var? at hvar
 rw [hg, Option.bind_some] at hvar
 split at hvar
 ·rename_i cs' t2 fz hh
  injection hvar with hvar
  subst hvar
  refine ⟨.iface u v, ?_, .inr ⟨u, v, rfl⟩⟩
  simp [World.cell?, hh, hcs]
  rw [← Array.getElem?_toList, hcs]; rfl
 ·cases hvar
theorem K8 {w : World} (h : laidMetH Tryz.prog laidL w) : Laid w := by
 rw [MakeChecks.laidMetH_plain _ _ _ (by kernel_rfl)] at h
 exact ⟨Wq (Lib.laidMet.reads h (n := A27) (d := Rows.streamsBoundMatchesSpecRow.laid[6].2) (List.getElem_mem (by decide : 6 < laidL.length))) (by kernel_rfl) (by kernel_rfl) (by kernel_rfl) Tryz.underlying145 Tryz.underlying5 (by kernel_rfl) (by kernel_rfl),
  Wq (Lib.laidMet.reads h (n := A1z) (d := Rows.streamsBoundMatchesSpecRow.laid[2].2) (List.getElem_mem (by decide : 2 < laidL.length))) (by kernel_rfl) (by kernel_rfl) (by kernel_rfl) Tryz.underlying184 Tryz.underlying160 (by kernel_rfl) (by kernel_rfl),
  XY (Lib.laidMet.reads h (n := Rows.streamsBoundMatchesSpecRow.laid[4].1) (d := Rows.streamsBoundMatchesSpecRow.laid[4].2) (List.getElem_mem (by decide : 4 < laidL.length))) (by rfl) (by kernel_rfl) (by kernel_rfl) Tryz.underlying132,
  XY (Lib.laidMet.reads h (n := Rows.streamsBoundMatchesSpecRow.laid[3].1) (d := Rows.streamsBoundMatchesSpecRow.laid[3].2) (List.getElem_mem (by decide : 3 < laidL.length))) (by rfl) (by kernel_rfl) (by kernel_rfl) Tryz.underlying132⟩
noncomputable def BP (os : Os) : World := World.laidAll Tryz.prog os laidL
instance : Inhabited St := ⟨.mk 0 0 0 [] []⟩
section
variable {H : Type} {enc : TypeId × Value → H} {w : World} {base : Nat} {spare : Nat → Bool} {held : Bool} {fuel : Nat}
theorem Zt : Tryz.prog.cellsOf 3 = 1 := by kernel_rfl
theorem Xf : Tryz.prog.cellsOf 25 = 5 := by kernel_rfl
theorem A0j : Tryz.prog.bytesOf 3 = 8 := by kernel_rfl
theorem Zy : Tryz.prog.bytesOf 25 = 72 := by kernel_rfl
theorem Y4 : Tryz.prog.underlying 25 = some (.struct (Tryz.prog.fieldsOf 25)) := by kernel_rfl
theorem fsS : (Tryz.prog.fieldsOf 25).toList.map (fun f => (f.type, f.offset, Tryz.prog.cellsOf f.type)) = [(3, 0, 1), (3, 1, 1), (3, 2, 1), (22, 3, 1), (23, 4, 1)] := by kernel_rfl
theorem JJ {α : Type} {l : List α} (h : l.length = 5) : ∃ a0 a1 a2 a3 a4, l = [a0, a1, a2, a3, a4] := by
 rcases l with _ | ⟨a0, _ | ⟨a1, _ | ⟨a2, _ | ⟨a3, _ | ⟨a4, _ | ⟨a5, l⟩⟩⟩⟩⟩⟩
 ·simp at h
 ·simp at h
 ·simp at h
 ·simp at h
 ·simp at h
 ·exact ⟨a0, a1, a2, a3, a4, rfl⟩
 ·simp at h
theorem Tw {v : Value} {x : DataW H × List MemPlace} (h : DataW.trod enc Tryz.prog w base spare held fuel 22 [v] = some x) : ∃ l : List Int, RepL (Tl w) [v] [Xn l] ∧ ((∀ y ∈ x.1.weights Tryz.prog 22, y ≤ reachBytes) → l.length ≤ 140737488355328) := by
 obtain ⟨l, h1, h2, _⟩ := open_list (P := Tryz.prog) aI (fun _ => True) (fun _ => 0) Tryz.underlying22 Zt (by decide) (fun a => ⟨rfl, fun y hy => by simp [AV.cells] at hy; subst hy; rfl⟩) (fun k cs y _ hy => by
  obtain ⟨n, e, _, _⟩ := DataW.trod_int Tryz.underlying3 hy
  subst e
  exact ⟨n, .cons .int .nil, fun _ => trivial, Nat.zero_le _⟩) h
 refine ⟨l, h1, fun hw => ?_⟩
 have := (h2 hw).1
 rw [A0j] at this
 have hr : reachBytes ≤ 140737488355328 := by decide
 omega
theorem TW {es sp : List (DataW H)} {d : DataW H} (h : d ∈ es) : SizeOf.sizeOf d < SizeOf.sizeOf (DataW.slice es sp) := by
 have := List.sizeOf_lt_of_mem h
 simp only [DataW.slice.sizeOf_spec]; omega
theorem XI {es : List (DataW H)} {d : DataW H} (h : d ∈ es) : SizeOf.sizeOf d < SizeOf.sizeOf (DataW.agg es) := by
 have := List.sizeOf_lt_of_mem h
 simp only [DataW.agg.sizeOf_spec]; omega
theorem S9 {v : Value} {x : DataW H × List MemPlace} (he : ∀ k cs (y : DataW H × List MemPlace), SizeOf.sizeOf y.1 < SizeOf.sizeOf x.1 → DataW.trod enc Tryz.prog w base spare held k 25 cs = some y → ∃ s : St, RepL (Tl w) cs (encS s).cells ∧ ((∀ z ∈ y.1.weights Tryz.prog 25, z ≤ reachBytes) → BK s))
  (h : DataW.trod enc Tryz.prog w base spare held fuel 23 [v] = some x) : ∃ p : List St, Rep (Tl w) v (.sl 5 (Ac p) .ro) ∧ ((∀ z ∈ x.1.weights Tryz.prog 23, z ≤ reachBytes) → p.length ≤ 140737488355328 ∧ Jy p) := by
 obtain ⟨n, k, X, Y, hr, hX, hY⟩ := Ov Tryz.underlying23 Xf (by decide) h
 have hlt : ∀ i, i < n → SizeOf.sizeOf (Y i).1 < SizeOf.sizeOf x.1 := fun i hi => by
  rcases hY with ⟨h0, _⟩ | ⟨sp, h1⟩
  ·omega
  ·rw [h1]; exact TW (List.mem_map.2 ⟨i, List.mem_range.2 hi, rfl⟩)
 obtain ⟨f, hf⟩ := choose_lt (n := n) (p := fun i (s : St) => RepL (Tl w) (X i) (encS s).cells ∧ ((∀ z ∈ (Y i).1.weights Tryz.prog 25, z ≤ reachBytes) → BK s)) (fun i hi => he k (X i) (Y i) (hlt i hi) (hX i hi).2)
 have hlen : (((List.range n).map f).map encS).length = n := by simp
 have hu : ∀ s : St, (encS s).cells.length = 5 ∧ ∀ y ∈ (encS s).cells, y.one = true := fun s => by
  obtain ⟨k, o, m, v, p⟩ := s
  rw [AN]
  refine ⟨rfl, fun y hy => ?_⟩
  simp only [AV.cells, List.mem_cons, List.not_mem_nil, or_false] at hy
  rcases hy with rfl | rfl | rfl | rfl | rfl <;> rfl
 refine ⟨(List.range n).map f, ?_, fun hw => ?_⟩
 ·rw [Jf]
  refine Q0 hr ?_ hlen (by decide) ?_ ?_
  ·rw [List.map_map]
   exact Pz fun i hi => (hf i hi).1
  ·intro y hy
   obtain ⟨a, _, rfl⟩ := List.mem_map.1 hy
   exact (hu a).1
  ·intro y hy
   obtain ⟨z, hz, hy⟩ := List.mem_flatMap.1 hy
   obtain ⟨a, _, rfl⟩ := List.mem_map.1 hz
   exact (hu a).2 y hy
 ·have key : ∀ p : List St, (∀ s ∈ p, BK s) → Jy p := by
   intro p
   induction p with
   | nil => intro _; trivial
   | cons s r ih => intro h; exact ⟨h s List.mem_cons_self, ih fun y hy => h y (List.mem_cons_of_mem _ hy)⟩
  rcases hY with ⟨h0, h1⟩ | ⟨sp, h1⟩
  ·subst h0; exact ⟨by simp, trivial⟩
  ·rw [h1] at hw
   simp only [DataW.weights, Tryz.underlying23, List.mem_cons, List.mem_append, List.length_map, List.length_range] at hw
   refine ⟨?_, key _ fun s hs => ?_⟩
   ·have := hw _ (.inl rfl)
    rw [Zy] at this
    have hr : reachBytes ≤ 140737488355328 := by decide
    simp; omega
   ·obtain ⟨i, hi, rfl⟩ := List.mem_map.1 hs
    have hi' : i < n := List.mem_range.1 hi
    exact (hf i hi').2 fun y hy => hw y (.inr (.inl (OS (List.mem_map.2 ⟨i, hi, rfl⟩) hy)))
set_option maxRecDepth 100000 in
theorem RG : ∀ (N : Nat) {fuel : Nat} {cs : List Value} {x : DataW H × List MemPlace}, SizeOf.sizeOf x.1 ≤ N → DataW.trod enc Tryz.prog w base spare held fuel 25 cs = some x → ∃ s : St, RepL (Tl w) cs (encS s).cells ∧ ((∀ z ∈ x.1.weights Tryz.prog 25, z ≤ reachBytes) → BK s) := by
 intro N
 induction N with
 | zero =>
  intro fuel cs x hN h
  obtain ⟨ys, m, _, hx, _⟩ := DataW.trod_struct Y4 h
  rw [hx] at hN
  simp at hN
 | succ N ih =>
  intro fuel cs x hN h
  obtain ⟨ys, m, _, hx, hcl, hyl, hf⟩ := DataW.trod_struct Y4 h
  have hfs := fsS
  obtain ⟨f0, f1, f2, f3, f4, hq⟩ := JJ (by have := congrArg List.length fsS; simpa using this : (Tryz.prog.fieldsOf 25).toList.length = 5)
  rw [hq] at hfs
  simp only [List.map_cons, List.map_nil, List.cons.injEq, Prod.mk.injEq, and_true] at hfs
  obtain ⟨⟨t0, o0, k0⟩, ⟨t1, o1, k1⟩, ⟨t2, o2, k2⟩, ⟨t3, o3, k3⟩, ⟨t4, o4, k4⟩⟩ := hfs
  have h0 : (Tryz.prog.fieldsOf 25)[0]? = some f0 := by rw [← Array.getElem?_toList, hq]; rfl
  have h1 : (Tryz.prog.fieldsOf 25)[1]? = some f1 := by rw [← Array.getElem?_toList, hq]; rfl
  have h2 : (Tryz.prog.fieldsOf 25)[2]? = some f2 := by rw [← Array.getElem?_toList, hq]; rfl
  have h3 : (Tryz.prog.fieldsOf 25)[3]? = some f3 := by rw [← Array.getElem?_toList, hq]; rfl
  have h4 : (Tryz.prog.fieldsOf 25)[4]? = some f4 := by rw [← Array.getElem?_toList, hq]; rfl
  have hn : (Tryz.prog.fieldsOf 25).size = 5 := by rw [← Array.length_toList, hq]; rfl
  have g0 := hf 0 f0 h0
  rw [k0, o0, t0] at g0
  have g1 := hf 1 f1 h1
  rw [k1, o1, t1] at g1
  have g2 := hf 2 f2 h2
  rw [k2, o2, t2] at g2
  have g3 := hf 3 f3 h3
  rw [k3, o3, t3] at g3
  have g4 := hf 4 f4 h4
  rw [k4, o4, t4] at g4
  rw [hn] at hyl
  obtain ⟨y0, y1, y2, y3, y4, hys⟩ := JJ hyl
  subst hys
  obtain ⟨z0, z1, z2, z3, z4, hz⟩ := JJ (hcl.trans Xf)
  subst hz
  simp only [List.drop, List.take] at g0 g1 g2 g3 g4
  obtain ⟨n0, e0, _, w0⟩ := DataW.trod_int Tryz.underlying3 g0
  simp at e0
  subst e0
  obtain ⟨n1, e1, _, w1⟩ := DataW.trod_int Tryz.underlying3 g1
  simp at e1
  subst e1
  obtain ⟨n2, e2, _, w2⟩ := DataW.trod_int Tryz.underlying3 g2
  simp at e2
  subst e2
  obtain ⟨n3, r3, v3⟩ := Tw g3
  have hy4 : SizeOf.sizeOf y4.1 < SizeOf.sizeOf x.1 := by rw [hx]; exact XI (by simp)
  obtain ⟨n4, r4, v4⟩ := S9 (fun k cs y hy hk => ih (by omega) hk) g4
  refine ⟨.mk n0 n1 n2 n3 n4, ?_, fun hw => ?_⟩
  ·rw [AN]
   exact .cons .int (.cons .int (.cons .int (.cons (WE r3) (.cons r4 .nil))))
  ·rw [hx] at hw
   simp only [DataW.weights, Y4, hq, List.map_cons, List.map_nil, DataW.weightsEach, t0, t1, t2, t3, t4, List.mem_append] at hw
   obtain ⟨a1, a2⟩ := v4 fun z hz => hw z (by simp [hz])
   exact ⟨v3 fun z hz => hw z (by simp [hz]), a1, a2⟩
end
set_option maxRecDepth 100000 in
theorem GQ {H : Type} {enc : TypeId × Value → H} {w : World} {base b0 : Nat} {spare : Nat → Bool} {held : Bool} {r : Reach} {v : Value} {fuel : Nat} {x : DataW H × List MemPlace}
  (hv : Value.okWide Tryz.prog w r b0 25 v) (hf : DataW.trod enc Tryz.prog w base spare held fuel 25 v.cells.toList = some x) : ∃ s : St, Rep (Tl w) v (encS s) ∧ ((∀ z ∈ x.1.weights Tryz.prog 25, z ≤ reachBytes) → BK s) := by
 obtain ⟨cs, rfl, hsz⟩ := okWide_struct Y4 hv
 obtain ⟨s, hs, hw⟩ := RG _ (Nat.le_refl _) hf
 refine ⟨s, ?_, hw⟩
 obtain ⟨k, o, m, l, p⟩ := s
 rw [AN] at hs ⊢
 have h2 : Rep (Tl w) (.agg cs.toList.toArray) (.agg [aI k, aI o, aI m, Xn l, .sl 5 (Ac p) .ro]) := .agg hs (by intro y hy; simp only [List.mem_cons, List.not_mem_nil, or_false] at hy; rcases hy with rfl | rfl | rfl | rfl | rfl <;> rfl)
 simpa only [Array.toArray_toList] using h2
end Go.Proofs.YtjdccdelcnmocaaGreatDoor
