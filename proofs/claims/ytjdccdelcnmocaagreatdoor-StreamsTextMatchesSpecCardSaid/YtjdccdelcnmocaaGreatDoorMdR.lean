/- Streams: the words ahead of the parts; no condition. -/
import Derived.Test.YtjdccdelcnmocaaGreatDoorMgJ
import Derived.Test.YtjdccdelcnmocaaGreatDoorMdQ
import Derived.Test.YtjdccdelcnmocaaGreatDoorMdK
import Derived.Test.YtjdccdelcnmocaaGreatDoorMdL
import Derived.Test.YtjdccdelcnmocaaGreatDoorMdP
import Derived.Test.YtjdccdelcnmocaaGreatDoorAdG
set_option linter.all false
set_option linter.unusedSimpArgs false
set_option linter.unusedVariables false
set_option maxHeartbeats 2000000
namespace Go.Proofs.YtjdccdelcnmocaaGreatDoor
def TokT (t : Tok) (k : Nat) (H : A2) (n : Nat) : Prop := match t with
 | .own g => H g = some (.row 9 k) ∧ g < n
 | .nil => k = 0
 | .ro => False
theorem Ru {t t2 : Tok} {xs : List AV} {x : AV} {z : Nat} {d : Option Nat} {K : AS → Prop} {en : AW} {n : Nat} {H : A2} (h : TokT t xs.length H n) (hz : t ≠ .nil → z = 1) (hl : xs.length ≤ 1000000) (hs : ∀ g, n ≤ g → H g = none)
  (hk : ∀ g' n' H', (Bd t g' ∨ n ≤ g') → n ≤ n' → g' < n' → (∀ k, k < n → ¬ Bd t k → H' k = H k) → H' g' = some (.row 9 (xs.length + 1)) → (∀ k, n' ≤ k → H' k = none) → K ⟨AO en d (.sl 1 (xs ++ [x]) (.own g')), n', H'⟩) :
  appKS 9 1 16 d K ⟨en, n, H⟩ (.sl z xs t) (.sl 1 [x] t2) := by
 match t, h with
 | .nil, h =>
  have h0 : xs = [] := List.length_eq_zero_iff.1 h
  subst h0
  refine ON (by simp) (by simp) (by simp [maxLen]) fun g hg => ?_
  exact hk g (g + 1) _ (.inr hg) (by omega) (by omega) (fun k h1 _ => by rw [upd_ne (by omega)]) (AK _ _ _) (fun k h1 => by rw [upd_ne (by omega)]; exact hs k (by omega))
 | .own g0, h =>
  obtain ⟨h1, h2⟩ := h
  have hz := hz (by simp)
  subst hz
  refine Ga h1 (by simp; omega) (by simp [maxLen]; omega) fun g n' h3 h4 h5 => ?_
  refine hk g n' _ (h3.elim (fun h => .inl h) .inr) h4 h5 (fun k k1 k2 => ?_) (AK _ _ _) (fun k k1 => ?_)
  ·have : k ≠ g0 := k2
   rw [upd_ne (by rcases h3 with h3 | h3 <;> omega), upd_ne this]
  ·rw [upd_ne (by omega), upd_ne (by omega)]; exact hs k (by omega)
theorem TokT.at_ {t : Tok} {k n n1 : Nat} {H H1 : A2} (h : TokT t k H n) (hH : ∀ g, Bd t g → H1 g = H g) (hn : n ≤ n1) : TokT t k H1 n1 := by
 match t, h with
 | .nil, h => exact h
 | .own g, h => exact ⟨(hH g rfl).trans h.1, by have := h.2; omega⟩
theorem TokT.lt {t : Tok} {k n : Nat} {H : A2} (h : TokT t k H n) : ∀ g, Bd t g → g < n := by
 match t, h with
 | .nil, h => exact fun g hg => hg.elim
 | .own k, h => intro g hg; have e : g = k := hg; subst e; exact h.2
def OP (x : Shq) (o : Int) : Ad := if x.fn = true then fnW.getD (o - 1).toNat [] else if x.cd = true then cdW.getD (o - 1).toNat [] else []
theorem UJ (x : Shq) (o : Int) : (OP x o).length ≤ 9 := by
 have key : ∀ (l : List Ad), (∀ y ∈ l, y.length ≤ 9) → ∀ i : Nat, (l.getD i []).length ≤ 9 := fun l h i => by
  rw [List.getD_eq_getElem?_getD]
  cases hi : l[i]? with
  | none => simp
  | some y => exact h y (List.mem_of_getElem? hi)
 unfold OP
 split
 ·exact key _ (by decide) _
 ·split
  ·exact key _ (by decide) _
  ·simp
def BI (k o m : Int) (v : List Int) (x : Shq) : List Ad := if k = 15 then [OP x o] else if OP x o ≠ [] then [OP x o ++ [32] ++ Lib.itoa m] else if 0 < x.n1 then [Lib.itoa m] else v.map Lib.itoa
def A2w (n : Nat) (H : A2) (l : List Ad) : Bi := fun r n' H' => n ≤ n' ∧ (∀ g, n' ≤ g → H' g = none) ∧ SameB n H H' ∧ ∃ z t, r = .sl z (l.map AV.str) t ∧ TokT t l.length H' n' ∧ (t ≠ .nil → z = 1) ∧ ∀ g, Bd t g → n ≤ g
theorem Wn {n g n' : Nat} {H : A2} {w : Ad} {e : AW} (hs : ∀ g, n ≤ g → H g = none) (H1 : A2) (h1 : ∀ k, k < n → H1 k = H k) (hs1 : ∀ k, n' ≤ k → H1 k = none) (hg : n ≤ g) (hgn : g < n') (hr : H1 g = some (.row 9 1)) (he : get e 4 = .sl 1 [.str w] (.own g)) : fin (A2w n H [w]) n [.tmp 4] .ret ⟨e, n', H1⟩ :=
 Au (x := .sl 1 [.str w] (.own g)) (by simp [Bm, EZ, CA, he]) (A6 _) (by omega) hs1 ⟨by omega, hs1, h1, 1, .own g, rfl, ⟨hr, hgn⟩, fun _ => rfl, fun g' hg' => by have e : g' = g := hg'; omega⟩
attribute [local simp] Nr F6 Ej Lh Ke MA LY F0 Eg HW HP NA KJ Mo MQ Ml MY LL L9 N3 KY MH MN Nf Nu T7 pe Ki LQ Kx Ng Kw LB Lq Nv LZ NX Nn LI LF FP Mq Ku Mb Kp N6 MX KD Mg Mh M7 Kg Kl KZ NM LC Lc K9 LN NY NC N7 FB M6 Ei Lt N5 Nc Mx N9 KQ LJ Nt KX NQ MM NU MS L4 Nq MW Lx LE Md LD Mt L3 Ka NO Kf Eu NG Mr MD Lv LR NS NL Mv KO Kb KA NI Ma KH Lr KF N1 Mw LW NK M1 Mp LH Mj L8 LX MR MG Nh N2 LG NN List.mem_cons guardK Df Fh GG HG LO Ek EW FD FE Ep Eb F1 EY FM Mz Me Ew KT KP Nm Mn NF Kz Em Mf Ni N8 Ns KK Kj H8 Ef F8 Ex Ev M5 LU En Ms FI M3 F2 Ey MU Er FJ NP MP Lw LP L1 LT N0 Lm T8 Ji Jj ID Jk Jo Jd EL Gi Ge Ky Gm Gc EK Dd UH JV Jg GZ K4 K2 EI EJ Bv Bb Ck DF AI ev get put I1 AO Dv Lu Ko Lo MZ Nk KI FU part Bo I4 Lf I7 isNil D9 DC FT DW Cu L0 ME My MJ LV K0 MK Km KG Na KN NV Ld NZ MC K8 AV.fits AV.cells ones AV.one FZ D6 FV EV Gp Ff M4 Hg HJ D8 Bm CA EZ Hz AK Bl Vy HI MO M9 List.getElem?_cons_zero List.getElem?_cons_succ El EX FC Nb Lj Mc IJ L6 LM Kv Lp Mk L5 N4 MV KL Kt M2
theorem ZB (k o m : Int) (v : List Int) (p : List St) (x : Shq) (n : Nat) (H : A2) (hfn : x.fn = true → 1 ≤ o ∧ o ≤ 6) (hcd : x.fn = false → x.cd = true → 1 ≤ o ∧ o ≤ 3) (hm : 0 ≤ m ∧ m ≤ 10000) (hv : ∀ y ∈ v, 0 ≤ y ∧ y ≤ 10000) (hvl : v.length ≤ 5000) : ACalls Tryz.prog 82 [encS (.mk k o m v p), Ri x] n H (A2w n H (BI k o m v x)) := by
 have hfa := Q4
 have hca := QZ
 have him := TK m (by omega)
 have hil := Lib.itoa_length_le m (by omega) (by omega)
 obtain ⟨xw, P, fn, cd, n0, n1, vs⟩ := x
 dsimp only at hfn hcd
 unfold BI
 rw [AP]
 generalize hW : A2w n H _ = R
 refine A8 Tryz.func82 A5b rfl fun hs => ?_
 have hk8 : ∀ (g2 g3 : Nat) (e : AW) (w : Ad), n ≤ g2 → g2 < g3 → w = OP ⟨xw, P, fn, cd, n0, n1, vs⟩ o → get e 2 = .ptr g2 0 → get e 3 = .ptr g3 0 → get e 5 = .str w → aw Tryz.prog c82_k8 (fin R n [.tmp 4]) ⟨e, g3 + 1, upd (upd H g2 (some (AY k o m (OO v) (.sl 5 (Ac p) .ro)))) g3 (some (Pn ⟨xw, P, fn, cd, n0, n1, vs⟩))⟩ := by
  intro g2 g3 e w o1 o2 hw e2 e3 e5
  have hwl := UJ ⟨xw, P, fn, cd, n0, n1, vs⟩ o
  rw [← hw] at hW hwl
  have hs1 : ∀ k', g3 + 1 ≤ k' → upd (upd H g2 (some (AY k o m (OO v) (.sl 5 (Ac p) .ro)))) g3 (some (Pn ⟨xw, P, fn, cd, n0, n1, vs⟩)) k' = none := fun k' hk => by simp (disch := omega) only [upd_ne]; exact hs k' (by omega)
  have hf1 : ∀ k', k' < n → upd (upd H g2 (some (AY k o m (OO v) (.sl 5 (Ac p) .ro)))) g3 (some (Pn ⟨xw, P, fn, cd, n0, n1, vs⟩)) k' = H k' := fun k' hk => by simp (disch := omega) only [upd_ne]
  by_cases k15 : k = 15
  ·rw [if_pos k15] at hW
   subst hW k15
   repeat' (first | (simp -implicitDefEqProofs [H5, HT, HV, Fp, Im, IS, Is, IQ, G5, c82, -getElem?_pos, e2, e3, e5]) | (simp (disch := omega) only [AB]) | ((with_reducible refine AN 120 ?_); refine' AQ (him) ?_) | (with_reducible first | refine A5 ?_ ?_ ?_ | exact A7 | assumption | refine A0 ?_ | refine KM.of ?_ | refine AA ?_ | refine A1 ?_ | refine AF ?_ | refine A3 ?_ | refine AG ?_ | refine AE ?_ | intro _g _hg | refine A9 ?_ ?_ | intro _hc) | omega)
   exact Wn hs _ (fun k' hk => by rw [upd_ne (by omega)]; exact hf1 k' hk) (fun k' hk => by rw [upd_ne (by omega)]; exact hs1 k' (by omega)) (by omega) (by omega) (AK _ _ _) rfl
  ·rw [if_neg k15] at hW
   by_cases w0 : w = []
   ·rw [if_neg (by simpa using w0)] at hW
    subst w0
    by_cases h1 : 0 < n1
    ·rw [if_pos h1] at hW
     subst hW
     repeat' (first | (simp -implicitDefEqProofs [H5, HT, HV, Fp, Im, IS, Is, IQ, G5, c82, -getElem?_pos, e2, e3, e5, k15, h1]) | (simp (disch := omega) only [AB]) | ((with_reducible refine AN 120 ?_); refine' AQ (him) ?_) | (with_reducible first | refine A5 ?_ ?_ ?_ | exact A7 | assumption | refine A0 ?_ | refine KM.of ?_ | refine AA ?_ | refine A1 ?_ | refine AF ?_ | refine A3 ?_ | refine AG ?_ | refine AE ?_ | intro _g _hg | refine A9 ?_ ?_ | intro _hc) | omega)
     exact Wn hs _ (fun k' hk => by rw [upd_ne (by omega)]; exact hf1 k' hk) (fun k' hk => by rw [upd_ne (by omega)]; exact hs1 k' (by omega)) (by omega) (by omega) (AK _ _ _) rfl
    ·rw [if_neg h1] at hW
     subst hW
     repeat' (first | (simp -implicitDefEqProofs [H5, HT, HV, Fp, Im, IS, Is, IQ, G5, c82, -getElem?_pos, e2, e3, e5, k15, h1]) | (simp (disch := omega) only [AB]) | ((with_reducible refine AN 120 ?_); refine' AQ (him) ?_) | (with_reducible first | refine A5 ?_ ?_ ?_ | exact A7 | assumption | refine A0 ?_ | refine KM.of ?_ | refine AA ?_ | refine A1 ?_ | refine AF ?_ | refine A3 ?_ | refine AG ?_ | refine AE ?_ | intro _g _hg | refine A9 ?_ ?_ | intro _hc) | omega)
     refine LoopK.go (fun q st => ∃ (j : Nat) (xs : List AV) (z : Nat) (t : Tok) (n2 : Nat) (H2 : A2), j + q = v.length ∧ xs = ((v.take j).map Lib.itoa).map AV.str ∧ st = ⟨[(6, .sl z xs t), (53, OO v), (54, aI v.length), (55, aI j)], n2, H2⟩ ∧ n ≤ n2 ∧ (∀ k', n2 ≤ k' → H2 k' = none) ∧ SameB n H H2 ∧ TokT t j H2 n2 ∧ (t ≠ .nil → z = 1) ∧ ∀ g, Bd t g → n ≤ g) v.length ⟨0, [], 0, .nil, g3 + 1, _, by omega, rfl, rfl, by omega, hs1, hf1, rfl, fun h => absurd rfl h, fun g h => h.elim⟩ ?_
     rintro q st ⟨j, xs, z, t, n2, H2, hj, hxs, rfl, hn2, hs2, hf2, hT, hz, hTn⟩ J hJ
     have hjl2 : xs.length = j := by rw [hxs]; simp; omega
     by_cases hjl : j < v.length
     ·obtain ⟨y, hy⟩ : ∃ y, v[j]? = some y := ⟨_, List.getElem?_eq_getElem hjl⟩
      have hyr := hv y (List.mem_of_getElem? hy)
      have hya := Ho (f := aI) hy
      have hiy := TK y (by omega)
      have hjl' : (j : Int) < v.length := by omega
      have hvm : (v.map aI).length = v.length := by simp
      
      repeat' (first | (simp -implicitDefEqProofs [Fp, HV, HT, -getElem?_pos, hjl', hya, hvm]) | (simp (disch := omega) only [AB]) | (refine Ru (by rw [hjl2]; exact hT.at_ (fun k hk => by have := hT.lt k hk; have := hTn k hk; simp (disch := omega) only [upd_ne]) (by omega)) hz (by rw [hjl2]; omega) (fun k hk => by simp (disch := omega) only [upd_ne]; exact hs2 k (by omega)) (fun g' n3 H3 a1 a2 a3 a4 a5 a6 => ?_)) | ((with_reducible refine AN 120 ?_); refine' AQ (hiy) ?_) | (with_reducible first | refine A5 ?_ ?_ ?_ | exact A7 | assumption | refine A0 ?_ | refine KM.of ?_ | refine AA ?_ | refine A1 ?_ | refine AF ?_ | refine A3 ?_ | refine AG ?_ | refine AE ?_ | intro _g _hg | refine A9 ?_ ?_ | intro _hc) | omega)
      refine hJ (q - 1) _ (by omega) ⟨j + 1, xs ++ [.str (Lib.itoa y)], 1, .own g', n3, H3, by omega, by rw [hxs, List.take_add_one, hy]; simp, rfl, by omega, a6, fun k' hk => ?_, ⟨by rw [← hjl2]; exact a5, a3⟩, fun _ => rfl, fun g hg => ?_⟩
      ·rw [a4 k' (by omega) (fun h => by have := hTn k' h; omega), upd_ne (by omega)]; exact hf2 k' hk
      ·have e : g = g' := hg
       rcases a1 with h | h
       ·have := hTn g' h; omega
       ·omega
     ·have hjl' : ¬ (j : Int) < v.length := by omega
      have htk : v.take j = v := List.take_of_length_le (by omega)
      rw [htk] at hxs
      have hjv : j = v.length := by omega
      subst hjv
      
      repeat' (first | (simp -implicitDefEqProofs [Fp, H5, -getElem?_pos, hjl']) | (simp (disch := omega) only [AB]) | (with_reducible first | refine A5 ?_ ?_ ?_ | exact A7 | assumption | refine A0 ?_ | refine KM.of ?_ | refine AA ?_ | refine A1 ?_ | refine AF ?_ | refine A3 ?_ | refine AG ?_ | refine AE ?_ | intro _g _hg | refine A9 ?_ ?_ | intro _hc) | omega)
      subst hxs
      refine Au (x := .sl z ((v.map Lib.itoa).map AV.str) t) (by simp -implicitDefEqProofs [-getElem?_pos]) (A6 _) (by omega) hs2 ⟨by omega, hs2, hf2, z, t, rfl, by simpa using hT, hz, hTn⟩
   ·rw [if_pos w0] at hW
    subst hW
    repeat' (first | (simp -implicitDefEqProofs [H5, HT, HV, Fp, Im, IS, Is, IQ, G5, c82, -getElem?_pos, e2, e3, e5, k15, w0]) | (simp (disch := omega) only [AB]) | ((with_reducible refine AN 120 ?_); refine' AQ (him) ?_) | (with_reducible first | refine A5 ?_ ?_ ?_ | exact A7 | assumption | refine A0 ?_ | refine KM.of ?_ | refine AA ?_ | refine A1 ?_ | refine AF ?_ | refine A3 ?_ | refine AG ?_ | refine AE ?_ | intro _g _hg | refine A9 ?_ ?_ | intro _hc) | omega)
    exact Wn hs _ (fun k' hk => by rw [upd_ne (by omega)]; exact hf1 k' hk) (fun k' hk => by rw [upd_ne (by omega)]; exact hs1 k' (by omega)) (by omega) (by omega) (AK _ _ _) rfl
 have hget : ∀ (l : List Ad) (i : Int), 1 ≤ i → i ≤ l.length → l[i.toNat - 1]? = some (l.getD (i - 1).toNat []) := fun l i h1 h2 => by
  have e : (i - 1).toNat = i.toNat - 1 := by omega
  rw [e]
  obtain ⟨y, hy⟩ : ∃ y, l[i.toNat - 1]? = some y := ⟨_, List.getElem?_eq_getElem (by omega)⟩
  rw [hy, List.getD_eq_getElem?_getD, hy]; rfl
 by_cases f1 : fn = true
 ·subst f1
  obtain ⟨h1, h2⟩ := hfn rfl
  have hg := hget fnW o h1 (by simp [fnW]; omega)
  have hop : OP ⟨xw, P, true, cd, n0, n1, vs⟩ o = fnW.getD (o - 1).toNat [] := rfl
  have hl6 : fnW.length = 6 := rfl
  have h3 : ¬ o - 1 < 0 := by omega
  have h3' : (0 : Int) ≤ o - 1 := by omega
  have h4 : o - 1 < 6 := by omega
  generalize fnW.getD (o - 1).toNat [] = w at *
  repeat' (first | (simp -implicitDefEqProofs [c82, -getElem?_pos, hg, hl6, h3, h3', h4]) | (simp (disch := omega) only [AB]) | ((with_reducible refine AN 118 ?_); refine' AQ (hfa) ?_) | ((with_reducible refine AN 119 ?_); refine' AQ (hca) ?_) | (with_reducible first | refine A5 ?_ ?_ ?_ | exact A7 | assumption | refine A0 ?_ | refine KM.of ?_ | refine AA ?_ | refine A1 ?_ | refine AF ?_ | refine A3 ?_ | refine AG ?_ | refine AE ?_ | intro _g _hg | refine A9 ?_ ?_ | intro _hc) | omega)
  exact hk8 _ _ _ w (by omega) (by omega) hop.symm rfl rfl rfl
 ·rw [Bool.not_eq_true] at f1
  subst f1
  by_cases c1 : cd = true
  ·subst c1
   obtain ⟨h1, h2⟩ := hcd rfl rfl
   have hg := hget cdW o h1 (by simp [cdW]; omega)
   have hop : OP ⟨xw, P, false, true, n0, n1, vs⟩ o = cdW.getD (o - 1).toNat [] := rfl
   have hl6 : cdW.length = 3 := rfl
   have h3 : ¬ o - 1 < 0 := by omega
   have h3' : (0 : Int) ≤ o - 1 := by omega
   have h4 : o - 1 < 3 := by omega
   generalize cdW.getD (o - 1).toNat [] = w at *
   repeat' (first | (simp -implicitDefEqProofs [c82, G5, -getElem?_pos, hg, hl6, h3, h3', h4]) | (simp (disch := omega) only [AB]) | ((with_reducible refine AN 118 ?_); refine' AQ (hfa) ?_) | ((with_reducible refine AN 119 ?_); refine' AQ (hca) ?_) | (with_reducible first | refine A5 ?_ ?_ ?_ | exact A7 | assumption | refine A0 ?_ | refine KM.of ?_ | refine AA ?_ | refine A1 ?_ | refine AF ?_ | refine A3 ?_ | refine AG ?_ | refine AE ?_ | intro _g _hg | refine A9 ?_ ?_ | intro _hc) | omega)
   exact hk8 _ _ _ w (by omega) (by omega) hop.symm rfl rfl rfl
  ·rw [Bool.not_eq_true] at c1
   subst c1
   repeat' (first | (simp -implicitDefEqProofs [c82, G5, -getElem?_pos]) | (simp (disch := omega) only [AB]) | ((with_reducible refine AN 118 ?_); refine' AQ (hfa) ?_) | ((with_reducible refine AN 119 ?_); refine' AQ (hca) ?_) | (with_reducible first | refine A5 ?_ ?_ ?_ | exact A7 | assumption | refine A0 ?_ | refine KM.of ?_ | refine AA ?_ | refine A1 ?_ | refine AF ?_ | refine A3 ?_ | refine AG ?_ | refine AE ?_ | intro _g _hg | refine A9 ?_ ?_ | intro _hc) | omega)
   exact hk8 _ _ _ [] (by omega) (by omega) rfl rfl rfl rfl
def Al (k : Int) : Shq := shqs.getD (k.toNat - 1) UK
mutual
def Ax : St → Ad
 | .mk k o m v p => (Al k).w ++ [40] ++ Lib.join (BI k o m v (Al k) ++ Ai p) [44] ++ [41]
def Ai : List St → List Ad
 | [] => []
 | s :: r => Ax s :: Ai r
end
theorem MT : ∀ p : List St, Ai p = p.map Ax
 | [] => by simp [Ai]
 | s :: r => by simp [Ai, MT r]
theorem Z2 {k : Int} (h1 : 1 ≤ k) (h2 : k ≤ 16) : Bb (aI k) shpMap = some (Ri (Al k)) := by
 have key : ∀ j : Nat, j < 16 → Bb (aI ((j : Int) + 1)) shpMap = some (Ri (Al ((j : Int) + 1))) := by
  intro j hj
  iterate 16 (rcases j with _ | j; · rfl)
  omega
 have := key (k.toNat - 1) (by omega)
 have e : (((k.toNat - 1 : Nat) : Int) + 1) = k := by omega
 rwa [e] at this
theorem Ir {k : Int} (h1 : 1 ≤ k) (h2 : k ≤ 16) : (Al k).fn = Pu k ∧ (Al k).cd = Cz k ∧ (Al k).w.length ≤ 6 := by
 have key : ∀ j : Nat, j < 16 → (Al ((j : Int) + 1)).fn = Pu ((j : Int) + 1) ∧ (Al ((j : Int) + 1)).cd = Cz ((j : Int) + 1) ∧ (Al ((j : Int) + 1)).w.length ≤ 6 := by
  intro j hj
  iterate 16 (rcases j with _ | j; · exact ⟨rfl, rfl, by decide⟩)
  omega
 have := key (k.toNat - 1) (by omega)
 have e : (((k.toNat - 1 : Nat) : Int) + 1) = k := by omega
 rwa [e] at this
theorem SY (sep : Ad) : ∀ l : List Ad, (Lib.join l sep).length ≤ (l.map fun x => x.length + sep.length).sum
 | [] => by simp [Lib.join_nil]
 | [x] => by simp [Lib.join_one]
 | x :: y :: r => by
  have := SY sep (y :: r)
  have e : Lib.join (x :: y :: r) sep = x ++ sep ++ Lib.join (y :: r) sep := by simp [Lib.join, List.intercalate]
  rw [e]
  simp only [List.length_append, List.map_cons, List.sum_cons] at this ⊢
  omega
theorem Xa (f : Ad → Nat) (B : Nat) : ∀ l : List Ad, (∀ x ∈ l, f x ≤ B) → (l.map f).sum ≤ l.length * B
 | [], _ => by simp
 | x :: r, h => by
  have h1 := h x List.mem_cons_self
  have h2 := Xa f B r fun y hy => h y (List.mem_cons_of_mem _ hy)
  simp only [List.map_cons, List.sum_cons, List.length_cons, Nat.succ_mul]; omega
theorem VG {k o m : Int} {v : List Int} {x : Shq} (hm : 0 ≤ m ∧ m ≤ 10000) (hv : ∀ y ∈ v, 0 ≤ y ∧ y ≤ 10000) (hvl : v.length ≤ 5000) : ∀ {y : Ad}, y ∈ BI k o m v x → y.length ≤ 31 := by
 intro y hy
 have h1 := UJ x o
 have h2 := Lib.itoa_length_le m (by omega) (by omega)
 unfold BI at hy
 split at hy
 ·simp at hy; subst hy; omega
 ·split at hy
  ·simp at hy; subst hy; simp; omega
  ·split at hy
   ·simp at hy; subst hy; omega
   ·obtain ⟨z, hz, rfl⟩ := List.mem_map.1 hy
    have := hv z hz
    have := Lib.itoa_length_le z (by omega) (by omega)
    omega
theorem Qc {k o m : Int} {v : List Int} {x : Shq} (hvl : v.length ≤ 5000) : (BI k o m v x).length ≤ 5000 := by
 unfold BI
 split
 ·simp
 ·split
  ·simp
  ·split
   ·simp
   ·simpa using hvl
structure TxtOk (k o m : Int) (v : List Int) : Prop where
 k1 : 1 ≤ k
 k2 : k ≤ 16
 fn : (Al k).fn = true → 1 ≤ o ∧ o ≤ 6
 cd : (Al k).fn = false → (Al k).cd = true → 1 ≤ o ∧ o ≤ 3
 mb : 0 ≤ m ∧ m ≤ 10000
 vb : ∀ y ∈ v, 0 ≤ y ∧ y ≤ 10000
 vl : v.length ≤ 5000
theorem Uo (k : Int) : ∀ (i : Nat) (v : List Int), BH k i v = true → ∀ y ∈ v, 0 ≤ y ∧ y ≤ 10000
 | _, [], _, y, h => by cases h
 | i, x :: r, h, y, hy => by
  rw [BH, Bool.and_eq_true] at h
  rcases List.mem_cons.1 hy with rfl | hy
  ·have := h.1
   unfold GS at this
   simp only [Bool.and_eq_true, decide_eq_true_eq] at this
   obtain ⟨h1, h2⟩ := this
   split at h1 <;> split at h2 <;> omega
  ·exact Uo k (i + 1) r h.2 y hy
theorem RA {k o m : Int} {v : List Int} {p : List St} (hok : Nz (.mk k o m v p)) (hsm : Rk (.mk k o m v p)) : TxtOk k o m v := by
 obtain ⟨h1, _⟩ := hok
 have N := Fa h1
 obtain ⟨f1, f2, _⟩ := Ir N.k1 N.k2
 refine ⟨N.k1, N.k2, fun h => ?_, fun _ h => N.cnd (by rw [← f2]; exact h), ?_, Uo k 0 v N.vals, ?_⟩
 ·rcases N.fn (by rw [← f1]; exact h) with h | h <;> omega
 ·by_cases hn : OF k = true
  ·have := N.num hn
   unfold OR OM at this
   obtain ⟨h3, h4⟩ := this
   refine ⟨?_, ?_⟩
   ·split at h3
    ·omega
    ·split at h3 <;> omega
   ·split at h4
    ·omega
    ·split at h4
     ·omega
     ·split at h4 <;> omega
  ·have := N.non (by simpa using hn)
   omega
 ·by_cases hk1 : k = 1
  ·have := hsm.1
   rw [Aa, DT, if_pos hk1] at this
   exact this
  ·by_cases hk2 : k = 2
   ·have := N.rng hk2; omega
   ·rw [N.nov hk1 hk2]; simp
theorem SA : ∀ s : St, Nz s → Rk s → (Ax s).length + 1 ≤ 300000 * Bk s := by
 intro s
 refine St.ind (Q := fun s => Nz s → Rk s → (Ax s).length + 1 ≤ 300000 * Bk s) ?_ s
 intro k o m v p ih hok hsm
 have T := RA hok hsm
 obtain ⟨_, _, hw⟩ := Ir T.k1 T.k2
 have hp : ∀ q : List St, (∀ s ∈ q, s ∈ p) → okP q → smP q → ((Ai q).map fun x => x.length + 1).sum ≤ 300000 * CU q := by
  intro q
  induction q with
  | nil => intro _ _ _; simp [Ai]
  | cons s r ihr =>
   intro h h1 h2
   have a1 := ih s (h s List.mem_cons_self) h1.1 h2.1
   have a2 := ihr (fun x hx => h x (List.mem_cons_of_mem _ hx)) h1.2 h2.2
   simp only [Ai, List.map_cons, List.sum_cons, CU]
   omega
 have h1 := hp p (fun _ h => h) hok.2 hsm.2
 have h2 := SY [44] (BI k o m v (Al k) ++ Ai p)
 have h3 := Xa (fun x => x.length + 1) 32 (BI k o m v (Al k)) fun y hy => by have := VG T.mb T.vb T.vl hy; omega
 have h4 := Qc (k := k) (o := o) (m := m) (x := Al k) T.vl
 rw [List.map_append, List.sum_append] at h2
 simp only [Ax, List.length_append, Bk, List.length_cons, List.length_nil, Nat.zero_add] at h2 ⊢
 omega
theorem DO : ∀ p : List St, (Ai p).length = p.length
 | [] => rfl
 | s :: r => by simp [Ai, DO r]
theorem S3 {p : List St} {j : Nat} {s : St} (h : p[j]? = some s) : (Ai p).take (j + 1) = (Ai p).take j ++ [Ax s] := by
 have : (Ai p)[j]? = some (Ax s) := by rw [MT, List.getElem?_map, h]; rfl
 rw [List.take_add_one, this]; rfl
theorem A37 (s : St) : Cy s → Nz s → Rk s → Bk s ≤ 60 → ∀ (gm n : Nat) (H : A2), H gm = some (.map (some .i64) shpMap) → APureAt Tryz.prog 52 [encS s, .mp gm] n H (.str (Ax s)) := by
 refine St.ind (Q := fun s => Cy s → Nz s → Rk s → Bk s ≤ 60 → ∀ (gm n : Nat) (H : A2), H gm = some (.map (some .i64) shpMap) → APureAt Tryz.prog 52 [encS s, .mp gm] n H (.str (Ax s))) ?_ s
 intro k o m v p ih hfit hok hsm hsz gm n H hgm
 have T := RA hok hsm
 obtain ⟨_, _, hw⟩ := Ir T.k1 T.k2
 have htl := SA (.mk k o m v p) hok hsm
 have hwc := fun n H => ZB k o m v p (Al k) n H T.fn T.cd T.mb T.vb T.vl
 have hcnt := Qc (k := k) (o := o) (m := m) (x := Al k) T.vl
 have hget := Z2 T.k1 T.k2
 have hpl := BJ p
 have hsz2 := EM p
 have hszp : CU p + 1 ≤ 60 := hsz
 have hjl : (Lib.join (BI k o m v (Al k) ++ Ai p) [44]).length ≤ 300000 * 60 := by
  simp only [Ax, List.length_append] at htl; omega
 have hja := A3a (BI k o m v (Al k) ++ Ai p) [44] (by simp [DO]; omega) (by omega)
 rw [Ax]
 rw [AP] at hwc ⊢
 generalize hx : Al k = x at *
 generalize BI k o m v x = ws at *
 obtain ⟨xw, P, fn, cd, n0, n1, vs⟩ := x
 have hw' : xw.length ≤ 6 := hw
 generalize hsm' : shpMap = sm at *
 refine Bp Tryz.func52 A4q rfl fun hH => ?_
 have hgmn : gm < n := by
  rcases Nat.lt_or_ge gm n with h | h
  ·exact h
  ·rw [hH gm h] at hgm; cases hgm
 repeat' (first | (simp -implicitDefEqProofs [c52, -getElem?_pos, hgm, hget, splice]) | (simp (disch := omega) only [AB]) | ((with_reducible refine Ae 82 ?_); refine ⟨_, hwc _ _, ?_⟩; rintro rb n2 H2 hle2 hsup2 ⟨_, _, hfr2, z, t, rfl, hT, hz, hTn⟩) | (with_reducible first | refine A5 ?_ ?_ ?_ | exact A7 | assumption | refine A0 ?_ | refine KM.of ?_ | refine AA ?_ | refine A1 ?_ | refine AF ?_ | refine A3 ?_ | refine AG ?_ | refine AE ?_ | intro _g _hg | refine A9 ?_ ?_ | intro _hc) | omega)
 rename_i g2 hg2 _ _
 have hle2' : _g + 1 ≤ n2 := hle2
 generalize hg5 : _g = g5 at *
 have q2 : H2 g2 = some (AY k o m (OO v) (.sl 5 (Ac p) .ro)) := (hfr2 g2 (show g2 < g5 + 1 by omega)).trans (by simp (disch := omega) only [upd_ne, AK])
 have q5 : H2 g5 = some (Pn ⟨xw, P, fn, cd, n0, n1, vs⟩) := (hfr2 g5 (show g5 < g5 + 1 by omega)).trans (by simp (disch := omega) only [upd_ne, AK] <;> rfl)
 have hsame : SameB n H H2 := fun g hg => (hfr2 g (show g < g5 + 1 by omega)).trans (by simp (disch := omega) only [upd_ne])
 have hTn' : ∀ g, Bd t g → g5 + 1 ≤ g := hTn
 repeat' (first | (simp -implicitDefEqProofs [c52, -getElem?_pos, q2, hpl, splice]) | (simp (disch := omega) only [AB]) | (with_reducible first | refine A5 ?_ ?_ ?_ | exact A7 | assumption | refine A0 ?_ | refine KM.of ?_ | refine AA ?_ | refine A1 ?_ | refine AF ?_ | refine A3 ?_ | refine AG ?_ | refine AE ?_ | intro _g _hg | refine A9 ?_ ?_ | intro _hc) | omega)
 refine LoopK.go (fun q st => ∃ (j : Nat) (xs : List AV) (z : Nat) (t : Tok) (n3 : Nat) (H3 : A2), j + q = p.length ∧ xs = (ws ++ (Ai p).take j).map AV.str ∧ st = ⟨[(1, .mp gm), (5, .ptr g5 0), (6, .sl z xs t), (17, .sl 5 (Ac p) .ro), (18, aI p.length), (19, aI j)], n3, H3⟩ ∧ g5 + 1 ≤ n3 ∧ (∀ k', n3 ≤ k' → H3 k' = none) ∧ SameB n H H3 ∧ H3 g5 = some (Pn ⟨xw, P, fn, cd, n0, n1, vs⟩) ∧ TokT t (ws.length + j) H3 n3 ∧ (t ≠ .nil → z = 1) ∧ ∀ g, Bd t g → g5 + 1 ≤ g) p.length ⟨0, _, z, t, n2, H2, by omega, by simp, rfl, hle2', hsup2, hsame, q5, by simpa using hT, hz, hTn'⟩ ?_
 clear hT hz hTn hTn' q2 q5 hsame hfr2 hsup2 hle2 hle2'
 rintro q st ⟨j, xs, z, t, n2, H2, hj, hxs, rfl, hle2, hsup2, hsame, q5, hT, hz, hTn⟩ J hJ
 have hjl2 : xs.length = ws.length + j := by rw [hxs]; simp [DO]; omega
 have qm : H2 gm = some (.map (some .i64) sm) := by rw [hsame gm hgmn]; exact hgm
 by_cases hjp : j < p.length
 ·obtain ⟨s, hs⟩ : ∃ s, p[j]? = some s := ⟨_, List.getElem?_eq_getElem hjp⟩
  have hsm2 := List.mem_of_getElem? hs
  have hst := ih s hsm2 (Cw hfit.2.2 s hsm2) (FQ hok.2 s hsm2) (IY hsm.2 s hsm2) (by have := EG s hsm2; omega) gm
  have hse := EN hs
  have hjp' : (j : Int) < p.length := by omega
  have htk := S3 hs
  obtain ⟨k', o', m', v', p'⟩ := s
  rw [AP] at hst hse
  generalize Ax _ = ts at hst htk
  
  repeat' (first | (simp -implicitDefEqProofs [QE, Vo, W6, -getElem?_pos, hjp', hpl, hse, splice]) | (simp (disch := omega) only [AB]) | (refine Ru (by rw [hjl2]; exact hT.at_ (fun k hk => by have := hT.lt k hk; have := hTn k hk; simp (disch := omega) only [upd_ne]) (by omega)) hz (by rw [hjl2]; omega) (fun k hk => by simp (disch := omega) only [upd_ne]; exact hsup2 k (by omega)) (fun g' n3 H3 a1 a2 a3 a4 a5 a6 => ?_)) | ((with_reducible refine Ae 52 ?_); (refine' CallK.sfAt ?_ ((hst _ _ (by simp (disch := omega) only [upd_ne]; exact qm))) ?_); (focus first | (with_reducible exact A4 _) | (simp [AT, AL, A6, A4]; done))) | (with_reducible first | refine A5 ?_ ?_ ?_ | exact A7 | assumption | refine A0 ?_ | refine KM.of ?_ | refine AA ?_ | refine A1 ?_ | refine AF ?_ | refine A3 ?_ | refine AG ?_ | refine AE ?_ | intro _g _hg | refine A9 ?_ ?_ | intro _hc) | omega)
  refine hJ (q - 1) _ (by omega) ⟨j + 1, xs ++ [.str ts], 1, .own g', n3, H3, by omega, by rw [hxs, htk]; simp, by simp, by omega, a6, fun k' hk => ?_, ?_, ⟨by rw [a5, hjl2]; rfl, a3⟩, fun _ => rfl, fun g hg => ?_⟩
  ·rw [a4 k' (by omega) (fun h => by have := hTn k' h; omega)]; simp (disch := omega) only [upd_ne]; exact hsame k' hk
  ·rw [a4 g5 (by omega) (fun h => by have := hTn g5 h; omega)]; simp (disch := omega) only [upd_ne]; exact q5
  ·have e : g = g' := hg
   rcases a1 with h | h
   ·have := hTn g' h; omega
   ·omega
 ·have hjp' : ¬ (j : Int) < p.length := by omega
  have htk : (Ai p).take j = Ai p := List.take_of_length_le (by rw [DO]; omega)
  rw [htk] at hxs
  have hz1 : z = 1 ∨ xs = [] := by
   by_cases ht : t = .nil
   ·subst ht
    refine .inr (List.length_eq_zero_iff.1 ?_)
    rw [hjl2]; exact hT
   ·exact .inl (hz ht)
  unfold aSs at hja
  rw [← hxs] at hja
  
  repeat' (first | (simp -implicitDefEqProofs [QE, VT, -getElem?_pos, hjp', q5]) | (simp (disch := omega) only [AB]) | ((with_reducible refine AN 83 ?_); refine CallP.of hja (Ab (FY hz1) (A4 _)) ?_) | (with_reducible first | refine A5 ?_ ?_ ?_ | exact A7 | assumption | refine A0 ?_ | refine KM.of ?_ | refine AA ?_ | refine A1 ?_ | refine AF ?_ | refine A3 ?_ | refine AG ?_ | refine AE ?_ | intro _g _hg | refine A9 ?_ ?_ | intro _hc) | omega)
  all_goals exact A6 _
def Xs (s : St) : Ad × (Int × Int) := if (Dj s).1 ≠ 0 then ([], Dj s) else if 4000 < (Ax s).length then ([], (14, -1)) else (Ax s, (0, 0))
theorem V6 (s : St) (hf : Cy s) : APure Tryz.prog 23 [encS s] (.tup [.str (Xs s).1, aF (Xs s).2]) := by
 have hv := GM s hf
 have hok := @Ih s
 have htx := fun (h : (Dj s).1 = 0) => A37 s hf (hok h).2.1 (hok h).2.2.1 (hok h).2.2.2
 unfold Xs
 generalize Dj s = f at *
 generalize Ax s = tx at *
 obtain ⟨k, o, m, v, p⟩ := s
 rw [AP] at *
 by_cases h0 : f.1 = 0
 ·rw [if_neg (fun h => h h0)]
  have htx := htx h0
  have hf0 := (hok h0).1
  by_cases hl : 4000 < tx.length
  ·rw [if_pos hl]
   have hl' : (4000 : Int) < tx.length := by omega
   
   refine AD Tryz.func23 Y2 rfl fun n H hH => ?_
   repeat' (first | (simp -implicitDefEqProofs [Kq, NB, c23, -getElem?_pos, h0, hl', splice]) | (simp (disch := omega) only [AB]) | ((with_reducible refine Ae 39 ?_); refine ⟨_, FW _ _, ?_⟩; rintro r n' H' hle hsup ⟨gm, rfl, hg1, rfl, rfl⟩; dsimp only at hg1 hle) | ((with_reducible refine KC.of ?_ ?_); rotate_left 1) | ((with_reducible refine AN 15 ?_); refine' AQ (hv) ?_) | ((with_reducible refine Ae 52 ?_); (refine' CallK.sfAt ?_ ((htx _ _ _ (AK _ _ _))) ?_); (focus first | (with_reducible exact A4 _) | (simp [AT, AL, A6, A4]; done))) | (with_reducible first | refine A5 ?_ ?_ ?_ | exact A7 | assumption | refine A0 ?_ | refine KM.of ?_ | refine AA ?_ | refine A1 ?_ | refine A3 ?_ | intro _g _hg | refine A9 ?_ ?_ | intro _hc) | omega)
   all_goals first | exact A6 _ | exact KeepM.rfl_ _ _ | exact KeepM.new (by simp (disch := omega) only [upd_ne]; exact hH _ (by omega)) | (intro g hg; simp (disch := omega) only [upd_ne])
  ·rw [if_neg hl]
   have hl' : ¬ (4000 : Int) < tx.length := by omega
   
   refine AD Tryz.func23 Y2 rfl fun n H hH => ?_
   repeat' (first | (simp -implicitDefEqProofs [Kq, NB, c23, -getElem?_pos, h0, hl', splice]) | (simp (disch := omega) only [AB]) | ((with_reducible refine Ae 39 ?_); refine ⟨_, FW _ _, ?_⟩; rintro r n' H' hle hsup ⟨gm, rfl, hg1, rfl, rfl⟩; dsimp only at hg1 hle) | ((with_reducible refine KC.of ?_ ?_); rotate_left 1) | ((with_reducible refine AN 15 ?_); refine' AQ (hv) ?_) | ((with_reducible refine Ae 52 ?_); (refine' CallK.sfAt ?_ ((htx _ _ _ (AK _ _ _))) ?_); (focus first | (with_reducible exact A4 _) | (simp [AT, AL, A6, A4]; done))) | (with_reducible first | refine A5 ?_ ?_ ?_ | exact A7 | assumption | refine A0 ?_ | refine KM.of ?_ | refine AA ?_ | refine A1 ?_ | refine A3 ?_ | intro _g _hg | refine A9 ?_ ?_ | intro _hc) | omega)
   all_goals first | exact A6 _ | exact KeepM.rfl_ _ _ | exact KeepM.new (by simp (disch := omega) only [upd_ne]; exact hH _ (by omega)) | (intro g hg; simp (disch := omega) only [upd_ne])
 ·rw [if_pos h0]
  
  refine AD Tryz.func23 Y2 rfl fun n H hH => ?_
  repeat' (first | (simp -implicitDefEqProofs [Kq, NB, c23, -getElem?_pos, h0, splice]) | (simp (disch := omega) only [AB]) | ((with_reducible refine AN 15 ?_); refine' AQ (hv) ?_) | (with_reducible first | refine A5 ?_ ?_ ?_ | exact A7 | assumption | refine A0 ?_ | refine KM.of ?_ | refine AA ?_ | refine A1 ?_ | refine A3 ?_ | intro _g _hg | refine A9 ?_ ?_ | intro _hc) | omega)
  all_goals first | exact A6 _ | (intro g hg; simp (disch := omega) only [upd_ne])
def WY (s : St) (m : Int) : AV :=
 if (Dj s).1 ≠ 0 then .tup [.sl 1 [] .ro, .sl 1 [] .ro, .bool false, aF (Dj s)]
 else if ¬ (0 ≤ m ∧ m ≤ 5000) then .tup [.sl 1 [] .ro, .sl 1 [] .ro, .bool false, aF (4, -2)]
 else .tup [.sl 1 ((((Ag s).l.map (·.1)).take m.toNat).map aI) .ro, .sl 1 ((if m.toNat ≤ (Ag s).l.length then Iu (Ag s) m.toNat else (Ag s).fin).map aI) .ro, .bool (decide ((Ag s).l.length < m.toNat)), aF (0, 0)]
theorem KE {c d : AV} : AL (.tup [.sl 0 [] .nil, .sl 0 [] .nil, c, d]) (.tup [.sl 1 [] .ro, .sl 1 [] .ro, c, d]) :=
 ⟨_, rfl, _, _, rfl, ⟨1, [], .ro, rfl, .inl rfl, .inr ⟨rfl, rfl⟩, rfl⟩, _, _, rfl, ⟨1, [], .ro, rfl, .inl rfl, .inr ⟨rfl, rfl⟩, rfl⟩, A4 _⟩
theorem Zy (s : St) (hf : Cy s) (m : Int) (h : (Dj s).1 ≠ 0 ∨ ¬ (0 ≤ m ∧ m ≤ 5000)) : APure Tryz.prog 18 [encS s, aI m] (WY s m) := by
 have hv := GM s hf
 unfold WY
 have h00 : (Dj s).1 = 0 → Dj s = (0, 0) := fun h => (Ih h).1
 generalize Ag s = F
 generalize Dj s = f at *
 obtain ⟨k, o, m', v, p⟩ := s
 rw [AP] at *
 generalize v.map aI = va at *
 generalize Ac p = ep at *
 
 refine AD Tryz.func18 A0d rfl fun n H hH => ?_
 by_cases h0 : f.1 = 0
 ·have h2 := h.resolve_left (by simpa using h0)
  have h01 := h00 h0
  rw [if_neg (by simpa using h0), if_pos h2]
  by_cases hm0 : m < 0
  ·repeat' (first | (simp -implicitDefEqProofs [c18, Ed, -getElem?_pos, h0, hm0, splice, KE]) | (simp (disch := omega) only [AB]) | ((with_reducible refine AN 15 ?_); refine' AQ (hv) ?_) | (with_reducible first | refine A5 ?_ ?_ ?_ | exact A7 | refine SameB.upd ?_ ?_ _ | assumption | refine A0 ?_ | refine KM.of ?_ | refine AA ?_ | refine A1 ?_ | refine AF ?_ | refine A3 ?_ | refine AG ?_ | refine AE ?_ | intro _g _hg | refine A9 ?_ ?_ | intro _hc) | omega)
   all_goals first | exact KE | omega
  ·have hm1 : (5000 : Int) < m := by omega
   repeat' (first | (simp -implicitDefEqProofs [c18, Ed, -getElem?_pos, h0, hm0, hm1, splice, KE]) | (simp (disch := omega) only [AB]) | ((with_reducible refine AN 15 ?_); refine' AQ (hv) ?_) | (with_reducible first | refine A5 ?_ ?_ ?_ | exact A7 | refine SameB.upd ?_ ?_ _ | assumption | refine A0 ?_ | refine KM.of ?_ | refine AA ?_ | refine A1 ?_ | refine AF ?_ | refine A3 ?_ | refine AG ?_ | refine AE ?_ | intro _g _hg | refine A9 ?_ ?_ | intro _hc) | omega)
   all_goals first | exact KE | omega
 ·rw [if_pos h0]
  repeat' (first | (simp -implicitDefEqProofs [c18, Ed, -getElem?_pos, h0, splice, KE]) | (simp (disch := omega) only [AB]) | ((with_reducible refine AN 15 ?_); refine' AQ (hv) ?_) | (with_reducible first | refine A5 ?_ ?_ ?_ | exact A7 | refine SameB.upd ?_ ?_ _ | assumption | refine A0 ?_ | refine KM.of ?_ | refine AA ?_ | refine A1 ?_ | refine AF ?_ | refine A3 ?_ | refine AG ?_ | refine AE ?_ | intro _g _hg | refine A9 ?_ ?_ | intro _hc) | omega)
  all_goals first | exact KE | omega
theorem VN (l : List Int) : AX (l.map aI) = l.map aI := by
 induction l with
 | nil => rfl
 | cons x l ih => simp only [AX, List.map_cons, List.flatMap_cons] at ih ⊢; rw [ih]; rfl
theorem XS (s : St) (hf : Cy s) (hs0 : (Dj s).1 = 0) (m : Nat) (hm : m ≤ 5000) (n : Nat) (H : A2) : ACalls Tryz.prog 18 [encS s, aI m] n H (A23 n H (((Ag s).l.map (·.1)).take m) (if m ≤ (Ag s).l.length then Iu (Ag s) m else (Ag s).fin) (decide ((Ag s).l.length < m))) := by
 have hv := GM s hf
 obtain ⟨h00, hok, hsm, hsz⟩ := Ih hs0
 have hop := A2s s hf hok hsm hsz
 have hmon := Uw s
 rw [h00] at hv
 unfold SC at hop
 generalize hR : A23 _ _ _ _ _ = R
 generalize Bk s = sz at *
 generalize Ag s = F at *
 obtain ⟨k, o, m', v, p⟩ := s
 rw [AP] at *
 generalize v.map aI = va at *
 generalize Ac p = ep at *
 have hm0 : ¬ (m : Int) < 0 := by omega
 have hm1 : ¬ (5000 : Int) < m := by omega
 refine A8 Tryz.func18 A0d rfl fun hs => ?_
 repeat' (first | (simp -implicitDefEqProofs [c18, Ed, Iq, -getElem?_pos, hm0, hm1, splice]) | (simp (disch := omega) only [AB]) | ((with_reducible refine Ae 43 ?_); refine ⟨_, hop _g _ _ [] none (by simp; omega) ⟨rfl, by simp (disch := omega) only [upd_ne, AK] <;> rfl⟩, ?_⟩; rintro r n' H' hle hsup hpost) | ((with_reducible refine AN 15 ?_); refine' AQ (hv) ?_) | (with_reducible first | refine A5 ?_ ?_ ?_ | exact A7 | assumption | refine A0 ?_ | refine KM.of ?_ | refine AA ?_ | refine A1 ?_ | refine AF ?_ | refine A3 ?_ | refine AG ?_ | refine AE ?_ | intro _g _hg | refine A9 ?_ ?_ | intro _hc) | omega)
 rename_i ga hga g7 hg7 g8 hg8
 dsimp only at hpost
 obtain ⟨h1, h2, h3, gg, h4, h5, h6, h7, O', h8, h9, h10⟩ := hpost
 have hgg : _g + 1 ≤ gg := h5.resolve_left (fun e => by cases e)
 have hou : ∀ g, OU [⟨r, some F.l, F.cur, F.fin, O'⟩] g ↔ O' g := fun g => by simp [OU]
 have hlo : ∀ k, k < _g + 1 → k ≠ _g → H' k = _ := fun k a1 a2 => h7 k a1 a2 (by simp)
 refine XM (n := n) hm h1 (O := O') ⟨⟨⟨h10, hmon.1⟩, fun g hg => (h8 g hg).2, fun g _ h => h, trivial⟩, ⟨by simpa using h4.1, by simpa using h4.2, by simp [AM], by simp [AM]⟩, fun h => h9 ((hou gg).1 h), fun h => by have := h8 _g ((hou _g).1 h); omega, h3⟩ (by omega) (by omega) (by omega) (fun g hg => by have := h8 g ((hou g).1 hg); omega) (fun k hk => by rw [hlo k (by omega) (by omega)]; simp (disch := omega) only [upd_ne]) ⟨fun h => by have := h8 g7 ((hou g7).1 h); omega, by omega, by omega, by rw [hlo g7 (by omega) (by omega)]; simp (disch := omega) only [upd_ne, AK] <;> rfl⟩ (by omega) (by omega) hR.symm rfl
theorem A4f (s : St) (hf : Cy s) (m : Int) : APure Tryz.prog 18 [encS s, aI m] (WY s m) := by
 by_cases h : (Dj s).1 ≠ 0 ∨ ¬ (0 ≤ m ∧ m ≤ 5000)
 ·exact Zy s hf m h
 ·have hs0 : (Dj s).1 = 0 := Decidable.not_not.1 fun h' => h (.inl h')
  have hm : 0 ≤ m ∧ m ≤ 5000 := Decidable.not_not.1 fun h' => h (.inr h')
  obtain ⟨j, rfl⟩ : ∃ j : Nat, m = j := ⟨m.toNat, by omega⟩
  intro n H
  have hv : WY s j = .tup [.sl 1 ((((Ag s).l.map (·.1)).take j).map aI) .ro, .sl 1 ((if j ≤ (Ag s).l.length then Iu (Ag s) j else (Ag s).fin).map aI) .ro, .bool (decide ((Ag s).l.length < j)), aF (0, 0)] := by
   rw [WY, if_neg (by simpa using hs0), if_neg (by simpa using hm), Int.toNat_natCast]
  rw [hv]
  generalize hcs : (if j ≤ (Ag s).l.length then Iu (Ag s) j else (Ag s).fin) = cs
  have h1 := XS s hf hs0 j (by omega) n H
  rw [hcs] at h1
  refine (ACalls.frz (R' := fun r n' H' => n ≤ n' ∧ SameB n H H' ∧ r = .tup [.sl 1 ((((Ag s).l.map (·.1)).take j).map aI) .ro, .sl 1 (cs.map aI) .ro, .bool (decide ((Ag s).l.length < j)), aF (0, 0)]) h1 ?_).forget ?_
  ·rintro r n' H' hn ⟨h1, h2, h3, gg, h4, h5, rfl⟩
   refine ⟨gg, _, 1, cs.map aI, by rw [h5, VN], by kernel_rfl, by omega, fun x hx => ?_, h1, fun k hk => by rw [upd_ne (by omega)]; exact h3 k hk, ?_⟩
   ·obtain ⟨y, _, rfl⟩ := List.mem_map.1 hx; rfl
   ·simp [OD, RH]
  ·rintro r n' H' hn ⟨h1, h2, rfl⟩
   exact ⟨h2, rfl, rfl, rfl⟩
theorem TM (a b : List Int) (ha : a.length ≤ 140737488355328) : APure Tryz.prog 22 [.sl 1 (a.map aI) .ro, .sl 1 (b.map aI) .ro] (.bool (decide (a = b))) := by
 have hal : (a.map aI).length = a.length := by simp
 have hbl : (b.map aI).length = b.length := by simp
 by_cases hl : a.length = b.length
 ·have hl' : (a.length : Int) = b.length := by omega
  
  refine AD Tryz.func22 A0j rfl fun n H hH => ?_
  repeat' (first | (simp -implicitDefEqProofs [c22, HM, HA, H7, HY, Gz, c22, -getElem?_pos, hal, hbl, hl, hl']) | (simp (disch := omega) only [AB]) | (with_reducible first | refine A5 ?_ ?_ ?_ | exact A7 | refine SameB.upd ?_ ?_ _ | assumption | refine A0 ?_ | refine KM.of ?_ | refine AA ?_ | intro _g _hg | refine A9 ?_ ?_ | intro _hc) | omega)
  refine LoopK.go (fun r st => ∃ j : Nat, j + r = a.length ∧ st = ⟨[(0, .sl 1 (a.map aI) .ro), (1, .sl 1 (b.map aI) .ro), (5, aI j)], n, H⟩ ∧ a.take j = b.take j) a.length ⟨0, by omega, rfl, rfl⟩ ?_
  rintro r st ⟨j, hj, rfl, hE⟩ J hJ
  by_cases hjl : j < a.length
  ·obtain ⟨x, hx⟩ : ∃ x, a[j]? = some x := ⟨_, List.getElem?_eq_getElem hjl⟩
   obtain ⟨y, hy⟩ : ∃ y, b[j]? = some y := ⟨_, List.getElem?_eq_getElem (by omega)⟩
   have hxa := Ho (f := aI) hx
   have hya := Ho (f := aI) hy
   have hjl' : (j : Int) < a.length := by omega
   by_cases hxy : x = y
   ·subst hxy
    have hE2 : a.take (j + 1) = b.take (j + 1) := by rw [List.take_succ, List.take_succ, hE, hx, hy]
    generalize a.map aI = aa at *
    generalize b.map aI = ba at *
    
    repeat' (first | (simp -implicitDefEqProofs [HM, HA, H7, HY, Gz, c22, -getElem?_pos, hal, hbl, hl, hl', hxa, hya, hjl']) | (simp (disch := omega) only [AB]) | (with_reducible first | refine A5 ?_ ?_ ?_ | exact A7 | refine SameB.upd ?_ ?_ _ | assumption | refine A0 ?_ | refine KM.of ?_ | refine AA ?_ | intro _g _hg | refine A9 ?_ ?_ | intro _hc) | omega)
    exact hJ (r - 1) _ (by omega) ⟨j + 1, by omega, rfl, hE2⟩
   ·have hne : ¬ a = b := fun e => by subst e; rw [hx] at hy; injection hy with hy; exact hxy hy
    rw [decide_eq_false hne]
    generalize a.map aI = aa at *
    generalize b.map aI = ba at *
    
    repeat' (first | (simp -implicitDefEqProofs [HM, HA, H7, HY, Gz, c22, -getElem?_pos, hal, hbl, hl, hl', hxa, hya, hjl', hxy, AL]) | (simp (disch := omega) only [AB]) | (with_reducible first | refine A5 ?_ ?_ ?_ | exact A7 | refine SameB.upd ?_ ?_ _ | assumption | refine A0 ?_ | refine KM.of ?_ | refine AA ?_ | intro _g _hg | refine A9 ?_ ?_ | intro _hc) | omega)
  ·have hjl' : ¬ (j : Int) < a.length := by omega
   rw [List.take_of_length_le (by omega), List.take_of_length_le (by omega)] at hE
   rw [decide_eq_true hE]
   generalize a.map aI = aa at *
   generalize b.map aI = ba at *
   
   repeat' (first | (simp -implicitDefEqProofs [HM, HA, H7, HY, Gz, c22, -getElem?_pos, hal, hbl, hl, hl', hjl', AL]) | (simp (disch := omega) only [AB]) | (with_reducible first | refine A5 ?_ ?_ ?_ | exact A7 | refine SameB.upd ?_ ?_ _ | assumption | refine A0 ?_ | refine KM.of ?_ | refine AA ?_ | intro _g _hg | refine A9 ?_ ?_ | intro _hc) | omega)
 ·have hl' : ¬ (a.length : Int) = b.length := by omega
  have hne : ¬ a = b := fun e => hl (by rw [e])
  rw [decide_eq_false hne]
  generalize a.map aI = aa at *
  generalize b.map aI = ba at *
  
  refine AD Tryz.func22 A0j rfl fun n H hH => ?_
  repeat' (first | (simp -implicitDefEqProofs [HM, HA, H7, HY, Gz, c22, -getElem?_pos, hal, hbl, hl, hl', AL]) | (simp (disch := omega) only [AB]) | (with_reducible first | refine A5 ?_ ?_ ?_ | exact A7 | refine SameB.upd ?_ ?_ _ | assumption | refine A0 ?_ | refine KM.of ?_ | refine AA ?_ | intro _g _hg | refine A9 ?_ ?_ | intro _hc) | omega)
abbrev tx0 : Ad := [116, 97, 107, 101, 40, 50, 44, 102, 105, 108, 116, 101, 114, 40, 100, 105, 118, 105, 115, 105, 98, 108, 101, 32, 51, 44, 114, 97, 110, 103, 101, 40, 49, 44, 49, 48, 48, 44, 49, 41, 41, 41]
abbrev tx1 : Ad := [114, 97, 110, 103, 101, 40, 48, 44, 51, 44, 49, 41]
def s0 : St := .mk 5 0 2 [] [.mk 4 3 3 [] [.mk 2 0 0 [1, 100, 1] []]]
def Ws (n : Int) : St := .mk 2 0 0 [0, n, 1] []
theorem A34 : Vp tx0 = (s0, (0, 0)) := by kernel_rfl
theorem A3k : WY s0 5 = .tup [.sl 1 ([3, 6].map aI) .ro, .sl 1 ([6].map aI) .ro, .bool true, aF (0, 0)] := by kernel_rfl
theorem A3m : A13 s0 = .tup [aI 2, aF (0, 0)] := by kernel_rfl
theorem A39 : Xs (Ws 3) = (tx1, (0, 0)) := by kernel_rfl
theorem U9 (n : Int) : APure Tryz.prog 42 [aI n] (encS (Ws n)) := by
 rw [Ws, AP]
 
 refine AD Tryz.func42 A4o rfl fun n H hH => ?_
 repeat' (first | (simp -implicitDefEqProofs [c42, -getElem?_pos, splice]) | (simp (disch := omega) only [AB]) | (with_reducible first | refine A5 ?_ ?_ ?_ | exact A7 | refine SameB.upd ?_ ?_ _ | assumption | refine A0 ?_ | refine KM.of ?_ | refine AA ?_ | refine A1 ?_ | refine AF ?_ | refine A3 ?_ | refine AG ?_ | refine AE ?_ | intro _g _hg | refine A9 ?_ ?_ | intro _hc) | omega)
 all_goals first | exact EH (Ab (A6 _) (Ab (A6 _) (Ab (A6 _) (Ab (FY (.inl rfl)) (Ab DZ (A4 _)))))) | (intro g hg; simp (disch := omega) only [upd_ne])
theorem T9 : APure Tryz.prog 16 [] (.bool true) := by
 have h1 := UP tx0
 have h2 := A4f s0 ⟨by decide, by decide, ⟨by decide, by decide, ⟨by decide, by decide, trivial⟩, trivial⟩, trivial⟩ 5
 have h3 := U9 3
 have h4 := V6 (Ws 3) ⟨by decide, by decide, trivial⟩
 have h5 := Xw s0 ⟨by decide, by decide, ⟨by decide, by decide, ⟨by decide, by decide, trivial⟩, trivial⟩, trivial⟩
 have h6 := TM [3, 6] [3, 6] (by decide)
 have h7 := TM [6] [6] (by decide)
 rw [A34] at h1
 rw [A3k] at h2
 rw [A39] at h4
 rw [A3m] at h5
 rw [decide_eq_true rfl] at h6 h7
 dsimp only at h1 h4
 have hs : ∃ k o m v p, s0 = .mk k o m v p := ⟨_, _, _, _, _, rfl⟩
 have hc : ∃ k o m v p, Ws 3 = .mk k o m v p := ⟨_, _, _, _, _, rfl⟩
 obtain ⟨k, o, m, v, p, hs⟩ := hs
 obtain ⟨k', o', m', v', p', hc⟩ := hc
 rw [hs] at h1 h2 h5
 rw [hc] at h3 h4
 rw [AP] at h1 h2 h3 h4 h5
 
 refine AD Tryz.func16 A5j rfl fun n H hH => ?_
 repeat' (first | (simp -implicitDefEqProofs [c16, -getElem?_pos, splice]) | (simp (disch := omega) only [AB]) | ((with_reducible refine AN 22 ?_); refine CallP.of h6 (Ab (A6 _) (Ab (FY (.inl rfl)) (A4 _))) ?_) | ((with_reducible refine AN 22 ?_); refine CallP.of h7 (Ab (A6 _) (Ab (FY (.inl rfl)) (A4 _))) ?_) | ((with_reducible refine AN 25 ?_); (refine' CallP.sf ?_ (h1) ?_); (focus first | (with_reducible exact A4 _) | (simp [AT, AL, A6, A4]; done) | ((repeat (first | (with_reducible exact A6 _) | (exact simL_nil0) | (refine Ab ?_ ?_) | (exact DZ) | (refine simA_sl0 ?_) | (refine EH ?_))); done))) | ((with_reducible refine AN 18 ?_); (refine' CallP.sf ?_ (h2) ?_); (focus first | (with_reducible exact A4 _) | (simp [AT, AL, A6, A4]; done) | ((repeat (first | (with_reducible exact A6 _) | (exact simL_nil0) | (refine Ab ?_ ?_) | (exact DZ) | (refine simA_sl0 ?_) | (refine EH ?_))); done))) | ((with_reducible refine AN 42 ?_); (refine' CallP.sf ?_ (h3) ?_); (focus first | (with_reducible exact A4 _) | (simp [AT, AL, A6, A4]; done) | ((repeat (first | (with_reducible exact A6 _) | (exact simL_nil0) | (refine Ab ?_ ?_) | (exact DZ) | (refine simA_sl0 ?_) | (refine EH ?_))); done))) | ((with_reducible refine AN 23 ?_); (refine' CallP.sf ?_ (h4) ?_); (focus first | (with_reducible exact A4 _) | (simp [AT, AL, A6, A4]; done) | ((repeat (first | (with_reducible exact A6 _) | (exact simL_nil0) | (refine Ab ?_ ?_) | (exact DZ) | (refine simA_sl0 ?_) | (refine EH ?_))); done))) | ((with_reducible refine AN 13 ?_); (refine' CallP.sf ?_ (h5) ?_); (focus first | (with_reducible exact A4 _) | (simp [AT, AL, A6, A4]; done) | ((repeat (first | (with_reducible exact A6 _) | (exact simL_nil0) | (refine Ab ?_ ?_) | (exact DZ) | (refine simA_sl0 ?_) | (refine EH ?_))); done))) | (with_reducible first | refine A5 ?_ ?_ ?_ | exact A7 | refine SameB.upd ?_ ?_ _ | assumption | refine A0 ?_ | refine KM.of ?_ | refine AA ?_ | refine A1 ?_ | refine AF ?_ | refine A3 ?_ | refine AG ?_ | refine AE ?_ | intro _g _hg | refine A9 ?_ ?_ | intro _hc) | omega)
 all_goals exact A6 _
theorem A3v (s : St) : Cy s → APure Tryz.prog 26 [encS s, encS s] (.bool true) := by
 refine St.ind (Q := fun s => Cy s → APure Tryz.prog 26 [encS s, encS s] (.bool true)) ?_ s
 intro k o m v p ih hf
 obtain ⟨hv, hp, hpp⟩ := hf
 have hin := TM v v hv
 rw [decide_eq_true rfl] at hin
 have hpl := BJ p
 rw [AP]
 
 refine AD Tryz.func26 A4p rfl fun n H hH => ?_
 repeat' (first | (simp -implicitDefEqProofs [c26, Mu, -getElem?_pos, hpl, splice]) | (simp (disch := omega) only [AB]) | ((with_reducible refine AN 22 ?_); refine' AQ (hin) ?_) | (with_reducible first | refine A5 ?_ ?_ ?_ | exact A7 | assumption | refine A0 ?_ | refine KM.of ?_ | refine AA ?_ | refine A1 ?_ | refine A3 ?_ | intro _g _hg | refine A9 ?_ ?_ | intro _hc) | omega)
 rename_i g2 hg2
 generalize hH1 : upd (upd H g2 _) _g _ = H1
 have q2 : H1 g2 = some (AY k o m (OO v) (.sl 5 (Ac p) .ro)) := by rw [← hH1]; simp (disch := omega) only [upd_ne, AK]
 have q3 : H1 _g = some (AY k o m (OO v) (.sl 5 (Ac p) .ro)) := by rw [← hH1]; simp (disch := omega) only [upd_ne, AK]
 have hsame : SameB n H H1 := fun g hg => by rw [← hH1]; simp (disch := omega) only [upd_ne]
 refine LoopK.go (fun q st => ∃ j : Nat, j + q = p.length ∧ st = ⟨[(2, .ptr g2 0), (3, .ptr _g 0), (5, aI j)], _g + 1, H1⟩) p.length ⟨0, by omega, rfl⟩ ?_
 rintro q st ⟨j, hj, rfl⟩ J hJ
 by_cases hjp : j < p.length
 ·obtain ⟨s, hs⟩ : ∃ s, p[j]? = some s := ⟨_, List.getElem?_eq_getElem hjp⟩
  have hsm2 := List.mem_of_getElem? hs
  have hst := ih s hsm2 (Cw hpp s hsm2)
  have hse := EN hs
  have hjp' : (j : Int) < p.length := by omega
  obtain ⟨k', o', m', v', p'⟩ := s
  rw [AP] at hst hse
  
  repeat' (first | (simp -implicitDefEqProofs [Q7, QC, QO, QY, Mu, c26, -getElem?_pos, q2, q3, hjp', hpl, hse, splice]) | (simp (disch := omega) only [AB]) | ((with_reducible refine AN 26 ?_); refine' AQ (hst) ?_) | (with_reducible first | refine A5 ?_ ?_ ?_ | exact A7 | assumption | refine A0 ?_ | refine KM.of ?_ | refine AA ?_ | refine A1 ?_ | refine A3 ?_ | intro _g _hg | refine A9 ?_ ?_ | intro _hc) | omega)
  exact hJ (q - 1) _ (by omega) ⟨j + 1, by omega, rfl⟩
 ·have hjp' : ¬ (j : Int) < p.length := by omega
  
  repeat' (first | (simp -implicitDefEqProofs [Q7, QC, QO, QY, Mu, c26, -getElem?_pos, q2, hjp', hpl, splice]) | (simp (disch := omega) only [AB]) | (with_reducible first | refine A5 ?_ ?_ ?_ | exact A7 | assumption | refine A0 ?_ | refine KM.of ?_ | refine AA ?_ | refine A1 ?_ | refine A3 ?_ | intro _g _hg | refine A9 ?_ ?_ | intro _hc) | omega)
  all_goals first | exact A6 _ | exact hsame
def P7 (n : Int) : Prop := 0 ≤ n ∧ n ≤ 999999999
theorem Oh {n : Int} (h : 0 ≤ n) : Lib.itoa n = Lib.decDigits n.toNat := by
 obtain ⟨u, rfl⟩ : ∃ u : Nat, n = u := ⟨n.toNat, by omega⟩
 rw [Lib.itoa_nonneg]; simp
theorem PD {n : Int} (h : 0 ≤ n) : ∀ c ∈ Lib.itoa n, Ap c = true := by
 rw [Oh h]; exact JJ _
theorem VA {n : Int} (h : 0 ≤ n) : Lib.itoa n ≠ [] := by
 rw [Oh h]; exact Tt _
theorem Qb {n : Int} (h : P7 n) : GW (Lib.itoa n) = (n, true) := by
 obtain ⟨h1, h2⟩ := h
 unfold GW
 rw [WL ⟨by omega, h2⟩]
 simp only [decide_true, Bool.and_true]
 rw [Oh h1, decide_eq_true ((YT _).2 (by omega))]
theorem H6 {p : UInt8 → Bool} {b : Ad} (hb : ∀ c t, b = c :: t → p c = false) : ∀ {a : Ad}, (∀ c ∈ a, p c = true) → (a ++ b).takeWhile p = a ∧ (a ++ b).dropWhile p = b
 | [], _ => by
  cases b with
  | nil => exact ⟨rfl, rfl⟩
  | cons c t => have := hb c t rfl; simp [List.takeWhile_cons, List.dropWhile_cons, this]
 | x :: a, ha => by
  have h1 := ha x List.mem_cons_self
  obtain ⟨h2, h3⟩ := H6 hb (a := a) fun c hc => ha c (List.mem_cons_of_mem _ hc)
  simp [List.takeWhile_cons, List.dropWhile_cons, h1, h2, h3]
abbrev jn (l : List Ad) : Ad := Lib.join l [44]
abbrev jt (l : List Ad) : Ad := Lib.joinTail [44] l
theorem Da (x : Ad) (l : List Ad) : jn (x :: l) = x ++ jt l := Lib.join_cons x l [44]
theorem Hk (x : Ad) (l : List Ad) : jt (x :: l) = 44 :: (x ++ jt l) := by simp [jt, Lib.joinTail]
theorem Fc : jt [] = [] := rfl
theorem Gq : jn [] = [] := Lib.join_nil [44]
theorem A5d {l : List Ad} (h : l ≠ []) : jt l = 44 :: jn l := by
 obtain ⟨x, r, rfl⟩ := List.exists_cons_of_ne_nil h
 rw [Hk, Da]
theorem A25 (a b : List Ad) : jt (a ++ b) = jt a ++ jt b := by simp [jt, Lib.joinTail]
theorem A26 {a : List Ad} (h : a ≠ []) (b : List Ad) : jn (a ++ b) = jn a ++ jt b := by
 obtain ⟨x, r, rfl⟩ := List.exists_cons_of_ne_nil h
 rw [List.cons_append, Da, Da, A25, List.append_assoc]
theorem IG (c : UInt8) (r : Ad) : acc c (c :: r) = (r, true) := by rw [Jz, if_pos rfl]
theorem S0 {c x : UInt8} (h : x ≠ c) (r : Ad) : acc c (x :: r) = (x :: r, false) := by rw [Jz, if_neg h]
theorem X4 {b : Ad} (hb : ∃ t, b = 41 :: t) : ∀ (ws : List Int) (f : Nat) (vs : List Int), ws ≠ [] → ws.length ≤ f → (∀ n ∈ ws, P7 n) → Pa f (jn (ws.map Lib.itoa) ++ b) vs = some (vs ++ ws, b)
 | [], _, _, h, _, _ => absurd rfl h
 | n :: ws, 0, _, _, h, _ => by simp at h
 | n :: ws, f + 1, vs, _, hf, hn => by
  obtain ⟨t, rfl⟩ := hb
  have h1 := hn n List.mem_cons_self
  have hsp := H6 (p := Ap) (a := Lib.itoa n) (b := jt (ws.map Lib.itoa) ++ 41 :: t) (fun c u hc => by
   cases ws with
   | nil => simp [Fc] at hc; rw [← hc.1]; decide
   | cons m ws => rw [List.map_cons, Hk] at hc; simp at hc; rw [← hc.1]; decide) (PD h1.1)
  rw [Pa, List.map_cons, Da, List.append_assoc, hsp.1, hsp.2, Qb h1, if_pos rfl]
  cases ws with
  | nil =>
   rw [List.map_nil, Fc, List.nil_append, S0 (by decide)]
   rfl
  | cons m ws =>
   rw [A5d (by simp), List.cons_append, IG, if_pos rfl]
   dsimp only
   rw [X4 ⟨t, rfl⟩ (m :: ws) f (vs ++ [n]) (by simp) (by simpa using hf) fun x hx => hn x (List.mem_cons_of_mem _ hx)]
   simp
theorem Ue : ∀ l : List Ad, (∀ x ∈ l, x ≠ []) → l.length ≤ (jn l).length
 | [], _ => by simp [Gq]
 | x :: l, h => by
  rw [Da]
  have h1 := List.length_pos_iff.2 (h x List.mem_cons_self)
  have key : ∀ l : List Ad, l.length ≤ (jt l).length := fun l => by
   induction l with
   | nil => simp [Fc]
   | cons y l ih => rw [Hk]; simp; omega
  have := key l
  simp; omega
theorem A02 : ∀ l : List Ad, l.length ≤ (jt l).length := fun l => by
 induction l with
 | nil => simp [Fc]
 | cons y l ih => rw [Hk]; simp; omega
theorem pre41 {r : Ad} : [41] <+: r ↔ ∃ t, r = 41 :: t := by
 constructor
 ·rintro ⟨t, ht⟩; exact ⟨t, ht.symm⟩
 ·rintro ⟨t, rfl⟩; exact ⟨t, rfl⟩
theorem WM {b : Ad} (hb : ∃ t, b = 41 :: t) (ws : List Int) (hn : ∀ n ∈ ws, P7 n) : Gj (jn (ws.map Lib.itoa) ++ b) = some (ws, b) := by
 unfold Gj
 cases ws with
 | nil => rw [List.map_nil, Gq, List.nil_append, if_pos (pre41.2 hb)]
 | cons n ws =>
  have h1 := hn n List.mem_cons_self
  obtain ⟨d, l, e⟩ := List.exists_cons_of_ne_nil (VA h1.1)
  have hd := PD h1.1 d (by rw [e]; exact List.mem_cons_self)
  have hlen := Ue ((n :: ws).map Lib.itoa) fun x hx => by
   obtain ⟨z, hz, rfl⟩ := List.mem_map.1 hx
   exact VA (hn z hz).1
  rw [if_neg, X4 hb (n :: ws) _ [] (by simp) (by simp at hlen ⊢; omega) hn, List.nil_append]
  rw [pre41]
  rintro ⟨t, ht⟩
  rw [List.map_cons, Da, e] at ht
  simp at ht
  rw [ht.1] at hd
  revert hd; decide
structure ShpN (k o m : Int) (v : List Int) (n : Nat) : Prop where
 k1 : 1 ≤ k
 k2 : k ≤ 16
 fn : (Al k).fn = true → 1 ≤ o ∧ o ≤ 6
 cd : (Al k).cd = true → 1 ≤ o ∧ o ≤ 3
 no : (Al k).fn = false → (Al k).cd = false → o = 0
 mb : P7 m
 nm : k = 15 ∨ ((Al k).fn = false ∧ (Al k).cd = false ∧ (Al k).n1 = 0) → m = 0
 nv : (Al k).vs = false → v = []
 vb : ∀ y ∈ v, P7 y
 np : (Al k).vs = true → n = 0
 pn : (Al k).vs = false → 0 ≤ (Al k).parts → (n : Int) = (Al k).parts
mutual
def U1 : St → Prop
 | .mk k o m v p => ShpN k o m v p.length ∧ A06 p
def A06 : List St → Prop
 | [] => True
 | s :: r => U1 s ∧ A06 r
end
structure ShqOk (k : Int) (x : Shq) : Prop where
 zip : k = 15 → x.fn = true
 fc : x.fn = true → x.cd = false
 v1 : x.vs = true → x.fn = false ∧ x.cd = false ∧ x.n1 = 0 ∧ x.parts = 0
 n1 : 0 ≤ x.n1
 pn : x.parts < 0 → x.fn = false ∧ x.cd = false ∧ x.n1 = 0
 wl : ∀ c ∈ x.w, Aq c = true
 wn : x.w ≠ []
theorem Zw : ∀ j : Fin 16, ∃ x, shqs[j.val]? = some x ∧ Al ((j.val : Int) + 1) = x ∧ (((j.val : Int) + 1 = 15 → x.fn = true) ∧ (x.fn = true → x.cd = false) ∧ (x.vs = true → x.fn = false ∧ x.cd = false ∧ x.n1 = 0 ∧ x.parts = 0) ∧ 0 ≤ x.n1 ∧ (x.parts < 0 → x.fn = false ∧ x.cd = false ∧ x.n1 = 0) ∧ x.w.all Aq = true ∧ x.w ≠ []) := by
 intro j
 obtain ⟨j, hj⟩ := j
 iterate 16 (rcases j with _ | j; · exact ⟨_, rfl, rfl, by dsimp only; decide⟩)
 omega
theorem NT {k : Int} (h1 : 1 ≤ k) (h2 : k ≤ 16) : shqs[(k - 1).toNat]? = some (Al k) ∧ ShqOk k (Al k) := by
 obtain ⟨x, a1, a2, b1, b2, b3, b4, b5, b6, b7⟩ := Zw ⟨(k - 1).toNat, by omega⟩
 have e : (((k - 1).toNat : Nat) : Int) + 1 = k := by omega
 dsimp only at a1 a2 b1
 rw [e] at a2 b1
 rw [a1, a2]
 exact ⟨rfl, b1, b2, b3, b4, b5, List.all_eq_true.1 b6, b7⟩
theorem Ux : ∀ w ∈ fnW, (w.all Aq = true) ∧ w ≠ [] := by decide
theorem Un : ∀ w ∈ cdW, (w.all Aq = true) ∧ w ≠ [] := by decide
def YA (x : Shq) : List Ad := if x.fn = true then fnW else cdW
theorem Wk (x : Shq) : (YA x).Nodup := by unfold YA; split <;> decide
theorem VD (x : Shq) : ∀ w ∈ YA x, (∀ c ∈ w, Aq c = true) ∧ w ≠ [] := by
 unfold YA
 split
 ·exact fun w hw => ⟨List.all_eq_true.1 (Ux w hw).1, (Ux w hw).2⟩
 ·exact fun w hw => ⟨List.all_eq_true.1 (Un w hw).1, (Un w hw).2⟩
theorem Z1 {x : Shq} (hx : x.fn = true ∨ x.cd = true) {j : Nat} {w : Ad} (h : (YA x)[j]? = some w) : OP x ((j : Int) + 1) = w := by
 unfold OP
 unfold YA at h
 have e : ((j : Int) + 1 - 1).toNat = j := by omega
 rw [e]
 by_cases hf : x.fn = true
 ·rw [if_pos hf] at h ⊢
  rw [List.getD_eq_getElem?_getD, h]; rfl
 ·rw [if_neg hf] at h ⊢
  rw [if_pos (hx.resolve_left hf), List.getD_eq_getElem?_getD, h]; rfl
theorem YB {x : Shq} {k o m : Int} {v : List Int} {n : Nat} (hs : ShpN k o m v n) (hx : x = Al k) (ho : x.fn = true ∨ x.cd = true) : ∃ j : Nat, o = (j : Int) + 1 ∧ (YA x)[j]? = some (OP x o) := by
 subst hx
 have hlen : (YA (Al k)).length = if (Al k).fn = true then 6 else 3 := by unfold YA; split <;> rfl
 have hb : 1 ≤ o ∧ (o - 1).toNat < (YA (Al k)).length := by
  rw [hlen]
  by_cases hf : (Al k).fn = true
  ·have := hs.fn hf; rw [if_pos hf]; omega
  ·have := hs.cd (ho.resolve_left hf); rw [if_neg hf]; omega
 refine ⟨(o - 1).toNat, by omega, ?_⟩
 have h1 := List.getElem?_eq_getElem hb.2
 have h2 := Z1 ho h1
 have e : (((o - 1).toNat : Nat) : Int) + 1 = o := by omega
 rw [e] at h2
 rw [h1, h2]
theorem A0o {w : Ad} {l : List Ad} {j : Nat} (hn : l.Nodup) (h : l[j]? = some w) : VX w l = ((j : Int) + 1, true) := by
 unfold VX
 rw [Qt hn h]
def Rj (k o m : Int) (v : List Int) (x : Shq) : Bool := !x.vs && decide (BI k o m v x ≠ [])
theorem XC {k o m : Int} {v : List Int} {x : Shq} (hx : ShqOk k x) (h : x.vs = true) : BI k o m v x = v.map Lib.itoa := by
 obtain ⟨h1, h2, h3, _⟩ := hx.v1 h
 have h0 : k ≠ 15 := fun e => by rw [hx.zip e] at h1; cases h1
 unfold BI OP
 simp [h0, h1, h2, h3]
theorem SQ {k o m : Int} {v : List Int} {x : Shq} (h : OP x o ≠ []) : BI k o m v x = if k = 15 then [OP x o] else [OP x o ++ [32] ++ Lib.itoa m] := by
 unfold BI; rw [if_pos h]
theorem PS {k o m : Int} {v : List Int} {x : Shq} (hx : ShqOk k x) (h1 : x.fn = false) (h2 : x.cd = false) : BI k o m v x = if 0 < x.n1 then [Lib.itoa m] else v.map Lib.itoa := by
 have h0 : k ≠ 15 := fun e => by rw [hx.zip e] at h1; cases h1
 unfold BI OP
 simp [h0, h1, h2]
theorem A2c (x : Shq) : (if x.fn = true then fnW else cdW) = YA x := rfl
theorem XV {o m : Int} {b : Ad} (hm : P7 m) (hb : ∃ c t, b = c :: t ∧ (c = 41 ∨ c = 44)) : Pf o (Lib.itoa m ++ b) = some ⟨true, o, m, [], b⟩ := by
 obtain ⟨c, t, rfl, hc⟩ := hb
 obtain ⟨h1, h2⟩ := H6 (p := Ap) (a := Lib.itoa m) (b := c :: t) (fun d u e => by injection e with e _; rw [← e]; rcases hc with rfl | rfl <;> decide) (PD hm.1)
 unfold Pf
 rw [h1, h2, Qb hm, if_pos rfl]
theorem Zg {k o m : Int} {v : List Int} {n : Nat} {x : Shq} {b : Ad} (hs : ShpN k o m v n) (hxk : x = Al k) (hb : BI k o m v x ≠ [] → ∃ c t, b = c :: t ∧ (c = 41 ∨ c = 44)) (hv : x.vs = true → ∃ t, b = 41 :: t) : GR k x (jn (BI k o m v x) ++ b) = some ⟨Rj k o m v x, o, m, v, b⟩ := by
 obtain ⟨hget, hx⟩ := NT hs.k1 hs.k2
 rw [← hxk] at hget hx
 have h0 := hs
 obtain ⟨_, _, _, _, s1, s2, s3, s4, s5, _, _⟩ := hs
 rw [← hxk] at s1 s3 s4
 unfold GR Rj
 rw [A2c]
 by_cases hvs : x.vs = true
 ·obtain ⟨h1, h2, h3, h4⟩ := hx.v1 hvs
  have hm := s3 (.inr ⟨h1, h2, h3⟩)
  have ho := s1 h1 h2
  rw [if_pos hvs, XC hx hvs, WM (hv hvs) v s5, hvs, hm, ho]
  rfl
 ·have hvs' : x.vs = false := by simpa using hvs
  have hvn := s4 hvs'
  subst hvn
  rw [if_neg hvs, hvs']
  by_cases ho : x.fn = true ∨ x.cd = true
  ·obtain ⟨j, hj, hj2⟩ := YB h0 hxk ho
   have hlow := VD x _ (List.mem_of_getElem? hj2)
   rw [SQ hlow.2] at hb ⊢
   rw [if_pos ho]
   by_cases h15 : k = 15
   ·rw [if_pos h15] at hb ⊢
    obtain ⟨c, t, rfl, hc⟩ := hb (by simp)
    obtain ⟨e1, e2⟩ := H6 (p := Aq) (a := OP x o) (b := c :: t) (fun d u e => by injection e with e _; rw [← e]; rcases hc with rfl | rfl <;> decide) hlow.1
    rw [Da, Fc, List.append_nil, e1, e2, A0o (Wk x) hj2, if_pos rfl, if_pos h15, s3 (.inl h15), hj]
    rfl
   ·rw [if_neg h15] at hb ⊢
    obtain ⟨e1, e2⟩ := H6 (p := Aq) (a := OP x o) (b := 32 :: (Lib.itoa m ++ b)) (fun d u e => by injection e with e _; rw [← e]; decide) hlow.1
    have e3 : jn [OP x o ++ [32] ++ Lib.itoa m] ++ b = OP x o ++ 32 :: (Lib.itoa m ++ b) := by rw [Da, Fc]; simp
    rw [e3, e1, e2, A0o (Wk x) hj2, if_pos rfl, if_neg h15, IG, if_pos rfl]
    dsimp only
    rw [XV s2 (hb (by simp)), hj]
    rfl
  ·have h1 : x.fn = false := by cases e : x.fn <;> simp_all
   have h2 : x.cd = false := by cases e : x.cd <;> simp_all
   have ho0 := s1 h1 h2
   rw [PS hx h1 h2] at hb ⊢
   rw [if_neg ho]
   by_cases hn : x.n1 = 0
   ·rw [if_pos hn, s3 (.inr ⟨h1, h2, hn⟩), ho0, hn, if_neg (by omega), List.map_nil, Gq]
    rfl
   ·have hn1 := hx.n1
    have hpos : 0 < x.n1 := by omega
    rw [if_pos hpos] at hb ⊢
    rw [if_neg hn, Da, Fc, List.append_nil, XV s2 (hb (by simp)), ho0]
    rfl
theorem YW {k o m : Int} {v : List Int} {p : List St} : Ax (.mk k o m v p) = (Al k).w ++ [40] ++ jn (BI k o m v (Al k) ++ Ai p) ++ [41] := by rw [Ax]
def jq (c : Bool) (l : List Ad) : Ad := if c = true then jt l else jn l
theorem Tr {k o m : Int} {v : List Int} {x : Shq} {ts : List Ad} (h : x.vs = true → ts = []) : jn (BI k o m v x ++ ts) = jn (BI k o m v x) ++ jq (Rj k o m v x) ts := by
 unfold Rj jq
 by_cases hw : BI k o m v x = []
 ·rw [hw]; simp [Gq]
 ·rw [A26 hw]
  cases hv : x.vs with
  | true => rw [h hv]; simp [Fc, Gq]
  | false => simp [hw]
theorem Qo {s : St} (h : U1 s) : ∃ c t, Ax s = c :: t ∧ Aq c = true := by
 obtain ⟨k, o, m, v, p⟩ := s
 obtain ⟨_, hx⟩ := NT h.1.k1 h.1.k2
 obtain ⟨c, t, e⟩ := List.exists_cons_of_ne_nil hx.wn
 have hl := hx.wl c (by rw [e]; exact List.mem_cons_self)
 rw [Ax, e]
 exact ⟨c, _, rfl, hl⟩
theorem Uv {pr : Ad → Option (St × Ad)} {L : Nat} (hpr : ∀ t r2, U1 t → (Ax t ++ r2).length ≤ L → pr (Ax t ++ r2) = some (t, r2)) {P : Int} {b : Ad} : ∀ (qs : List St) (f i : Nat) (c : Bool) (ps : List St), A06 qs → (jq c (Ai qs) ++ 41 :: b).length ≤ L → qs.length < f → (0 ≤ P → ((i + qs.length : Nat) : Int) = P) → (P < 0 → c = false → qs ≠ []) → G8 pr P f i c (jq c (Ai qs) ++ 41 :: b) ps = some (ps ++ qs, 41 :: b)
 | _, 0, _, _, _, _, _, h, _, _ => by omega
 | [], f + 1, i, c, ps, _, _, _, h1, h2 => by
  rw [G8]
  have e : jq c (Ai []) ++ 41 :: b = 41 :: b := by rw [Ai, jq]; split <;> simp [Fc, Gq]
  rw [e]
  by_cases hP : P < 0
  ·have hc : c = true := by cases c with
    | true => rfl
    | false => exact absurd rfl (h2 hP rfl)
   rw [if_pos (.inr hP), if_pos hc, S0 (by decide), if_neg (by simp), if_pos hP, List.append_nil]
  ·have := h1 (by omega)
   simp only [List.length_nil, Nat.add_zero] at this
   rw [if_neg (by omega), List.append_nil]
 | q :: qs, f + 1, i, c, ps, hs, hL, hf, h1, h2 => by
  have hi : (i : Int) < P ∨ P < 0 := by
   by_cases hP : P < 0
   ·exact .inr hP
   ·have := h1 (by omega); simp only [List.length_cons] at this; exact .inl (by omega)
  have e : jq c (Ai (q :: qs)) ++ 41 :: b = if c = true then 44 :: (Ax q ++ (jq true (Ai qs) ++ 41 :: b)) else Ax q ++ (jq true (Ai qs) ++ 41 :: b) := by
   rw [Ai, jq, jq, if_pos rfl]
   split
   ·rw [Hk]; simp
   ·rw [Da]; simp
  have hL2 : (Ax q ++ (jq true (Ai qs) ++ 41 :: b)).length ≤ L := by
   rw [e] at hL
   split at hL
   ·simp only [List.length_cons] at hL; omega
   ·exact hL
  have hq := hpr q (jq true (Ai qs) ++ 41 :: b) hs.1 hL2
  have ih := Uv hpr (P := P) (b := b) qs f (i + 1) true (ps ++ [q]) hs.2 (by rw [List.length_append] at hL2; omega) (by simpa using hf) (fun h => by have := h1 h; simp only [List.length_cons] at this; omega) (fun _ h => by cases h)
  rw [G8, if_pos hi, e]
  cases c with
  | true =>
   rw [if_pos rfl, if_pos rfl, IG, if_pos rfl]
   dsimp only
   rw [hq]
   dsimp only
   rw [ih, List.append_assoc]; rfl
  | false =>
   rw [if_neg (by decide), if_neg (by decide), hq]
   dsimp only
   rw [ih, List.append_assoc]; rfl
theorem ZW (c : Bool) {qs : List St} (h : A06 qs) : qs.length ≤ (jq c (Ai qs)).length := by
 unfold jq
 split
 ·have := A02 (Ai qs); rw [DO] at this; exact this
 ·have := Ue (Ai qs) fun x hx => by
   rw [MT] at hx
   obtain ⟨s, hs, rfl⟩ := List.mem_map.1 hx
   have hsh : U1 s := by
    clear hx
    induction qs with
    | nil => cases hs
    | cons q r ih =>
     rcases List.mem_cons.1 hs with rfl | hs
     ·exact h.1
     ·exact ih h.2 hs
   obtain ⟨c, t, e, _⟩ := Qo hsh
   rw [e]; simp
  rw [DO] at this; exact this
theorem A0m : ∀ (f : Nat) (s : St) (b : Ad), U1 s → (Ax s ++ b).length < f → Hl f (Ax s ++ b) = some (s, b)
 | 0, _, _, _, h => by omega
 | f + 1, .mk k o m v p, b, hs, hf => by
  obtain ⟨hn, hp⟩ := hs
  obtain ⟨hget, hx⟩ := NT hn.k1 hn.k2
  have hvp : (Al k).vs = true → Ai p = [] := fun e => by rw [List.length_eq_zero_iff.1 (hn.np e)]; rfl
  have e1 : Ax (.mk k o m v p) ++ b = (Al k).w ++ 40 :: (jn (BI k o m v (Al k)) ++ (jq (Rj k o m v (Al k)) (Ai p) ++ 41 :: b)) := by
   rw [YW, Tr hvp]; simp
  have hk : (((k - 1).toNat : Nat) : Int) + 1 = k := by have := hn.k1; omega
  rw [e1] at hf ⊢
  generalize hxx : Al k = x at *
  obtain ⟨t1, t2⟩ := H6 (p := Aq) (a := x.w) (b := 40 :: (jn (BI k o m v x) ++ (jq (Rj k o m v x) (Ai p) ++ 41 :: b))) (fun d u e => by injection e with e _; rw [← e]; decide) hx.wl
  rw [Hl, t1, t2, (Xe hget).1 rfl]
  dsimp only
  rw [hget]
  dsimp only
  rw [IG, if_pos rfl, hk]
  dsimp only
  have hjs : jq (Rj k o m v x) (Ai p) ++ 41 :: b = (jq (Rj k o m v x) (Ai p) ++ 41 :: b) := rfl
  rw [Zg hn hxx.symm (fun hw => by
   cases hvs : x.vs with
   | true =>
    rw [hvp hvs]
    refine ⟨41, b, ?_, .inl rfl⟩
    unfold jq; split <;> simp [Fc, Gq]
   | false =>
    have e : Rj k o m v x = true := by unfold Rj; rw [hvs]; simpa using hw
    rw [e, jq, if_pos rfl]
    cases p with
    | nil => exact ⟨41, b, rfl, .inl rfl⟩
    | cons s r => rw [Ai, Hk]; exact ⟨44, _, rfl, .inr rfl⟩) (fun e => by
    rw [hvp e]
    refine ⟨b, ?_⟩
    unfold jq; split <;> simp [Fc, Gq])]
  dsimp only
  have hlen : (jq (Rj k o m v x) (Ai p) ++ 41 :: b).length + x.w.length + 1 ≤ f := by
   simp only [List.length_append, List.length_cons] at hf ⊢; omega
  have hpp : Gt (Hl f) x (Rj k o m v x) (jq (Rj k o m v x) (Ai p) ++ 41 :: b) = some (p, 41 :: b) := by
   unfold Gt
   split
   ·rename_i hc
    have hp0 : p = [] := by
     rcases hc with e | ⟨e1, e2⟩
     ·exact List.length_eq_zero_iff.1 (hn.np (by rw [hxx]; exact e))
     ·obtain ⟨t, ht⟩ := pre41.1 e2
      obtain ⟨q1, q2, q3⟩ := hx.pn e1
      have hvs : x.vs = false := by
       cases hv : x.vs with
       | false => rfl
       | true => have := (hx.v1 hv).2.2.2; omega
      have hw0 : BI k o m v x = [] := by
       have := hn.nv (by rw [hxx]; exact hvs)
       rw [PS hx q1 q2, q3, if_neg (by omega), this]; rfl
      have e : Rj k o m v x = false := by unfold Rj; rw [hvs, hw0]; rfl
      rw [e, jq, if_neg (by decide)] at ht
      cases p with
      | nil => rfl
      | cons s r =>
       obtain ⟨c, u, e3, e4⟩ := Qo hp.1
       rw [Ai, Da, e3] at ht
       injection ht with ht _
       rw [ht] at e4
       exact absurd e4 (by decide)
    rw [hp0, Ai]
    unfold jq; split <;> simp [Fc, Gq]
   ·rename_i hc
    have hvs : x.vs = false := by
     cases hv : x.vs with
     | false => rfl
     | true => exact absurd (.inl hv) hc
    have := Uv (pr := Hl f) (L := f - 1) (fun t r2 h1 h2 => A0m f t r2 h1 (by have := List.length_pos_iff.2 hx.wn; omega)) (P := x.parts) (b := b) p ((jq (Rj k o m v x) (Ai p) ++ 41 :: b).length + 1) 0 (Rj k o m v x) [] hp (by omega) (by have := ZW (Rj k o m v x) hp; simp; omega) (fun h => by have := hn.pn (by rw [hxx]; exact hvs) (by rw [hxx]; exact h); rw [hxx] at this; simpa using this) (fun h1 h2 hp0 => by
     apply hc
     refine .inr ⟨h1, ?_⟩
     rw [h2, hp0]
     exact pre41.2 ⟨b, by simp [jq, Ai, Gq]⟩)
    rw [this, List.nil_append]
  rw [hpp]
  dsimp only
  rw [IG, if_pos rfl]
end Go.Proofs.YtjdccdelcnmocaaGreatDoor
