/- Templates: the reference finds signs and joins parts; no condition. -/
import Derived.Test.YtnfjgphfaemjcaaGreatDoorMgI
import Derived.Test.YtnfjgphfaemjcaaGreatDoorMdN
import Derived.Test.YtnfjgphfaemjcaaGreatDoorMdO
import Derived.Test.YtnfjgphfaemjcaaGreatDoorMdR
import Derived.Test.YtnfjgphfaemjcaaGreatDoorAdF
import Derived.Test.YtnfjgphfaemjcaaGreatDoorMdP
set_option linter.all false
set_option maxHeartbeats 8000000
namespace Go.Proofs.YtnfjgphfaemjcaaGreatDoor
def Mq (p s : AE) (i : Nat) : Int := match Ar p (s.drop i) with
 | none => -1
 | some (a, _) => (i + a.length : Nat)
theorem PW {p s : AE} (h : s.length < p.length) : Ar p s = none := by
 cases hc : Ar p s with
 | none => rfl
 | some ab => obtain ⟨a, b⟩ := ab; have := Bk hc; omega
theorem Vb {p s : AE} {i : Nat} (hp : p ≠ []) (h : s.length < i + p.length) : Mq p s i = -1 := by
 unfold Mq
 have hd : (s.drop i).length = s.length - i := List.length_drop
 by_cases hi : i ≤ s.length
 ·rw [PW (by omega)]
 ·have e : s.drop i = [] := List.drop_eq_nil_of_le (by omega)
  rw [e]
  have : 0 < p.length := List.length_pos_iff.2 hp
  rw [PW (by simp; omega)]
theorem Xp {p s : AE} {i : Nat} (h : i + p.length ≤ s.length) (hp : p ≠ []) : Mq p s i = if (s.take (i + p.length)).drop i = p then (i : Int) else Mq p s (i + 1) := by
 have hpl : 0 < p.length := List.length_pos_iff.2 hp
 obtain ⟨x, hx⟩ : ∃ x, s[i]? = some x := ⟨_, List.getElem?_eq_getElem (by omega)⟩
 have hd := drop_at hx
 have ht : (s.take (i + p.length)).drop i = (s.drop i).take p.length := by rw [List.drop_take]; congr 1; omega
 have hpre : (p.isPrefixOf (s.drop i) = true) ↔ (s.drop i).take p.length = p := by
  rw [List.isPrefixOf_iff_prefix, List.prefix_iff_eq_take]
  exact ⟨fun h => h.symm, fun h => h.symm⟩
 rw [ht]
 unfold Mq
 rw [hd] at hpre ⊢
 rw [RA]
 by_cases hq : p.isPrefixOf (x :: s.drop (i + 1)) = true
 ·rw [if_pos hq, if_pos (hpre.1 hq)]; simp
 ·rw [if_neg hq, if_neg (fun h => hq (hpre.2 h))]
  cases Ar p (s.drop (i + 1)) with
  | none => rfl
  | some ab => obtain ⟨a, b⟩ := ab; simp; omega
attribute [local simp] KJ EJ EI KX LT Lg L9 EG ED Fy GP LK KU Kz Ji KH J5 J7 J9 LA LF Ki Li Kq KB Qt pe Jv Kn Jl Kx Kb Jz LM K0 KZ KP Jr Jo L0 FN Np Od OB Nv Nq OI ON OA Nt O0 Oj Ns Of O9 Nr Ny O1 OQ OW OK No FX O6 FL OT Og Nj NP NS Nn Nu OF NZ NY NN Oc O4 OM NU NV Ot NX Oe O5 Om OC NQ NW Nx Fr Na OH OP Ok Oi Nk OR O2 On OS Nc OG Ol OU Ob NM Oa NT Nz K8 K2 LL KG Kg Jm Ju Kk K6 L6 LE IS Jc List.mem_cons guardK Dl Ed Er GX Nd Fh FO Fp FY FP FM FJ Fs Fg Nl OV FV Kf Oq OZ OE Nb Nw Fd LX OX Nf Jw La OD I9 Fq FT Fn FZ Ng Ni FQ OJ FW LN Fw Fe KV Fm Ft Nh O8 Oo KF OL Nm KI Jh Sg JD JH H9 JE JI JA Dx G0 Fz L8 G4 G3 E0 Dn UK JM JK G5 JJ JN Ds DY BN BR C0 DZ DI ev get put EW AD D9 KY KN LV Jx JB Kh EO part Ap Gz L1 Gc isNil Cu D4 Da D8 CE Lc LW LO K7 L2 J6 Jq Lf Jf KD L3 LZ Lh Jp LI LQ AV.fits AV.cells ones AV.one E5 Bp E7 DQ EV EN KE FA Fo CH BS Cw G7 E3 AN B6 VJ GL Lj Ke List.getElem?_cons_zero List.getElem?_cons_succ Fa FR Ff KR Kj Ku Gt LH L4 LS LG LD Jt KQ O3 KK Ja KL Ky LY Ko Je LB Ks Kv KO Kp KT L5 K5 Kw LJ Km LU Jy E6
theorem PN (s p : AE) (i : Nat) (hp : p.length = 2) (hs : s.length ≤ 1000000) (hi : i ≤ 1000000) : APure Tryz.prog 75 [.str s, .str p, aI i] (aI (Mq p s i)) := by
 have hne : p ≠ [] := by rintro rfl; cases hp
 obtain ⟨z, hz⟩ : ∃ z, Mq p s i = z := ⟨_, rfl⟩
 rw [hz]
 refine A6 Tryz.func75 A55 rfl fun n H hH => ?_
 repeat' (first | simp -implicitDefEqProofs [c75, -getElem?_pos] | simp (disch := omega) only [AA] | (with_reducible first | exact AI | refine AQ ?_ | intro _g _hg | refine A9 ?_ ?_ | intro _hc) | omega)
 by_cases hi2 : i ≤ s.length
 ·refine LoopK.go (fun m st => ∃ (j : Nat), j + m = s.length ∧ st = ⟨[(0, .str s), (1, .str p), (7, aI j)], n, H⟩ ∧ Mq p s j = z) (s.length - i) ⟨i, by omega, rfl, hz⟩ ?_
  rintro m st ⟨j, hjm, rfl, hE⟩ J hJ
  by_cases hj : j + 2 ≤ s.length
  ·have hj' : (j : Int) + 2 ≤ s.length := by omega
   have ht2 : ((j : Int) + 2).toNat = j + 2 := by omega
   rw [Xp (by omega) hne, hp] at hE
   have hjj : (j : Int) ≤ (j : Int) + 2 := by omega
   by_cases hh : List.drop j (List.take (j + 2) s) = p
   ·rw [if_pos hh] at hE
    repeat' (first | simp -implicitDefEqProofs [Ir, J1, Iz, Ix, c75, -getElem?_pos, hj', ht2, hjj, hh] | simp (disch := omega) only [AA] | (with_reducible first | exact AI | refine AQ ?_ | intro _g _hg | refine A9 ?_ ?_ | intro _hc) | omega)
    all_goals (rw [← hE]; exact A1 _)
   ·rw [if_neg hh] at hE
    repeat' (first | simp -implicitDefEqProofs [Ir, J1, Iz, Ix, c75, -getElem?_pos, hj', ht2, hjj, hh] | simp (disch := omega) only [AA] | (with_reducible first | exact AI | refine AQ ?_ | intro _g _hg | refine A9 ?_ ?_ | intro _hc) | omega)
    all_goals exact hJ (m - 1) _ (by omega) ⟨j + 1, by omega, rfl, hE⟩
  ·have hj' : ¬ (j : Int) + 2 ≤ s.length := by omega
   rw [Vb hne (by omega)] at hE
   repeat' (first | simp -implicitDefEqProofs [Ir, J1, Iz, Ix, c75, -getElem?_pos, hj'] | simp (disch := omega) only [AA] | (with_reducible first | exact AI | refine AQ ?_ | intro _g _hg | refine A9 ?_ ?_ | intro _hc) | omega)
   all_goals (rw [← hE]; exact A1 _)
 ·rw [Vb hne (by omega)] at hz
  have hj' : ¬ (i : Int) + 2 ≤ s.length := by omega
  refine LoopK.round ?_
  repeat' (first | simp -implicitDefEqProofs [Ir, J1, Iz, Ix, c75, -getElem?_pos, hj'] | simp (disch := omega) only [AA] | (with_reducible first | exact AI | refine AQ ?_ | intro _g _hg | refine A9 ?_ ?_ | intro _hc) | omega)
  all_goals (rw [← hz]; exact A1 _)
theorem Mi (el : List AV) (k : Int) (t nm : AE) (pa : List AE) (fs : List (AE × Int)) (eb ee : List AV) (hl : el.length ≤ 100000) (g n n1 : Nat) (H H1 : A3) (en : AH) (h3 : H1 g = some (.cells 55 [aI k, .str t, .str nm, CG pa, Aq fs, .sl 7 eb .ro, .sl 7 ee .ro])) (hgn : g < n1) (hn : n ≤ n1) (hS : SameB n H H1) (hsup : ∀ q, n1 ≤ q → H1 q = none) (e0 : get en 0 = .sl 7 el .ro) (e3 : get en 3 = .ptr g 0) :
  aw Tryz.prog c76_k1 (Ga (.sl 7 (el ++ [.agg [aI k, .str t, .str nm, CG pa, Aq fs, .sl 7 eb .ro, .sl 7 ee .ro]]) .ro) n H [.tmp 4]) ⟨en, n1, H1⟩ := by
 
 repeat' (first | simp -implicitDefEqProofs [HF, -getElem?_pos, e0, e3] | simp (disch := omega) only [AA] | (with_reducible first | exact AI | refine AZ ?_ | intro _g _hg | refine A9 ?_ ?_ | intro _hc) | omega)
 refine P6 (Nat.le_refl _) (FreeH.of hsup) fun g1 n5 q1 q2 q3 q4 => ?_
 repeat' (first | simp -implicitDefEqProofs [HF, HZ, c76, -getElem?_pos] | simp (disch := omega) only [AA] | (with_reducible first | exact AI | refine AZ ?_ | intro _g _hg | refine A9 ?_ ?_ | intro _hc) | omega)
 refine TL q3 ((FreeH.of hsup).upd _ _) ⟨by simp [JW], el, A0 _, by simp; omega, by simp [maxLen]; omega, rfl, by simp [AN], fun g2 n6 r1 r2 r3 => ?_⟩
 simp only [List.nil_append, List.length_nil, Nat.zero_add] at r1 r2 r3 ⊢
 have g31 : g ≠ g1 := by omega
 have g32 : g ≠ g2 := by omega
 have hH6 : upd (upd (upd H1 g1 (some (.row 55 0))) g1 none) g2 (some (.row 55 el.length)) g = some (.cells 55 [aI k, .str t, .str nm, CG pa, Aq fs, .sl 7 eb .ro, .sl 7 ee .ro]) := by rw [upd_ne g32, upd_ne g31, upd_ne g31]; exact h3
 repeat' (first | simp -implicitDefEqProofs [HF, HZ, c76, -getElem?_pos, hH6] | simp (disch := omega) only [AA] | (with_reducible first | exact AI | refine AZ ?_ | intro _g _hg | refine A9 ?_ ?_ | intro _hc) | omega)
 have hu6 : ∀ q, n6 ≤ q → upd (upd (upd H1 g1 (some (.row 55 0))) g1 none) g2 (some (.row 55 el.length)) q = none := fun q hq => by
  simp (disch := omega) only [upd_ne]
  exact hsup q (by omega)
 have hk6 : ∀ q, q < n1 → upd (upd (upd H1 g1 (some (.row 55 0))) g1 none) g2 (some (.row 55 el.length)) q = H1 q := fun q hq => by
  simp (disch := omega) only [upd_ne]
 have hr6 : upd (upd (upd H1 g1 (some (.row 55 0))) g1 none) g2 (some (.row 55 el.length)) g2 = some (.row 55 el.length) := AN _ _ _
 generalize upd (upd (upd H1 g1 (some (.row 55 0))) g1 none) g2 (some (.row 55 el.length)) = H6 at *
 refine P6 (by omega) (FreeH.of hu6) fun g3 n7 s1 s2 s3 s4 => ?_
 have hg32 : g2 ≠ g3 := fun e => by rw [e] at hr6; rw [hr6] at s2; cases s2
 repeat' (first | simp -implicitDefEqProofs [HF, HZ, c76, -getElem?_pos, splice] | simp (disch := omega) only [AA] | (with_reducible first | exact AI | refine AZ ?_ | intro _g _hg | refine A9 ?_ ?_ | intro _hc) | omega)
 refine TL (by omega) ((FreeH.of hu6).upd _ _) ⟨by simp [JW], [_], A0 _, by simp; omega, by simp [maxLen]; omega, rfl, by show upd H6 g3 _ g2 = _; rw [upd_ne hg32]; simpa using hr6, fun g4 n8 t1 t2 t3 => ?_⟩
 simp only [List.length_singleton] at t1 t2 t3 ⊢
 repeat' (first | simp -implicitDefEqProofs [HF, HZ, c76, -getElem?_pos, splice] | simp (disch := omega) only [AA] | (with_reducible first | exact AI | refine AZ ?_ | intro _g _hg | refine A9 ?_ ?_ | intro _hc) | omega)
 all_goals first
  | exact ⟨_, _, _, rfl, .inl rfl, .inl rfl, A0 _⟩
  | omega
  | (intro q hq; simp (disch := omega) only [upd_ne]; rw [hk6 q (by omega)]; exact hS q hq)
theorem K9 (l : List Pt) (y : Pt) : AB (l ++ [y]) = AB l ++ [Hq y] := by rw [MS]; simp [AB]
theorem IG (l : List Pt) (k : Int) (t nm : AE) (pa : List AE) (fs : List (AE × Int)) (b e : List Pt) (hl : N0 90000 l) (ht : t.length ≤ 100000) (hx : k = 1 → Pt.mk k t nm pa fs b e = tP t) :
  APure Tryz.prog 76 [Cr l, .agg [aI k, .str t, .str nm, CG pa, Aq fs, .sl 7 (AB b) .ro, .sl 7 (AB e) .ro]] (Cr (BC (.mk k t nm pa fs b e) l)) := by
 obtain ⟨hl1, hl2, hl3⟩ := hl
 rcases List.eq_nil_or_concat l with rfl | ⟨l', y, rfl⟩
 ·have e0 : Cr (BC (.mk k t nm pa fs b e) []) = .sl 7 ([] ++ [.agg [aI k, .str t, .str nm, CG pa, Aq fs, .sl 7 (AB b) .ro, .sl 7 (AB e) .ro]]) .ro := by
   have : BC (Pt.mk k t nm pa fs b e) [] = [.mk k t nm pa fs b e] := rfl
   rw [this]; simp [AB, B7]
  rw [e0]
  generalize AB b = eb at *
  generalize AB e = ee at *
  have hfin : ∀ (g n : Nat) (H : A3) (en : AH), n ≤ g → (∀ q, n ≤ q → H q = none) → get en 0 = .sl 7 [] .ro → get en 3 = .ptr g 0 → aw Tryz.prog c76_k1 (Ga (.sl 7 ([] ++ [.agg [aI k, .str t, .str nm, CG pa, Aq fs, .sl 7 eb .ro, .sl 7 ee .ro]]) .ro) n H [.tmp 4]) ⟨en, g + 1, upd H g (some (.cells 55 [aI k, .str t, .str nm, CG pa, Aq fs, .sl 7 eb .ro, .sl 7 ee .ro]))⟩ := fun g n H en hg hH e0 e3 => Mi [] k t nm pa fs eb ee (by simp) g n (g + 1) H _ en (AN _ _ _) (by omega) (by omega) (fun q hq => upd_ne (by omega)) (fun q hq => by rw [upd_ne (by omega)]; exact hH q (by omega)) e0 e3
  have e1 : AB [] = [] := rfl
  refine A6 Tryz.func76 VZ rfl fun n H hH => ?_
  repeat' (first | simp -implicitDefEqProofs [c76, -getElem?_pos, e1] | simp (disch := omega) only [AA] | (with_reducible first | exact AI | refine AZ ?_ | intro _g _hg | refine A9 ?_ ?_ | intro _hc) | omega)
  all_goals (refine hfin _ _ _ _ (by assumption) hH ?_ ?_ <;> rfl)
 ·simp only [List.concat_eq_append] at *
  have hll : l'.length ≤ 90000 := by simp at hl1; omega
  have hel : (AB (l' ++ [y])).length = l'.length + 1 := by rw [B3]; simp
  have hel' := B3 l'
  have hen := K9 l' y
  have hyt : y.k = 1 → y.t.length ≤ 90000 := fun _ => Qp (bdPs_iff.1 hl2 y (by simp))
  obtain ⟨yk, yt, yn, yp, yf, yb, ye⟩ := y
  simp only [Pt.k, Pt.t] at hyt
  have hsn : BC (.mk k t nm pa fs b e) (l' ++ [.mk yk yt yn yp yf yb ye]) = if k = 1 ∧ yk = 1 then l' ++ [tP (yt ++ t)] else l' ++ [.mk yk yt yn yp yf yb ye] ++ [.mk k t nm pa fs b e] := MT _ _ _
  rw [B7] at hen
  have hq0 : (AB (l' ++ [Pt.mk yk yt yn yp yf yb ye]))[l'.length]? = some (.agg [aI yk, .str yt, .str yn, CG yp, Aq yf, .sl 7 (AB yb) .ro, .sl 7 (AB ye) .ro]) := by rw [hen, ← hel', List.getElem?_append_right (Nat.le_refl _)]; simp
  have htk : List.take l'.length (AB (l' ++ [Pt.mk yk yt yn yp yf yb ye])) = AB l' := by rw [hen, ← hel', List.take_left' rfl]
  have hi : ((l'.length : Int) + 1 - 1) = l'.length := by omega
  have hil : (l'.length : Int) ≤ (l'.length : Int) + 1 := by omega
  have hpos : (0 : Int) < (l'.length : Int) + 1 := by omega
  by_cases hk : k = 1 ∧ yk = 1
  ·rw [if_pos hk] at hsn
   obtain ⟨rfl, rfl⟩ := hk
   have hyt := hyt rfl
   have hx2 := hx rfl
   unfold tP at hx2
   injection hx2 with _ _ x1 x2 x3 x4 x5
   subst x1; subst x2; subst x3; subst x4; subst x5
   have e0 : Cr (BC (.mk 1 t [] [] [] [] []) (l' ++ [.mk 1 yt yn yp yf yb ye])) = .sl 7 (AB l' ++ [.agg [aI 1, .str (yt ++ t), .str [], CG [], Aq [], .sl 7 [] .ro, .sl 7 [] .ro]]) .ro := by
    rw [hsn]
    show AV.sl 7 (AB (l' ++ [tP (yt ++ t)])) .ro = _
    rw [K9]; unfold tP; rw [B7]; rfl
   rw [e0]
   have hfin : ∀ (g n : Nat) (H : A3) (en : AH) (ob : Option AObj), n ≤ g → (∀ q, n ≤ q → H q = none) → get en 0 = .sl 7 (AB l') .ro → get en 3 = .ptr g 0 → aw Tryz.prog c76_k1 (Ga (.sl 7 (AB l' ++ [.agg [aI 1, .str (yt ++ t), .str [], CG [], Aq [], .sl 7 [] .ro, .sl 7 [] .ro]]) .ro) n H [.tmp 4]) ⟨en, g + 1, upd (upd H g ob) g (some (.cells 55 [aI 1, .str (yt ++ t), .str [], CG [], Aq [], .sl 7 [] .ro, .sl 7 [] .ro]))⟩ := fun g n H en ob hg hH e0 e3 => Mi (AB l') 1 (yt ++ t) [] [] [] [] [] (by omega) g n (g + 1) H _ en (AN _ _ _) (by omega) (by omega) (fun q hq => by rw [upd_ne (by omega), upd_ne (by omega)]) (fun q hq => by rw [upd_ne (by omega), upd_ne (by omega)]; exact hH q (by omega)) e0 e3
   have e1 : AB [] = [] := rfl
   show APure _ _ [.sl 7 (AB (l' ++ [Pt.mk 1 yt yn yp yf yb ye])) .ro, _] _
   generalize AB (l' ++ [Pt.mk 1 yt yn yp yf yb ye]) = el at *
   refine A6 Tryz.func76 VZ rfl fun n H hH => ?_
   repeat' (first | simp -implicitDefEqProofs [c76, HZ, -getElem?_pos, e1, hel, hq0, htk, hi, hil, hpos, splice] | simp (disch := omega) only [AA] | (with_reducible first | exact AI | refine AZ ?_ | intro _g _hg | refine A9 ?_ ?_ | intro _hc) | omega)
   all_goals (refine hfin _ _ _ _ _ (by assumption) hH ?_ ?_ <;> rfl)
  ·rw [if_neg hk] at hsn
   have e0 : Cr (BC (.mk k t nm pa fs b e) (l' ++ [.mk yk yt yn yp yf yb ye])) = .sl 7 (AB (l' ++ [.mk yk yt yn yp yf yb ye]) ++ [.agg [aI k, .str t, .str nm, CG pa, Aq fs, .sl 7 (AB b) .ro, .sl 7 (AB e) .ro]]) .ro := by
    rw [hsn]
    show AV.sl 7 (AB (l' ++ [.mk yk yt yn yp yf yb ye] ++ [.mk k t nm pa fs b e])) .ro = _
    rw [K9 (l' ++ [Pt.mk yk yt yn yp yf yb ye]) (Pt.mk k t nm pa fs b e), B7 k t nm pa fs b e]
   rw [e0]
   generalize AB b = eb at *
   generalize AB e = ee at *
   have hfin : ∀ (g n : Nat) (H : A3) (en : AH), n ≤ g → (∀ q, n ≤ q → H q = none) → get en 0 = .sl 7 (AB (l' ++ [.mk yk yt yn yp yf yb ye])) .ro → get en 3 = .ptr g 0 → aw Tryz.prog c76_k1 (Ga (.sl 7 (AB (l' ++ [.mk yk yt yn yp yf yb ye]) ++ [.agg [aI k, .str t, .str nm, CG pa, Aq fs, .sl 7 eb .ro, .sl 7 ee .ro]]) .ro) n H [.tmp 4]) ⟨en, g + 1, upd H g (some (.cells 55 [aI k, .str t, .str nm, CG pa, Aq fs, .sl 7 eb .ro, .sl 7 ee .ro]))⟩ := fun g n H en hg hH e0 e3 => Mi _ k t nm pa fs eb ee (by omega) g n (g + 1) H _ en (AN _ _ _) (by omega) (by omega) (fun q hq => upd_ne (by omega)) (fun q hq => by rw [upd_ne (by omega)]; exact hH q (by omega)) e0 e3
   show APure _ _ [.sl 7 (AB (l' ++ [Pt.mk yk yt yn yp yf yb ye])) .ro, _] _
   generalize AB (l' ++ [Pt.mk yk yt yn yp yf yb ye]) = el at *
   by_cases hk1 : k = 1
   ·have hyk : ¬ yk = 1 := fun h => hk ⟨hk1, h⟩
    subst hk1
    refine A6 Tryz.func76 VZ rfl fun n H hH => ?_
    repeat' (first | simp -implicitDefEqProofs [c76, -getElem?_pos, hel, hq0, hi, hpos, hyk] | simp (disch := omega) only [AA] | (with_reducible first | exact AI | refine AZ ?_ | intro _g _hg | refine A9 ?_ ?_ | intro _hc) | omega)
    all_goals (refine hfin _ _ _ _ (by assumption) hH ?_ ?_ <;> rfl)
   ·refine A6 Tryz.func76 VZ rfl fun n H hH => ?_
    repeat' (first | simp -implicitDefEqProofs [c76, -getElem?_pos, hel, hq0, hi, hpos, hk1] | simp (disch := omega) only [AA] | (with_reducible first | exact AI | refine AZ ?_ | intro _g _hg | refine A9 ?_ ?_ | intro _hc) | omega)
    all_goals (refine hfin _ _ _ _ (by assumption) hH ?_ ?_ <;> rfl)
def Lo : Dir → Int | .bad => 0 | .opn => 1 | .fld _ => 2 | .bgn p => p.k | .els => 5 | .fin => 6
def FE : Dir → Pt | .fld p => p | .bgn p => p | _ => .mk 0 [] [] [] [] [] []
def agD (kd k : Int) (t nm : AE) (pa : List AE) (fs : List (AE × Int)) : AV := .agg [aI kd, aI k, .str t, .str nm, CG pa, Aq fs, .sl 7 [] .ro, .sl 7 [] .ro]
def Wu (d : Dir) : AV := agD (Lo d) (FE d).k (FE d).t (FE d).n (FE d).pa (FE d).fs
theorem MH : A4 (.agg [aI 0, aI 0, .str [], .str [], .sl 0 [] .nil, .sl 0 [] .nil, .sl 0 [] .nil, .sl 0 [] .nil]) (Wu .bad) :=
 Cp (A2 (A1 _) (A2 (A1 _) (A2 (A1 _) (A2 (A1 _) (A2 (Aa 1) (A2 (Aa 2) (A2 (Aa 7) (A2 (Aa 7) rfl))))))))
abbrev A3z : AObj := .cells 133 [aI 0, aI 0, .str [], .str [], .sl 0 [] .nil, .sl 0 [] .nil, .sl 0 [] .nil, .sl 0 [] .nil]
theorem VN (s : AE) (hs : s.length ≤ 100000) (g2 g4 n n1 : Nat) (H H1 : A3) (en : AH) (h2 : H1 g2 = some A3z) (h4 : H1 g4 = some (.cells 55 [aI 3, .str [], .str [], .sl 0 [] .nil, .sl 0 [] .nil, .sl 0 [] .nil, .sl 0 [] .nil])) (hne : g2 ≠ g4) (h2n : n ≤ g2 ∧ g2 < n1) (h4n : n ≤ g4 ∧ g4 < n1) (hn : n ≤ n1) (hS : SameB n H H1) (hsup : ∀ q, n1 ≤ q → H1 q = none) (e0 : get en 0 = .str s) (e2 : get en 2 = .ptr g2 0) (e4 : get en 4 = .ptr g4 0) :
  aw Tryz.prog c77_k10 (Ga (Wu (MC s)) n H [.cell 2 (some 8)]) ⟨en, n1, H1⟩ := by
 have hsp := Hm s 124 (by omega)
 have hsl := EY 124 s
 obtain ⟨hd, tl, hspl⟩ := List.exists_cons_of_ne_nil (Fu 124 s)
 have hmem := Bn 124 s
 rw [hspl] at hmem hsp hsl
 have hdl : hd.length ≤ 100000 := by have := hmem hd (by simp); omega
 have htl : ∀ x ∈ tl, x.length ≤ 100000 := fun x hx => by have := hmem x (by simp [hx]); omega
 have hD : MC s = if B5 (Ct 46 hd) = true then (match Gp tl with | some fs => .fld (.mk 2 [] [] (Ct 46 hd) fs [] []) | none => .bad) else .bad := by unfold MC; rw [hspl]; dsimp only; cases Gp tl <;> rfl
 have hsp2 := Hm hd 46 (by omega)
 have hpl := EY 46 hd
 have hpm : ∀ x ∈ Ct 46 hd, x.length ≤ 2000000 := fun x hx => by have := Bn 46 hd x hx; omega
 have hpa := Ow (Ct 46 hd) hpm (by omega)
 simp only [List.length_cons] at hsl
 generalize Ct 46 hd = pa at *
 obtain ⟨h2a, h2b⟩ := h2n
 obtain ⟨h4a, h4b⟩ := h4n
 
 by_cases hp : B5 pa = true
 ·rw [if_pos hp] at hD
  rw [hp] at hpa
  repeat' (first | simp -implicitDefEqProofs [Q2, XC, -getElem?_pos, e0, e2, e4, h2, h4, hne, Ne.symm hne, splice] | simp (disch := omega) only [AA] | ((with_reducible refine A8 26 ?_); (refine' CallP.sf ?_ (hsp) ?_); (focus first | (with_reducible exact A0 _) | (simp [A5, A4, A1, A0]; done))) | ((with_reducible refine A8 26 ?_); (refine' CallP.sf ?_ (hsp2) ?_); (focus first | (with_reducible exact A0 _) | (simp [A5, A4, A1, A0]; done))) | ((with_reducible refine A8 106 ?_); (refine' CallP.sf ?_ (hpa) ?_); (focus first | (with_reducible exact A0 _) | (simp [A5, A4, A1, A0]; done))) | (with_reducible first | exact AI | refine AZ ?_ | intro _g _hg | refine A9 ?_ ?_ | intro _hc) | omega)
  refine LoopK.go (fun m st' => ∃ (j n2 : Nat) (H2 : A3) (fsd : List (AE × Int)) (vf : AV), j + m = tl.length ∧ st' = ⟨[(2, .ptr g2 0), (4, .ptr g4 0), (5, CG (hd :: tl)), (6, .int .i64 ((j : Int) + 1))], n2, H2⟩ ∧ n1 ≤ n2 ∧ SameB n H H2 ∧ (∀ q, n2 ≤ q → H2 q = none) ∧ H2 g2 = some A3z ∧ H2 g4 = some (.cells 55 [aI 2, .str [], .str [], CG pa, vf, .sl 0 [] .nil, .sl 0 [] .nil]) ∧ Flr vf fsd n1 n2 H2 ∧ Gp tl = (Gp (tl.drop j)).map (fsd ++ ·) ∧ fsd.length = j) tl.length ⟨0, _, _, [], .sl 0 [] .nil, by omega, rfl, by omega, fun q hq => by simp (disch := omega) only [upd_ne]; exact hS q hq, fun q hq => by simp (disch := omega) only [upd_ne]; exact hsup q (by omega), by simp (disch := omega) only [upd_ne]; exact h2, AN _ _ _, .inl ⟨rfl, rfl⟩, by simp, rfl⟩ ?_
  rintro m st' ⟨j, n2, H2, fsd, vf, hjm, rfl, hn2, hS2, hs2, h22, h42, hF, hE, hfl⟩ J hJ
  have hvone := hF.one
  by_cases hj : j < tl.length
  ·obtain ⟨x, hx⟩ : ∃ x, tl[j]? = some x := ⟨_, List.getElem?_eq_getElem hj⟩
   have hx2 : (tl.map AV.str)[j]? = some (.str x) := by rw [List.getElem?_map, hx]; rfl
   have hj' : (j : Int) + 1 < tl.length + 1 := by omega
   have hjn : ((j : Int) + 1).toNat = j + 1 := by omega
   have hdr : Gp (tl.drop j) = match fltR x with | none => none | some f => (Gp (tl.drop (j + 1))).map (f :: ·) := by
    rw [drop_at hx, Gp]
    cases fltR x <;> rfl
   rw [hdr] at hE
   clear hdr
   have hxl := htl x (List.mem_of_getElem? hx)
   have hsx := Hm x 32 (by omega)
   have hO := fltR.eq_1 x
   have hxm := Bn 32 x
   obtain ⟨a, rest, hax⟩ := List.exists_cons_of_ne_nil (Fu 32 x)
   rw [hax] at hsx hO hxm
   have hfk := Ro a
   have hk3 := HO a
   have _hq := h42
   cases rest with
   | nil =>
    simp only at hO
    by_cases hk : IA a = 1
    ·rw [if_pos hk] at hO
     rw [hO] at hE
     rw [hk] at hfk
     repeat' (first | simp -implicitDefEqProofs [EM, Ey, J0, Qm, RK, Iv, Qs, -getElem?_pos, hx2, hj', hjn, h22, _hq, splice] | simp (disch := omega) only [AA] | ((refine Flr.app (g6 := g4) (f := (a, 0)) (hF.keep (by omega) (fun q hq => by simp (disch := omega) only [upd_ne])) ⟨_, _, (by simp (disch := omega) only [upd_ne]; exact h42)⟩ (by omega) (by omega) (by omega) ?_); intro g' n' H' hle hF2 h62 hS3 hsu3; (have h63 : H' g4 = some (.cells 55 [aI 2, .str [], .str [], CG pa, vf, .sl 0 [] .nil, .sl 0 [] .nil]) := h62.trans (by simp (disch := omega) only [upd_ne]; exact h42)); (have _hq := h63)) | ((with_reducible refine A8 26 ?_); (refine' CallP.sf ?_ (hsx) ?_); (focus first | (with_reducible exact A0 _) | (simp [A5, A4, A1, A0]; done))) | ((with_reducible refine A8 37 ?_); (refine' CallP.sf ?_ (hfk) ?_); (focus first | (with_reducible exact A0 _) | (simp [A5, A4, A1, A0]; done))) | (with_reducible first | exact AI | refine AZ ?_ | intro _g _hg | refine A9 ?_ ?_ | intro _hc) | omega)
     all_goals
      have hg6 : g' ≠ g4 := by
       rintro rfl
       rw [hF2.2.2] at h63; cases h63
      refine hJ (m - 1) _ (by omega) ⟨j + 1, n', _, fsd ++ [(a, (0 : Int))], .sl 2 ((fsd ++ [(a, (0 : Int))]).map WG) (.own g'), by omega, rfl, by omega, fun q hq => ?_, fun q hq => ?_, ?_, ?_, .inr ⟨g', by omega, hF2.2.1, rfl, ?_⟩, ?_, by simp [hfl]⟩
      ·rw [upd_ne (by omega), hS3 q (by omega)]
       simp (disch := omega) only [upd_ne]
       exact hS2 q hq
      ·rw [upd_ne (by omega)]
       exact hsu3 (fun q hq => by simp (disch := omega) only [upd_ne]; exact hs2 q (by omega)) q hq
      ·rw [upd_ne hne, hS3 g2 (by omega)]
       simp (disch := omega) only [upd_ne]
       exact h22
      ·simp [AN]
      ·rw [upd_ne hg6]; exact hF2.2.2
      ·rw [hE]
       cases Gp (tl.drop (j + 1)) <;> simp
    ·rw [if_neg hk] at hO
     rw [hO] at hE
     have hki : ¬ ((IA a : Nat) : Int) = 1 := by omega
     repeat' (first | simp -implicitDefEqProofs [EM, Ey, -getElem?_pos, hx2, hj', hjn, h22, h42, hki, splice] | simp (disch := omega) only [AA] | ((with_reducible refine A8 26 ?_); (refine' CallP.sf ?_ (hsx) ?_); (focus first | (with_reducible exact A0 _) | (simp [A5, A4, A1, A0]; done))) | ((with_reducible refine A8 37 ?_); (refine' CallP.sf ?_ (hfk) ?_); (focus first | (with_reducible exact A0 _) | (simp [A5, A4, A1, A0]; done))) | (with_reducible first | exact AI | refine AZ ?_ | intro _g _hg | refine A9 ?_ ?_ | intro _hc) | omega)
     all_goals first
      | (rw [hD, hE]; exact MH)
      | (intro q hq; simp (disch := omega) only [upd_ne]; exact hS2 q hq)
      | omega
   | cons b rest =>
    have hbl : b.length ≤ 100000 := by have := hxm b (by simp); omega
    cases rest with
    | nil =>
     simp only at hO
     have hnb := T0 b (by omega)
     obtain ⟨hn1, hn3⟩ := Vu b
     rw [hn1] at hnb
     by_cases hk : IA a = 2
     ·rw [hk] at hfk hO
      simp only [true_and] at hO
      cases hnm : (Bg b).2 with
      | false =>
       rw [hnm] at hO hnb
       simp only [Bool.false_eq_true, false_and, if_false] at hO
       rw [hO] at hE
       generalize (Hv b).1 = v at *
       repeat' (first | simp -implicitDefEqProofs [EM, Ey, J0, Iv, -getElem?_pos, hx2, hj', hjn, h22, h42, splice] | simp (disch := omega) only [AA] | ((with_reducible refine A8 26 ?_); (refine' CallP.sf ?_ (hsx) ?_); (focus first | (with_reducible exact A0 _) | (simp [A5, A4, A1, A0]; done))) | ((with_reducible refine A8 37 ?_); (refine' CallP.sf ?_ (hfk) ?_); (focus first | (with_reducible exact A0 _) | (simp [A5, A4, A1, A0]; done))) | ((with_reducible refine A8 116 ?_); (refine' CallP.sf ?_ (hnb) ?_); (focus first | (with_reducible exact A0 _) | (simp [A5, A4, A1, A0]; done))) | (with_reducible first | exact AI | refine AZ ?_ | intro _g _hg | refine A9 ?_ ?_ | intro _hc) | omega)
       all_goals first
        | (rw [hD, hE]; exact MH)
        | (intro q hq; simp (disch := omega) only [upd_ne]; exact hS2 q hq)
        | omega
      | true =>
       rw [hnm] at hO hnb
       rw [hn3 hnm] at hnb
       simp only [true_and] at hO
       generalize (Bg b).1 = v at *
       by_cases hv : 0 ≤ v
       ·rw [if_pos hv] at hO
        rw [hO] at hE
        have hv' : ¬ v < 0 := by omega
        repeat' (first | simp -implicitDefEqProofs [EM, Ey, J0, Qm, RK, Iv, Qs, -getElem?_pos, hx2, hj', hjn, h22, _hq, hv', splice] | simp (disch := omega) only [AA] | ((refine Flr.app (g6 := g4) (f := (a, v)) (hF.keep (by omega) (fun q hq => by simp (disch := omega) only [upd_ne])) ⟨_, _, (by simp (disch := omega) only [upd_ne]; exact h42)⟩ (by omega) (by omega) (by omega) ?_); intro g' n' H' hle hF2 h62 hS3 hsu3; (have h63 : H' g4 = some (.cells 55 [aI 2, .str [], .str [], CG pa, vf, .sl 0 [] .nil, .sl 0 [] .nil]) := h62.trans (by simp (disch := omega) only [upd_ne]; exact h42)); (have _hq := h63)) | ((with_reducible refine A8 26 ?_); (refine' CallP.sf ?_ (hsx) ?_); (focus first | (with_reducible exact A0 _) | (simp [A5, A4, A1, A0]; done))) | ((with_reducible refine A8 37 ?_); (refine' CallP.sf ?_ (hfk) ?_); (focus first | (with_reducible exact A0 _) | (simp [A5, A4, A1, A0]; done))) | ((with_reducible refine A8 116 ?_); (refine' CallP.sf ?_ (hnb) ?_); (focus first | (with_reducible exact A0 _) | (simp [A5, A4, A1, A0]; done))) | (with_reducible first | exact AI | refine AZ ?_ | intro _g _hg | refine A9 ?_ ?_ | intro _hc) | omega)
        all_goals
         have hg6 : g' ≠ g4 := by
          rintro rfl
          rw [hF2.2.2] at h63; cases h63
         refine hJ (m - 1) _ (by omega) ⟨j + 1, n', _, fsd ++ [(a, v)], .sl 2 ((fsd ++ [(a, v)]).map WG) (.own g'), by omega, rfl, by omega, fun q hq => ?_, fun q hq => ?_, ?_, ?_, .inr ⟨g', by omega, hF2.2.1, rfl, ?_⟩, ?_, by simp [hfl]⟩
         ·rw [upd_ne (by omega), hS3 q (by omega)]
          simp (disch := omega) only [upd_ne]
          exact hS2 q hq
         ·rw [upd_ne (by omega)]
          exact hsu3 (fun q hq => by simp (disch := omega) only [upd_ne]; exact hs2 q (by omega)) q hq
         ·rw [upd_ne hne, hS3 g2 (by omega)]
          simp (disch := omega) only [upd_ne]
          exact h22
         ·simp [AN]
         ·rw [upd_ne hg6]; exact hF2.2.2
         ·rw [hE]
          cases Gp (tl.drop (j + 1)) <;> simp
       ·rw [if_neg hv] at hO
        rw [hO] at hE
        have hv' : v < 0 := by omega
        repeat' (first | simp -implicitDefEqProofs [EM, Ey, J0, Iv, -getElem?_pos, hx2, hj', hjn, h22, h42, hv', splice] | simp (disch := omega) only [AA] | ((with_reducible refine A8 26 ?_); (refine' CallP.sf ?_ (hsx) ?_); (focus first | (with_reducible exact A0 _) | (simp [A5, A4, A1, A0]; done))) | ((with_reducible refine A8 37 ?_); (refine' CallP.sf ?_ (hfk) ?_); (focus first | (with_reducible exact A0 _) | (simp [A5, A4, A1, A0]; done))) | ((with_reducible refine A8 116 ?_); (refine' CallP.sf ?_ (hnb) ?_); (focus first | (with_reducible exact A0 _) | (simp [A5, A4, A1, A0]; done))) | (with_reducible first | exact AI | refine AZ ?_ | intro _g _hg | refine A9 ?_ ?_ | intro _hc) | omega)
        all_goals first
         | (rw [hD, hE]; exact MH)
         | (intro q hq; simp (disch := omega) only [upd_ne]; exact hS2 q hq)
         | omega
     ·rw [if_neg (fun h => hk h.1)] at hO
      rw [hO] at hE
      have hki : ¬ ((IA a : Nat) : Int) = 2 := by omega
      repeat' (first | simp -implicitDefEqProofs [EM, Ey, -getElem?_pos, hx2, hj', hjn, h22, h42, hki, splice] | simp (disch := omega) only [AA] | ((with_reducible refine A8 26 ?_); (refine' CallP.sf ?_ (hsx) ?_); (focus first | (with_reducible exact A0 _) | (simp [A5, A4, A1, A0]; done))) | ((with_reducible refine A8 37 ?_); (refine' CallP.sf ?_ (hfk) ?_); (focus first | (with_reducible exact A0 _) | (simp [A5, A4, A1, A0]; done))) | (with_reducible first | exact AI | refine AZ ?_ | intro _g _hg | refine A9 ?_ ?_ | intro _hc) | omega)
      all_goals first
       | (rw [hD, hE]; exact MH)
       | (intro q hq; simp (disch := omega) only [upd_ne]; exact hS2 q hq)
       | omega
    | cons c rest =>
     simp only at hO
     rw [hO] at hE
     have hki : ¬ ((IA a : Nat) : Int) = (rest.length : Int) + 1 + 1 + 1 := by omega
     repeat' (first | simp -implicitDefEqProofs [EM, Ey, -getElem?_pos, hx2, hj', hjn, h22, h42, hki, splice] | simp (disch := omega) only [AA] | ((with_reducible refine A8 26 ?_); (refine' CallP.sf ?_ (hsx) ?_); (focus first | (with_reducible exact A0 _) | (simp [A5, A4, A1, A0]; done))) | ((with_reducible refine A8 37 ?_); (refine' CallP.sf ?_ (hfk) ?_); (focus first | (with_reducible exact A0 _) | (simp [A5, A4, A1, A0]; done))) | (with_reducible first | exact AI | refine AZ ?_ | intro _g _hg | refine A9 ?_ ?_ | intro _hc) | omega)
     all_goals first
      | (rw [hD, hE]; exact MH)
      | (intro q hq; simp (disch := omega) only [upd_ne]; exact hS2 q hq)
      | omega
  ·have hj0 : j = tl.length := by omega
   subst hj0
   have hj' : ¬ (tl.length : Int) + 1 < tl.length + 1 := by omega
   rw [List.drop_length] at hE
   simp only [Gp, Option.map_some, List.append_nil] at hE
   rw [hE] at hD
   rw [hD]
   have hsim := hvone.2.2.2
   have o1 := hvone.1
   unfold AV.one at o1
   repeat' (first | simp -implicitDefEqProofs [EM, XB, -getElem?_pos, hj', h22, h42, splice, o1] | simp (disch := omega) only [AA] | (with_reducible first | exact AI | refine AZ ?_ | intro _g _hg | refine A9 ?_ ?_ | intro _hc) | omega)
   all_goals first
    | exact Cp (A2 (A1 _) (A2 (A1 _) (A2 (A1 _) (A2 (A1 _) (A2 (A1 _) (A2 hsim (A2 (Aa 7) (A2 (Aa 7) rfl))))))))
    | (intro q hq; rw [upd_ne (by omega)]; exact hS2 q hq)
 ·have hp' : B5 pa = false := by simpa using hp
  rw [if_neg hp] at hD
  rw [hD]
  rw [hp'] at hpa
  repeat' (first | simp -implicitDefEqProofs [Q2, -getElem?_pos, e0, e2, e4, h2, h4, hne, Ne.symm hne, splice] | simp (disch := omega) only [AA] | ((with_reducible refine A8 26 ?_); (refine' CallP.sf ?_ (hsp) ?_); (focus first | (with_reducible exact A0 _) | (simp [A5, A4, A1, A0]; done))) | ((with_reducible refine A8 26 ?_); (refine' CallP.sf ?_ (hsp2) ?_); (focus first | (with_reducible exact A0 _) | (simp [A5, A4, A1, A0]; done))) | ((with_reducible refine A8 106 ?_); (refine' CallP.sf ?_ (hpa) ?_); (focus first | (with_reducible exact A0 _) | (simp [A5, A4, A1, A0]; done))) | (with_reducible first | exact AI | refine AZ ?_ | intro _g _hg | refine A9 ?_ ?_ | intro _hc) | omega)
  all_goals first
   | exact MH
   | (intro q hq; simp (disch := omega) only [upd_ne]; exact hS q hq)
theorem A5b (kd k : Int) (t nm : AE) (pa : List AE) (fs : List (AE × Int)) : A4 (.agg [aI kd, aI k, .str t, .str nm, CG pa, .sl 0 [] .nil, .sl 0 [] .nil, .sl 0 [] .nil]) (agD kd k t nm pa []) :=
 Cp (A2 (A1 _) (A2 (A1 _) (A2 (A1 _) (A2 (A1 _) (A2 (A1 _) (A2 (Aa 2) (A2 (Aa 7) (A2 (Aa 7) rfl))))))))
theorem Xs (kd : Int) : A4 (.agg [aI kd, aI 0, .str [], .str [], .sl 0 [] .nil, .sl 0 [] .nil, .sl 0 [] .nil, .sl 0 [] .nil]) (agD kd 0 [] [] [] []) :=
 Cp (A2 (A1 _) (A2 (A1 _) (A2 (A1 _) (A2 (A1 _) (A2 (Aa 1) (A2 (Aa 2) (A2 (Aa 7) (A2 (Aa 7) rfl))))))))
theorem Yh (s : AE) (hs : s.length ≤ 100000) : APure Tryz.prog 77 [.str s] (Wu (dirT s)) := by
 rw [← XW]
 have hD := dirR.eq_1 s
 by_cases h1 : s = Lr
 ·rw [if_pos h1] at hD
  rw [hD]
  subst h1
  unfold Lr
  refine A6 Tryz.func77 Gj rfl fun n H hH => ?_
  repeat' (first | simp -implicitDefEqProofs [UN, -getElem?_pos, splice] | simp (disch := omega) only [AA] | (with_reducible first | exact AI | refine AZ ?_ | intro _g _hg | refine A9 ?_ ?_ | intro _hc) | omega)
  all_goals first | exact Xs 1 | (intro q hq; simp (disch := omega) only [upd_ne])
 rw [if_neg h1] at hD
 have n1 : ¬ s = [111, 112, 101, 110] := h1
 by_cases h2 : s = N4
 ·rw [if_pos h2] at hD
  rw [hD]
  subst h2
  unfold N4
  refine A6 Tryz.func77 Gj rfl fun n H hH => ?_
  repeat' (first | simp -implicitDefEqProofs [UN, Ba, -getElem?_pos, splice] | simp (disch := omega) only [AA] | (with_reducible first | exact AI | refine AZ ?_ | intro _g _hg | refine A9 ?_ ?_ | intro _hc) | omega)
  all_goals first | exact Xs 5 | (intro q hq; simp (disch := omega) only [upd_ne])
 rw [if_neg h2] at hD
 have n2 : ¬ s = [101, 108, 115, 101] := h2
 by_cases h3 : s = UA
 ·rw [if_pos h3] at hD
  rw [hD]
  subst h3
  unfold UA
  refine A6 Tryz.func77 Gj rfl fun n H hH => ?_
  repeat' (first | simp -implicitDefEqProofs [UN, Ba, Br, -getElem?_pos, splice] | simp (disch := omega) only [AA] | (with_reducible first | exact AI | refine AZ ?_ | intro _g _hg | refine A9 ?_ ?_ | intro _hc) | omega)
  all_goals first | exact Xs 6 | (intro q hq; simp (disch := omega) only [upd_ne])
 rw [if_neg h3] at hD
 have n3 : ¬ s = [101, 110, 100] := h3
 have hsp := Hm s 32 (by omega)
 have hxm := Bn 32 s
 obtain ⟨a, r1, hax⟩ := List.exists_cons_of_ne_nil (Fu 32 s)
 rw [hax] at hsp hxm hD
 have hk10 := VN s hs
 generalize hdr : dirR s = dr at *
 clear h1 h2 h3 hax
 have hfin : ∀ (g2 g4 n : Nat) (H : A3) (en : AH) (o4 : Option AObj), (∀ q, n ≤ q → H q = none) → n ≤ g2 → g2 + 1 ≤ g4 → dr = MC s → get en 0 = .str s → get en 2 = .ptr g2 0 → get en 4 = .ptr g4 0 → aw Tryz.prog c77_k10 (Ga (Wu dr) n H [.cell 2 (some 8)]) ⟨en, g4 + 1, upd (upd (upd H g2 (some A3z)) g4 o4) g4 (some (.cells 55 [aI 3, .str [], .str [], .sl 0 [] .nil, .sl 0 [] .nil, .sl 0 [] .nil, .sl 0 [] .nil]))⟩ := by
  intro g2 g4 n H en o4 hH q1 q2 hdr2 e0 e2 e4
  rw [hdr2]
  exact hk10 g2 g4 n _ H _ en (by simp (disch := omega) only [upd_ne, AN]) (AN _ _ _) (by omega) ⟨by omega, by omega⟩ ⟨by omega, by omega⟩ (by omega) (fun q hq => by simp (disch := omega) only [upd_ne]) (fun q hq => by simp (disch := omega) only [upd_ne]; exact hH q (by omega)) e0 e2 e4
 clear hk10
 rcases r1 with _ | ⟨b, _ | ⟨c, _ | ⟨d, r⟩⟩⟩
 ·simp only at hD
  refine A6 Tryz.func77 Gj rfl fun n H hH => ?_
  repeat' (first | simp -implicitDefEqProofs [UN, Ba, Br, CC, DM, -getElem?_pos, n1, n2, n3, splice] | simp (disch := omega) only [AA] | ((with_reducible refine A8 26 ?_); (refine' CallP.sf ?_ (hsp) ?_); (focus first | (with_reducible exact A0 _) | (simp [A5, A4, A1, A0]; done))) | (with_reducible first | exact AI | refine AZ ?_ | intro _g _hg | refine A9 ?_ ?_ | intro _hc) | omega)
  all_goals (refine hfin _ _ n H _ _ hH (by assumption) (by assumption) hD ?_ ?_ ?_ <;> rfl)
 ·simp only at hD
  have hbl : b.length ≤ 100000 := by have := hxm b (by simp); omega
  by_cases ha : a = Y5
  ·rw [if_pos ha] at hD
   unfold FI at hD
   subst ha
   unfold Y5 at hsp
   have hsp2 := Hm b 46 (by omega)
   have hpl := EY 46 b
   have hpm : ∀ x ∈ Ct 46 b, x.length ≤ 2000000 := fun x hx => by have := Bn 46 b x hx; omega
   have hpa := Ow (Ct 46 b) hpm (by omega)
   generalize Ct 46 b = pa at *
   by_cases hp : B5 pa = true
   ·rw [if_pos hp] at hD
    rw [hp] at hpa
    rw [hD]
    refine A6 Tryz.func77 Gj rfl fun n H hH => ?_
    repeat' (first | simp -implicitDefEqProofs [UN, Ba, Br, CC, Ps, -getElem?_pos, n1, n2, n3, splice] | simp (disch := omega) only [AA] | ((with_reducible refine A8 26 ?_); (refine' CallP.sf ?_ (hsp) ?_); (focus first | (with_reducible exact A0 _) | (simp [A5, A4, A1, A0]; done))) | ((with_reducible refine A8 26 ?_); (refine' CallP.sf ?_ (hsp2) ?_); (focus first | (with_reducible exact A0 _) | (simp [A5, A4, A1, A0]; done))) | ((with_reducible refine A8 106 ?_); (refine' CallP.sf ?_ (hpa) ?_); (focus first | (with_reducible exact A0 _) | (simp [A5, A4, A1, A0]; done))) | (with_reducible first | exact AI | refine AZ ?_ | intro _g _hg | refine A9 ?_ ?_ | intro _hc) | omega)
    all_goals first | exact A5b 3 3 [] [] pa [] | (intro q hq; simp (disch := omega) only [upd_ne])
   ·rw [if_neg hp] at hD
    have hp' : B5 pa = false := by simpa using hp
    rw [hp'] at hpa
    rw [hD]
    refine A6 Tryz.func77 Gj rfl fun n H hH => ?_
    repeat' (first | simp -implicitDefEqProofs [UN, Ba, Br, CC, Ps, Ux, -getElem?_pos, n1, n2, n3, splice] | simp (disch := omega) only [AA] | ((with_reducible refine A8 26 ?_); (refine' CallP.sf ?_ (hsp) ?_); (focus first | (with_reducible exact A0 _) | (simp [A5, A4, A1, A0]; done))) | ((with_reducible refine A8 26 ?_); (refine' CallP.sf ?_ (hsp2) ?_); (focus first | (with_reducible exact A0 _) | (simp [A5, A4, A1, A0]; done))) | ((with_reducible refine A8 106 ?_); (refine' CallP.sf ?_ (hpa) ?_); (focus first | (with_reducible exact A0 _) | (simp [A5, A4, A1, A0]; done))) | (with_reducible first | exact AI | refine AZ ?_ | intro _g _hg | refine A9 ?_ ?_ | intro _hc) | omega)
    all_goals first | exact MH | (intro q hq; simp (disch := omega) only [upd_ne])
  ·rw [if_neg ha] at hD
   have ha' : ¬ a = [105, 102] := ha
   refine A6 Tryz.func77 Gj rfl fun n H hH => ?_
   repeat' (first | simp -implicitDefEqProofs [UN, Ba, Br, CC, DM, -getElem?_pos, n1, n2, n3, ha', splice] | simp (disch := omega) only [AA] | ((with_reducible refine A8 26 ?_); (refine' CallP.sf ?_ (hsp) ?_); (focus first | (with_reducible exact A0 _) | (simp [A5, A4, A1, A0]; done))) | (with_reducible first | exact AI | refine AZ ?_ | intro _g _hg | refine A9 ?_ ?_ | intro _hc) | omega)
   all_goals (refine hfin _ _ n H _ _ hH (by assumption) (by assumption) hD ?_ ?_ ?_ <;> rfl)
 ·simp only at hD
  refine A6 Tryz.func77 Gj rfl fun n H hH => ?_
  repeat' (first | simp -implicitDefEqProofs [UN, Ba, Br, CC, DM, -getElem?_pos, n1, n2, n3, splice] | simp (disch := omega) only [AA] | ((with_reducible refine A8 26 ?_); (refine' CallP.sf ?_ (hsp) ?_); (focus first | (with_reducible exact A0 _) | (simp [A5, A4, A1, A0]; done))) | (with_reducible first | exact AI | refine AZ ?_ | intro _g _hg | refine A9 ?_ ?_ | intro _hc) | omega)
  all_goals (refine hfin _ _ n H _ _ hH (by assumption) (by assumption) hD ?_ ?_ ?_ <;> rfl)
 ·cases r with
  | nil =>
   simp only at hD
   have hbl : b.length ≤ 100000 := by have := hxm b (by simp); omega
   have hdl : d.length ≤ 100000 := by have := hxm d (by simp); omega
   by_cases hac : a = Ge ∧ c = XN
   ·rw [if_pos hac] at hD
    obtain ⟨rfl, rfl⟩ := hac
    unfold Ge XN at hsp
    have hsp2 := Hm d 46 (by omega)
    have hpl := EY 46 d
    have hpm : ∀ x ∈ Ct 46 d, x.length ≤ 2000000 := fun x hx => by have := Bn 46 d x hx; omega
    have hpa := Ow (Ct 46 d) hpm (by omega)
    have hid := Lt b (by omega)
    generalize Ct 46 d = pa at *
    by_cases hp : B5 pa = true ∧ Ho b = true
    ·rw [if_pos hp] at hD
     rw [hp.1] at hpa
     rw [hp.2] at hid
     rw [hD]
     refine A6 Tryz.func77 Gj rfl fun n H hH => ?_
     repeat' (first | simp -implicitDefEqProofs [UN, Ba, Br, CC, DM, Jg, -getElem?_pos, n1, n2, n3, splice] | simp (disch := omega) only [AA] | ((with_reducible refine A8 26 ?_); (refine' CallP.sf ?_ (hsp) ?_); (focus first | (with_reducible exact A0 _) | (simp [A5, A4, A1, A0]; done))) | ((with_reducible refine A8 26 ?_); (refine' CallP.sf ?_ (hsp2) ?_); (focus first | (with_reducible exact A0 _) | (simp [A5, A4, A1, A0]; done))) | ((with_reducible refine A8 106 ?_); (refine' CallP.sf ?_ (hpa) ?_); (focus first | (with_reducible exact A0 _) | (simp [A5, A4, A1, A0]; done))) | ((with_reducible refine A8 105 ?_); (refine' CallP.sf ?_ (hid) ?_); (focus first | (with_reducible exact A0 _) | (simp [A5, A4, A1, A0]; done))) | (with_reducible first | exact AI | refine AZ ?_ | intro _g _hg | refine A9 ?_ ?_ | intro _hc) | omega)
     all_goals first | exact A5b 4 4 [] b pa [] | (intro q hq; simp (disch := omega) only [upd_ne])
    ·rw [if_neg hp] at hD
     rw [hD]
     cases hp1 : B5 pa with
     | false =>
      rw [hp1] at hpa
      refine A6 Tryz.func77 Gj rfl fun n H hH => ?_
      repeat' (first | simp -implicitDefEqProofs [UN, Ba, Br, CC, DM, Jg, Q4, -getElem?_pos, n1, n2, n3, splice] | simp (disch := omega) only [AA] | ((with_reducible refine A8 26 ?_); (refine' CallP.sf ?_ (hsp) ?_); (focus first | (with_reducible exact A0 _) | (simp [A5, A4, A1, A0]; done))) | ((with_reducible refine A8 26 ?_); (refine' CallP.sf ?_ (hsp2) ?_); (focus first | (with_reducible exact A0 _) | (simp [A5, A4, A1, A0]; done))) | ((with_reducible refine A8 106 ?_); (refine' CallP.sf ?_ (hpa) ?_); (focus first | (with_reducible exact A0 _) | (simp [A5, A4, A1, A0]; done))) | ((with_reducible refine A8 105 ?_); (refine' CallP.sf ?_ (hid) ?_); (focus first | (with_reducible exact A0 _) | (simp [A5, A4, A1, A0]; done))) | (with_reducible first | exact AI | refine AZ ?_ | intro _g _hg | refine A9 ?_ ?_ | intro _hc) | omega)
      all_goals first | exact MH | (intro q hq; simp (disch := omega) only [upd_ne])
     | true =>
      have hi0 : Ho b = false := by
       cases hi : Ho b with
       | false => rfl
       | true => exact absurd ⟨hp1, hi⟩ hp
      rw [hp1] at hpa
      rw [hi0] at hid
      refine A6 Tryz.func77 Gj rfl fun n H hH => ?_
      repeat' (first | simp -implicitDefEqProofs [UN, Ba, Br, CC, DM, Jg, Q4, -getElem?_pos, n1, n2, n3, splice] | simp (disch := omega) only [AA] | ((with_reducible refine A8 26 ?_); (refine' CallP.sf ?_ (hsp) ?_); (focus first | (with_reducible exact A0 _) | (simp [A5, A4, A1, A0]; done))) | ((with_reducible refine A8 26 ?_); (refine' CallP.sf ?_ (hsp2) ?_); (focus first | (with_reducible exact A0 _) | (simp [A5, A4, A1, A0]; done))) | ((with_reducible refine A8 106 ?_); (refine' CallP.sf ?_ (hpa) ?_); (focus first | (with_reducible exact A0 _) | (simp [A5, A4, A1, A0]; done))) | ((with_reducible refine A8 105 ?_); (refine' CallP.sf ?_ (hid) ?_); (focus first | (with_reducible exact A0 _) | (simp [A5, A4, A1, A0]; done))) | (with_reducible first | exact AI | refine AZ ?_ | intro _g _hg | refine A9 ?_ ?_ | intro _hc) | omega)
      all_goals first | exact MH | (intro q hq; simp (disch := omega) only [upd_ne])
   ·rw [if_neg hac] at hD
    by_cases ha : a = Ge
    ·have hc' : ¬ c = [105, 110] := fun h => hac ⟨ha, h⟩
     subst ha
     unfold Ge at hsp
     refine A6 Tryz.func77 Gj rfl fun n H hH => ?_
     repeat' (first | simp -implicitDefEqProofs [UN, Ba, Br, CC, DM, -getElem?_pos, n1, n2, n3, hc', splice] | simp (disch := omega) only [AA] | ((with_reducible refine A8 26 ?_); (refine' CallP.sf ?_ (hsp) ?_); (focus first | (with_reducible exact A0 _) | (simp [A5, A4, A1, A0]; done))) | (with_reducible first | exact AI | refine AZ ?_ | intro _g _hg | refine A9 ?_ ?_ | intro _hc) | omega)
     all_goals (refine hfin _ _ n H _ _ hH (by assumption) (by assumption) hD ?_ ?_ ?_ <;> rfl)
    ·have ha' : ¬ a = [101, 97, 99, 104] := ha
     refine A6 Tryz.func77 Gj rfl fun n H hH => ?_
     repeat' (first | simp -implicitDefEqProofs [UN, Ba, Br, CC, DM, -getElem?_pos, n1, n2, n3, ha', splice] | simp (disch := omega) only [AA] | ((with_reducible refine A8 26 ?_); (refine' CallP.sf ?_ (hsp) ?_); (focus first | (with_reducible exact A0 _) | (simp [A5, A4, A1, A0]; done))) | (with_reducible first | exact AI | refine AZ ?_ | intro _g _hg | refine A9 ?_ ?_ | intro _hc) | omega)
     all_goals (refine hfin _ _ n H _ _ hH (by assumption) (by assumption) hD ?_ ?_ ?_ <;> rfl)
  | cons e r =>
   simp only at hD
   have hl2 : ¬ (r.length : Int) + 1 + 1 + 1 + 1 + 1 = 2 := by omega
   have hl4 : ¬ (r.length : Int) + 1 + 1 + 1 + 1 + 1 = 4 := by omega
   refine A6 Tryz.func77 Gj rfl fun n H hH => ?_
   repeat' (first | simp -implicitDefEqProofs [UN, Ba, Br, CC, DM, -getElem?_pos, n1, n2, n3, hl2, hl4, splice] | simp (disch := omega) only [AA] | ((with_reducible refine A8 26 ?_); (refine' CallP.sf ?_ (hsp) ?_); (focus first | (with_reducible exact A0 _) | (simp [A5, A4, A1, A0]; done))) | (with_reducible first | exact AI | refine AZ ?_ | intro _g _hg | refine A9 ?_ ?_ | intro _hc) | omega)
   all_goals (refine hfin _ _ n H _ _ hH (by assumption) (by assumption) hD ?_ ?_ ?_ <;> rfl)
structure Sv (v : AV) (l : List Pt) : Prop where
 sim : A4 v (Cr l)
 one : v.one = true
 fit : v.fits none = true
 cel : v.cells = [v]
theorem Sv.nil : Sv (.sl 0 [] .nil) [] := ⟨Aa 7, rfl, rfl, rfl⟩
theorem Sv.pts (l : List Pt) : Sv (Cr l) l := ⟨A1 _, rfl, rfl, rfl⟩
def GY (en : Nat) : Int := if en = 1 then -1 else if en = 7 then 0 else en
def encR (x : List Pt × Nat × Nat × AE) : AV := .agg [Cr x.1, aI x.2.1, aI (GY x.2.2.1)]
theorem T2 {v : AV} {l : List Pt} (h : Sv v l) (j en : Int) : A4 (.agg [v, aI j, aI en]) (.agg [Cr l, aI j, aI en]) := Cp (A2 h.sim (A0 _))
theorem Xj (s p : AE) (l : List Pt) (v5 : AV) (i v6 g4 n : Nat) (H : A3) (en : AH) (hv : Sv v5 l) (h6 : v6 = i + p.length) (hc : List.drop i (List.take v6 s) = p) (hs : v6 ≤ s.length) (hb : N0 90000 l) (hp : p.length ≤ 100000) (Q : AExit → AS → Prop)
  (hQ : ∀ en v5', Sv v5' (JQ p l) → get en 0 = .str s → get en 4 = .ptr g4 0 → get en 5 = v5' → get en 6 = aI v6 → aw Tryz.prog c43_k10 Q ⟨en, n, H⟩)
  (e0 : get en 0 = .str s) (e1 : get en 1 = aI i) (e4 : get en 4 = .ptr g4 0) (e5 : get en 5 = v5) (e6 : get en 6 = aI v6) : aw Tryz.prog c43_k11 Q ⟨en, n, H⟩ := by
 
 by_cases hp0 : p = []
 ·subst hp0
  have hi : ¬ (i : Int) < v6 := by simp at h6; omega
  have e : JQ [] l = l := rfl
  rw [e] at hQ
  repeat' (first | simp -implicitDefEqProofs [PA, -getElem?_pos, e0, e1, e4, e5, e6, hi] | simp (disch := omega) only [AA] | (with_reducible first | exact AI | refine AP ?_ | intro _g _hg | refine A9 ?_ ?_ | intro _hc) | omega)
  all_goals (refine hQ _ v5 hv ?_ ?_ ?_ ?_ <;> rfl)
 ·have hpl : 0 < p.length := List.length_pos_iff.2 hp0
  have hi : (i : Int) < v6 := by omega
  have hi2 : (i : Int) ≤ v6 := by omega
  have hs2 : (v6 : Int) ≤ s.length := by omega
  have e : JQ p l = BC (tP p) l := by unfold JQ; rw [if_neg hp0]
  have hj := IG l 1 p [] [] [] [] [] hb hp (fun _ => rfl)
  have e2 : Pt.mk 1 p [] [] [] [] [] = tP p := rfl
  rw [e2] at hj
  rw [e] at hQ
  have hj2 : APure Tryz.prog 76 [v5, .agg [aI 1, .str p, .str [], .sl 0 [] .nil, .sl 0 [] .nil, .sl 0 [] .nil, .sl 0 [] .nil]] (Cr (BC (tP p) l)) := GK hj (A2 hv.sim (A2 (Cp (A2 (A1 _) (A2 (A1 _) (A2 (A1 _) (A2 (Aa 1) (A2 (Aa 2) (A2 (Aa 7) (A2 (Aa 7) rfl)))))))) rfl))
  
  repeat' (first | simp -implicitDefEqProofs [PA, -getElem?_pos, e0, e1, e4, e5, e6, hi, hi2, hs2, hc] | simp (disch := omega) only [AA] | ((with_reducible refine A8 76 ?_); (refine' CallP.sf ?_ (hj2) ?_); (focus first | (with_reducible exact A0 _) | (simp [A5, A4, A1, A0]; done))) | (with_reducible first | exact AI | refine AP ?_ | intro _g _hg | refine A9 ?_ ?_ | intro _hc) | omega)
  all_goals (refine hQ _ _ (Sv.pts _) ?_ ?_ ?_ ?_ <;> rfl)
abbrev A6e : AObj := .cells 80 [.sl 0 [] .nil, aI 0, aI 0]
theorem QG {p s : AE} {i : Nat} (h : Ar p (s.drop i) = none) : Mq p s i = -1 := by unfold Mq; rw [h]
theorem MJ {p s a b : AE} {i : Nat} (h : Ar p (s.drop i) = some (a, b)) : Mq p s i = (i : Int) + a.length := by unfold Mq; rw [h]; simp
structure PaL (s : AE) (g4 n : Nat) (H : A3) (i : Nat) (Z : List Pt × Nat × Nat × AE) (i' n2 : Nat) (H2 : A3) (l : List Pt) (v5 : AV) : Prop where
 gn : g4 < n2
 ng : n ≤ g4
 same : SameB n H H2
 sup : ∀ q, n2 ≤ q → H2 q = none
 at4 : H2 g4 = some A6e
 sv : Sv v5 l
 bd : N0 (5000 + 2 * i') l
 ii : i ≤ i'
 eq : Cx (s.drop i') i' l = Z
theorem W2 (s : AE) (hs : s.length ≤ 4000) : ∀ (m0 i : Nat), s.length - i < m0 → i ≤ s.length → APure Tryz.prog 43 [.str s, aI i] (encR (Cx (s.drop i) i []))
 | 0, _, h, _ => by omega
 | m0 + 1, i, h, hi => by
  have ih : ∀ j : Nat, i < j → j ≤ s.length → APure Tryz.prog 43 [.str s, aI j] (encR (Cx (s.drop j) j [])) := fun j h1 h2 => W2 s hs m0 j (by omega) h2
  obtain ⟨Z, hZ⟩ : ∃ Z, Cx (s.drop i) i [] = Z := ⟨_, rfl⟩
  rw [hZ]
  refine A6 Tryz.func43 A60 rfl fun n H hH => ?_
  repeat' (first | simp -implicitDefEqProofs [c43, -getElem?_pos, splice] | simp (disch := omega) only [AA] | (with_reducible first | exact AI | refine AP ?_ | intro _g _hg | refine A9 ?_ ?_ | intro _hc) | omega)
  generalize _hgg : _g = g4 at *
  refine LoopK.go (fun m st' => ∃ (i' n2 : Nat) (H2 : A3) (l : List Pt) (v5 : AV), i' + m = s.length ∧ st' = ⟨[(0, .str s), (1, aI i'), (4, .ptr g4 0), (5, v5)], n2, H2⟩ ∧ PaL s g4 n H i Z i' n2 H2 l v5) (s.length - i) ⟨i, _, _, [], .sl 0 [] .nil, by omega, rfl, by omega, by omega, fun q hq => upd_ne (by omega), fun q hq => by rw [upd_ne (by omega)]; exact hH q (by omega), AN _ _ _, Sv.nil, E9 _, Nat.le_refl _, hZ⟩ ?_
  rintro m st' ⟨i', n2, H2, l, v5, him, rfl, hP⟩ J hJ
  obtain ⟨p1, p2, p3, p4, p5, p6, p7, p8, p9⟩ := hP
  have hf := PN s opS i' rfl (by omega) (by omega)
  change APure _ _ [.str s, .str [60, 37], aI i'] _ at hf
  have hsl : (s.drop i').length = s.length - i' := List.length_drop
  cases hcu : Ar opS (s.drop i') with
  | none =>
   rw [QG hcu] at hf
   rw [RM hcu] at p9
   repeat' (first | simp -implicitDefEqProofs [QH, -getElem?_pos] | simp (disch := omega) only [AA] | ((with_reducible refine A8 75 ?_); (refine' CallP.sf ?_ (hf) ?_); (focus first | (with_reducible exact A0 _) | (simp [A5, A4, A1, A0]; done))) | (with_reducible first | exact AI | refine AP ?_ | intro _g _hg | refine A9 ?_ ?_ | intro _hc) | omega)
   refine Xj s (s.drop i') l v5 i' s.length g4 _ _ _ p6 (by omega) (by rw [List.take_length]) (by omega) (AR (by omega) p7) (by omega) _ ?_ rfl rfl rfl rfl rfl
   intro en w5 hw e0 e4 e5 e6
   have o1 := hw.one
   have o2 := hw.fit
   have o3 := hw.cel
   unfold AV.one at o1
   unfold AV.fits at o2
   unfold AV.cells at o3
   repeat' (first | simp -implicitDefEqProofs [Bq, -getElem?_pos, e0, e4, e5, e6, p5, splice, o1, o2, o3] | simp (disch := omega) only [AA] | (with_reducible first | exact AI | refine AP ?_ | intro _g _hg | refine A9 ?_ ?_ | intro _hc) | omega)
   all_goals first
    | (rw [← p9, hsl]; have e : (((i' + (s.length - i') : Nat)) : Int) = s.length := by omega
       unfold encR; simp only [e]; exact T2 hw _ _)
    | (intro q hq; rw [upd_ne (by omega)]; exact p3 q hq)
    | omega
  | some pr =>
   obtain ⟨p, r⟩ := pr
   rw [MJ hcu] at hf
   obtain ⟨v6, hv6⟩ : ∃ v6, v6 = i' + p.length := ⟨_, rfl⟩
   have hv6' : (i' : Int) + p.length = v6 := by omega
   rw [hv6'] at hf
   have l1 := Bk hcu
   have hop : opS.length = 2 := rfl
   have hcl2 : clS.length = 2 := rfl
   have hpe : List.drop i' (List.take v6 s) = p := by
    rw [hv6, List.drop_take, F8 hcu]
    simp
   have hre : List.drop (v6 + 2) s = r := by
    rw [FH hcu, List.drop_drop]; congr 1; omega
   have hpos : ¬ ((v6 : Int) < 0) := by omega
   have hv6s : ¬ ((v6 : Int) = s.length) := by omega
   have hf2 := PN s clS (v6 + 2) rfl (by omega) (by omega)
   have hc62 : (((v6 + 2 : Nat)) : Int) = (v6 : Int) + 2 := by omega
   rw [hc62] at hf2
   change APure _ _ [.str s, .str [37, 62], .int .i64 ((v6 : Int) + 2)] _ at hf2
   have hpb : N0 (5000 + 2 * i' + p.length) (JQ p l) := Rb p7 (by omega)
   repeat' (first | simp -implicitDefEqProofs [QH, -getElem?_pos, hpos] | simp (disch := omega) only [AA] | ((with_reducible refine A8 75 ?_); (refine' CallP.sf ?_ (hf) ?_); (focus first | (with_reducible exact A0 _) | (simp [A5, A4, A1, A0]; done))) | (with_reducible first | exact AI | refine AP ?_ | intro _g _hg | refine A9 ?_ ?_ | intro _hc) | omega)
   refine Xj s p l v5 i' v6 g4 _ _ _ p6 hv6 hpe (by omega) (AR (by omega) p7) (by omega) _ ?_ rfl rfl rfl rfl rfl
   intro en w5 hw e0 e4 e5 e6
   have o1 := hw.one
   have o2 := hw.fit
   have o3 := hw.cel
   unfold AV.one at o1
   unfold AV.fits at o2
   unfold AV.cells at o3
   clear hf
   cases hcl : Ar clS r with
   | none =>
    rw [QG (by rw [hre]; exact hcl)] at hf2
    rw [Qz hcu hcl] at p9
    repeat' (first | simp -implicitDefEqProofs [Bq, D1, D3, -getElem?_pos, e0, e4, e5, e6, p5, splice, o1, o2, o3, hv6s] | simp (disch := omega) only [AA] | ((with_reducible refine A8 75 ?_); (refine' CallP.sf ?_ (hf2) ?_); (focus first | (with_reducible exact A0 _) | (simp [A5, A4, A1, A0]; done))) | (with_reducible first | exact AI | refine AP ?_ | intro _g _hg | refine A9 ?_ ?_ | intro _hc) | omega)
    all_goals first
     | (rw [← p9, ← hv6]; exact T2 hw _ _)
     | (intro q hq; simp (disch := omega) only [upd_ne]; exact p3 q hq)
     | omega
   | some dq =>
    obtain ⟨d, q⟩ := dq
    have l2 := Dk hcu hcl
    rw [MJ (by rw [hre]; exact hcl)] at hf2
    obtain ⟨v7, hv7⟩ : ∃ v7, v7 = v6 + 2 + d.length := ⟨_, rfl⟩
    have hv7' : (((v6 + 2 : Nat)) : Int) + d.length = v7 := by omega
    rw [hv7'] at hf2
    have hde : List.drop (v6 + 2) (List.take v7 s) = d := by
     rw [hv7, List.drop_take, hre, F8 hcl]
     simp
    have ht62 : ((v6 : Int) + 2).toNat = v6 + 2 := by omega
    have hqe : q = s.drop (v7 + 2) := by
     rw [FH hcl, ← hre, List.drop_drop]; congr 1; omega
    have hv72 : i' + p.length + d.length + 4 = v7 + 2 := by omega
    have h67 : (v6 : Int) + 2 ≤ v7 := by omega
    have h7s : (v7 : Int) ≤ s.length := by omega
    have h7p : (0 : Int) ≤ v7 := by omega
    have hrd := Yh d (by omega)
    have hun : Wu (dirT d) = .agg [aI (Lo (dirT d)), aI (FE (dirT d)).k, .str (FE (dirT d)).t, .str (FE (dirT d)).n, CG (FE (dirT d)).pa, Aq (FE (dirT d)).fs, .sl 7 [] .ro, .sl 7 [] .ro] := rfl
    rw [hun] at hrd
    clear hun
    obtain ⟨b1, b2⟩ := UM (d := d) (B := 5000 + 2 * i') (by omega)
    cases hd : dirT d with
    | bad =>
     rw [hd] at hrd
     rw [Tj hcu hcl hd] at p9
     simp only [Lo, FE, Pt.k, Pt.t, Pt.n, Pt.pa, Pt.fs] at hrd
     repeat' (first | simp -implicitDefEqProofs [Bq, D1, D3, -getElem?_pos, e0, e4, e5, e6, p5, splice, o1, o2, o3, hv6s, hde, ht62, h67, h7s, h7p] | simp (disch := omega) only [AA] | ((with_reducible refine A8 75 ?_); (refine' CallP.sf ?_ (hf2) ?_); (focus first | (with_reducible exact A0 _) | (simp [A5, A4, A1, A0]; done))) | ((with_reducible refine A8 77 ?_); (refine' CallP.sf ?_ (hrd) ?_); (focus first | (with_reducible exact A0 _) | (simp [A5, A4, A1, A0]; done))) | (with_reducible first | exact AI | refine AP ?_ | intro _g _hg | refine A9 ?_ ?_ | intro _hc) | omega)
     all_goals first
      | (rw [← p9, ← hv6]; exact T2 hw _ _)
      | (intro q hq; simp (disch := omega) only [upd_ne]; exact p3 q hq)
      | omega
    | opn =>
     rw [hd] at hrd
     rw [TU hcu hcl hd, hv72, hqe] at p9
     simp only [Lo, FE, Pt.k, Pt.t, Pt.n, Pt.pa, Pt.fs] at hrd
     have hjo := IG (JQ p l) 1 opS [] [] [] [] [] (AR (by omega) hpb) (by omega) (fun _ => rfl)
     have hj2 : APure Tryz.prog 76 [w5, .agg [.int .i64 1, .str [60, 37], .str [], .sl 0 [] .nil, .sl 0 [] .nil, .sl 0 [] .nil, .sl 0 [] .nil]] (Cr (BC (tP opS) (JQ p l))) := GK hjo (A2 hw.sim (A2 (Cp (A2 (A1 _) (A2 (A1 _) (A2 (A1 _) (A2 (Aa 1) (A2 (Aa 2) (A2 (Aa 7) (A2 (Aa 7) rfl)))))))) rfl))
     
     repeat' (first | simp -implicitDefEqProofs [Bq, D1, D3, Dv, -getElem?_pos, e0, e4, e5, e6, p5, splice, o1, o2, o3, hv6s, hde, ht62, h67, h7s, h7p] | simp (disch := omega) only [AA] | ((with_reducible refine A8 75 ?_); (refine' CallP.sf ?_ (hf2) ?_); (focus first | (with_reducible exact A0 _) | (simp [A5, A4, A1, A0]; done))) | ((with_reducible refine A8 77 ?_); (refine' CallP.sf ?_ (hrd) ?_); (focus first | (with_reducible exact A0 _) | (simp [A5, A4, A1, A0]; done))) | ((with_reducible refine A8 76 ?_); (refine' CallP.sf ?_ (hj2) ?_); (focus first | (with_reducible exact A0 _) | (simp [A5, A4, A1, A0]; done))) | (with_reducible first | exact AI | refine AP ?_ | intro _g _hg | refine A9 ?_ ?_ | intro _hc) | omega)
     all_goals exact hJ (m - (p.length + d.length + 4)) _ (by omega) ⟨v7 + 2, _, _, BC (tP opS) (JQ p l), _, by omega, rfl, by omega, p2, fun q hq => by simp (disch := omega) only [upd_ne]; exact p3 q hq, fun q hq => by simp (disch := omega) only [upd_ne]; exact p4 q (by omega), by simp (disch := omega) only [upd_ne]; exact p5, Sv.pts _, AR (by omega) (GN (c := 2) hpb (Tb (by omega)) (fun _ => ⟨by simp [tP, Pt.t, opS], rfl⟩) (by omega)), by omega, p9⟩
    | els =>
     rw [hd] at hrd
     rw [UC hcu hcl hd, hv72] at p9
     have hl4 := SO hd
     simp only [Lo, FE, Pt.k, Pt.t, Pt.n, Pt.pa, Pt.fs] at hrd
     repeat' (first | simp -implicitDefEqProofs [Bq, D1, D3, Dv, EQ, F0, -getElem?_pos, e0, e4, e5, e6, p5, splice, o1, o2, o3, hv6s, hde, ht62, h67, h7s, h7p] | simp (disch := omega) only [AA] | ((with_reducible refine A8 75 ?_); (refine' CallP.sf ?_ (hf2) ?_); (focus first | (with_reducible exact A0 _) | (simp [A5, A4, A1, A0]; done))) | ((with_reducible refine A8 77 ?_); (refine' CallP.sf ?_ (hrd) ?_); (focus first | (with_reducible exact A0 _) | (simp [A5, A4, A1, A0]; done))) | (with_reducible first | exact AI | refine AP ?_ | intro _g _hg | refine A9 ?_ ?_ | intro _hc) | omega)
     all_goals first
      | (rw [← p9]; exact T2 hw _ _)
      | (intro q hq; simp (disch := omega) only [upd_ne]; exact p3 q hq)
      | omega
    | fin =>
     rw [hd] at hrd
     rw [UE hcu hcl hd, hv72] at p9
     simp only [Lo, FE, Pt.k, Pt.t, Pt.n, Pt.pa, Pt.fs] at hrd
     repeat' (first | simp -implicitDefEqProofs [Bq, D1, D3, Dv, EQ, F0, -getElem?_pos, e0, e4, e5, e6, p5, splice, o1, o2, o3, hv6s, hde, ht62, h67, h7s, h7p] | simp (disch := omega) only [AA] | ((with_reducible refine A8 75 ?_); (refine' CallP.sf ?_ (hf2) ?_); (focus first | (with_reducible exact A0 _) | (simp [A5, A4, A1, A0]; done))) | ((with_reducible refine A8 77 ?_); (refine' CallP.sf ?_ (hrd) ?_); (focus first | (with_reducible exact A0 _) | (simp [A5, A4, A1, A0]; done))) | (with_reducible first | exact AI | refine AP ?_ | intro _g _hg | refine A9 ?_ ?_ | intro _hc) | omega)
     all_goals first
      | (rw [← p9]; exact T2 hw _ _)
      | (intro q hq; simp (disch := omega) only [upd_ne]; exact p3 q hq)
      | omega
    | fld x =>
     rw [hd] at hrd
     rw [Sy hcu hcl hd, hv72, hqe] at p9
     obtain ⟨c1, c2⟩ := b1 x hd
     obtain ⟨x1, x2, x3⟩ := A0m hd
     have hbx := GN (c := 1) hpb (DW (by omega) _ c1) (fun e => absurd e c2) (by omega)
     obtain ⟨k, t, nm, pa, fs, b, e⟩ := x
     simp only [Lo, FE, Pt.k, Pt.t, Pt.n, Pt.pa, Pt.fs] at hrd
     simp only [Pt.b, Pt.e] at x1 x2
     subst x1; subst x2
     have ht := Qp c1
     have hjo := IG (JQ p l) k t nm pa fs [] [] (AR (by omega) hpb) (by simp only [Pt.t] at ht; omega) (fun e => absurd e c2)
     simp only [AB] at hjo
     have hjo := GK hjo (A2 hw.sim (A0 _))
     
     repeat' (first | simp -implicitDefEqProofs [Bq, D1, D3, Dv, EQ, -getElem?_pos, e0, e4, e5, e6, p5, splice, o1, o2, o3, hv6s, hde, ht62, h67, h7s, h7p] | simp (disch := omega) only [AA] | ((with_reducible refine A8 75 ?_); (refine' CallP.sf ?_ (hf2) ?_); (focus first | (with_reducible exact A0 _) | (simp [A5, A4, A1, A0]; done))) | ((with_reducible refine A8 77 ?_); (refine' CallP.sf ?_ (hrd) ?_); (focus first | (with_reducible exact A0 _) | (simp [A5, A4, A1, A0]; done))) | ((with_reducible refine A8 76 ?_); (refine' CallP.sf ?_ (hjo) ?_); (focus first | (with_reducible exact A0 _) | (simp [A5, A4, A1, A0]; done))) | (with_reducible first | exact AI | refine AP ?_ | intro _g _hg | refine A9 ?_ ?_ | intro _hc) | omega)
     all_goals exact hJ (m - (p.length + d.length + 4)) _ (by omega) ⟨v7 + 2, _, _, BC (.mk k t nm pa fs [] []) (JQ p l), _, by omega, rfl, by omega, p2, fun q hq => by simp (disch := omega) only [upd_ne]; exact p3 q hq, fun q hq => by simp (disch := omega) only [upd_ne]; exact p4 q (by omega), by simp (disch := omega) only [upd_ne]; exact p5, Sv.pts _, AR (by omega) hbx, by omega, p9⟩
    | bgn x =>
     rw [hd] at hrd
     obtain ⟨c1, c2⟩ := b2 x hd
     obtain ⟨x1, x2, x3⟩ := Ls hd
     have hih := ih (v7 + 2) (by omega) (by omega)
     have hrb := Gy 5000 s (by omega) (s.length + 1) (v7 + 2) [] (by omega) (by omega) (E9 _)
     rw [← hqe] at hih hrb
     obtain ⟨X, hX⟩ : ∃ X, Cx q (v7 + 2) [] = X := ⟨_, rfl⟩
     obtain ⟨b, j, en1, t1⟩ := X
     rw [hX] at hih hrb
     obtain ⟨r1, r2, r3, r4⟩ := hrb
     have hX' : Cx q (i' + p.length + d.length + 4) [] = (b, j, en1, t1) := by rw [hv72]; exact hX
     obtain ⟨k6, ko, k5⟩ := U3 (l := l) hcu hcl hd hX'
     dsimp only at r1 r2 r3 r4
     have hc72 : (((v7 + 2 : Nat)) : Int) = (v7 : Int) + 2 := by omega
     change APure _ _ _ (.agg [Cr b, aI j, aI (GY en1)]) at hih
     rw [hc72] at hih
     have hpt := fun (B : Nat) (hB : 5000 + 2 * i' ≤ B) (b' e' : List Pt) (h1 : N0 B b') (h2 : N0 B e') => QC (DW hB _ c1) h1 h2
     obtain ⟨k, t, nm, pa, fs, xb, xe⟩ := x
     simp only [Lo, FE, Pt.k, Pt.t, Pt.n, Pt.pa, Pt.fs] at hrd
     simp only [Pt.b, Pt.e] at x1 x2
     subst x1; subst x2
     have ht := Qp c1
     simp only [Pt.t] at ht
     have x3' : k = 3 ∨ k = 4 := x3
     have hk0 : ¬ k = 0 := by omega
     have hk1 : ¬ k = 1 := by omega
     have hk2 : ¬ k = 2 := by omega
     have hk4 : ¬ 4 < k := by omega
     
     by_cases h5 : en1 = 5
     ·subst h5
      obtain ⟨t2, t3, t4, t5⟩ := r2 (.inl rfl)
      have hih2 := ih j (by omega) t4
      have hrb2 := Gy 5000 s (by omega) (s.length + 1) j [] (by omega) (by omega) (E9 _)
      rw [← t2] at hih2 hrb2
      obtain ⟨Y, hY⟩ : ∃ Y, Cx t1 j [] = Y := ⟨_, rfl⟩
      obtain ⟨e, j2, en2, tt2⟩ := Y
      rw [hY] at hih2 hrb2
      obtain ⟨u1, u2, u3, u4⟩ := hrb2
      obtain ⟨m6, m5, mo⟩ := k5 _ _ _ _ rfl hY
      dsimp only at u1 u2 u3 u4
      change APure _ _ _ (.agg [Cr e, aI j2, aI (GY en2)]) at hih2
      have he5 : GY 5 = 5 := rfl
      rw [he5] at hih
      by_cases g6 : en2 = 6
      ·subst g6
       have he6 : GY 6 = 6 := rfl
       rw [he6] at hih2
       obtain ⟨w1, w2, w3, w4⟩ := u2 (.inr rfl)
       rw [m6 rfl, w1] at p9
       have hbx := GN (c := 2 * j2 - 2 * i' - p.length) hpb (DW (by omega) _ (hpt (5000 + 2 * j2) (by omega) b e (AR (by omega) t5) w4).1) (fun h => absurd h c2) (by omega)
       have hjo := IG (JQ p l) k t nm pa fs b e (AR (by omega) hpb) (by omega) (fun h => absurd h hk1)
       have hjo := GK hjo (A2 hw.sim (A0 _))
       repeat' (first | simp -implicitDefEqProofs [Bq, D1, D3, Dv, EQ, F0, Hn, Mu, Is, R7, -getElem?_pos, e0, e4, e5, e6, p5, splice, o1, o2, o3, hv6s, hde, ht62, h67, h7s, h7p, hk0, hk1, hk2, hk4] | simp (disch := omega) only [AA] | ((with_reducible refine A8 75 ?_); (refine' CallP.sf ?_ (hf2) ?_); (focus first | (with_reducible exact A0 _) | (simp [A5, A4, A1, A0]; done))) | ((with_reducible refine A8 77 ?_); (refine' CallP.sf ?_ (hrd) ?_); (focus first | (with_reducible exact A0 _) | (simp [A5, A4, A1, A0]; done))) | ((with_reducible refine A8 43 ?_); (refine' CallP.sf ?_ (hih) ?_); (focus first | (with_reducible exact A0 _) | (simp [A5, A4, A1, A0]; done))) | ((with_reducible refine A8 43 ?_); (refine' CallP.sf ?_ (hih2) ?_); (focus first | (with_reducible exact A0 _) | (simp [A5, A4, A1, A0]; done))) | ((with_reducible refine A8 76 ?_); (refine' CallP.sf ?_ (hjo) ?_); (focus first | (with_reducible exact A0 _) | (simp [A5, A4, A1, A0]; done))) | (with_reducible first | exact AI | refine AP ?_ | intro _g _hg | refine A9 ?_ ?_ | intro _hc) | omega)
       all_goals exact hJ (m - (j2 - i')) _ (by omega) ⟨j2, _, _, BC (.mk k t nm pa fs b e) (JQ p l), _, by omega, rfl, by omega, p2, fun q hq => by simp (disch := omega) only [upd_ne]; exact p3 q hq, fun q hq => by simp (disch := omega) only [upd_ne]; exact p4 q (by omega), by simp (disch := omega) only [upd_ne]; exact p5, Sv.pts _, AR (by omega) hbx, by omega, p9⟩
      ·by_cases g5 : en2 = 5
       ·subst g5
        rw [he5] at hih2
        obtain ⟨w1, w2, w3, w4⟩ := u2 (.inl rfl)
        rw [m5 rfl] at p9
        have hj8 : (((j2 - 8 : Nat)) : Int) = (j2 : Int) - 8 := by omega
        repeat' (first | simp -implicitDefEqProofs [Bq, D1, D3, Dv, EQ, F0, Hn, Mu, -getElem?_pos, e0, e4, e5, e6, p5, splice, o1, o2, o3, hv6s, hde, ht62, h67, h7s, h7p, hk0, hk1, hk2, hk4] | simp (disch := omega) only [AA] | ((with_reducible refine A8 75 ?_); (refine' CallP.sf ?_ (hf2) ?_); (focus first | (with_reducible exact A0 _) | (simp [A5, A4, A1, A0]; done))) | ((with_reducible refine A8 77 ?_); (refine' CallP.sf ?_ (hrd) ?_); (focus first | (with_reducible exact A0 _) | (simp [A5, A4, A1, A0]; done))) | ((with_reducible refine A8 43 ?_); (refine' CallP.sf ?_ (hih) ?_); (focus first | (with_reducible exact A0 _) | (simp [A5, A4, A1, A0]; done))) | ((with_reducible refine A8 43 ?_); (refine' CallP.sf ?_ (hih2) ?_); (focus first | (with_reducible exact A0 _) | (simp [A5, A4, A1, A0]; done))) | (with_reducible first | exact AI | refine AP ?_ | intro _g _hg | refine A9 ?_ ?_ | intro _hc) | omega)
        all_goals first
         | (rw [← p9]; unfold encR; simp only [hj8]; exact T2 hw _ _)
         | (intro q hq; simp (disch := omega) only [upd_ne]; exact p3 q hq)
         | omega
       ·rw [mo g5 g6] at p9
        have hei : GY (if en2 = 0 then 7 else en2) = GY en2 ∧ ¬ GY en2 = 5 ∧ ¬ GY en2 = 6 := by
         rcases u3 with h | h | h | h | h
         ·subst h; exact ⟨rfl, by decide, by decide⟩
         ·subst h; exact ⟨rfl, by decide, by decide⟩
         ·exact absurd h g5
         ·exact absurd h g6
         ·subst h; exact ⟨rfl, by decide, by decide⟩
        obtain ⟨z1, z2, z3⟩ := hei
        generalize hev : GY en2 = ev2 at *
        repeat' (first | simp -implicitDefEqProofs [Bq, D1, D3, Dv, EQ, F0, Hn, Mu, Is, -getElem?_pos, e0, e4, e5, e6, p5, splice, o1, o2, o3, hv6s, hde, ht62, h67, h7s, h7p, hk0, hk1, hk2, hk4, z2, z3] | simp (disch := omega) only [AA] | ((with_reducible refine A8 75 ?_); (refine' CallP.sf ?_ (hf2) ?_); (focus first | (with_reducible exact A0 _) | (simp [A5, A4, A1, A0]; done))) | ((with_reducible refine A8 77 ?_); (refine' CallP.sf ?_ (hrd) ?_); (focus first | (with_reducible exact A0 _) | (simp [A5, A4, A1, A0]; done))) | ((with_reducible refine A8 43 ?_); (refine' CallP.sf ?_ (hih) ?_); (focus first | (with_reducible exact A0 _) | (simp [A5, A4, A1, A0]; done))) | ((with_reducible refine A8 43 ?_); (refine' CallP.sf ?_ (hih2) ?_); (focus first | (with_reducible exact A0 _) | (simp [A5, A4, A1, A0]; done))) | (with_reducible first | exact AI | refine AP ?_ | intro _g _hg | refine A9 ?_ ?_ | intro _hc) | omega)
        all_goals first
         | (rw [← p9]; unfold encR; simp only [z1]; exact T2 hw _ _)
         | (intro q hq; simp (disch := omega) only [upd_ne]; exact p3 q hq)
         | omega
     ·by_cases h6 : en1 = 6
      ·subst h6
       have he6 : GY 6 = 6 := rfl
       rw [he6] at hih
       obtain ⟨t2, t3, t4, t5⟩ := r2 (.inr rfl)
       rw [k6 rfl, t2] at p9
       have hbx := GN (c := 2 * j - 2 * i' - p.length) hpb (DW (by omega) _ ((hpt (5000 + 2 * j) (by omega) b [] t5 (E9 _)).2 rfl)) (fun h => absurd h c2) (by omega)
       have hjo := IG (JQ p l) k t nm pa fs b [] (AR (by omega) hpb) (by omega) (fun h => absurd h hk1)
       simp only [AB] at hjo
       have hjo := GK hjo (A2 hw.sim (A0 _))
       repeat' (first | simp -implicitDefEqProofs [Bq, D1, D3, Dv, EQ, F0, Hn, Is, R7, -getElem?_pos, e0, e4, e5, e6, p5, splice, o1, o2, o3, hv6s, hde, ht62, h67, h7s, h7p, hk0, hk1, hk2, hk4] | simp (disch := omega) only [AA] | ((with_reducible refine A8 75 ?_); (refine' CallP.sf ?_ (hf2) ?_); (focus first | (with_reducible exact A0 _) | (simp [A5, A4, A1, A0]; done))) | ((with_reducible refine A8 77 ?_); (refine' CallP.sf ?_ (hrd) ?_); (focus first | (with_reducible exact A0 _) | (simp [A5, A4, A1, A0]; done))) | ((with_reducible refine A8 43 ?_); (refine' CallP.sf ?_ (hih) ?_); (focus first | (with_reducible exact A0 _) | (simp [A5, A4, A1, A0]; done))) | ((with_reducible refine A8 76 ?_); (refine' CallP.sf ?_ (hjo) ?_); (focus first | (with_reducible exact A0 _) | (simp [A5, A4, A1, A0]; done))) | (with_reducible first | exact AI | refine AP ?_ | intro _g _hg | refine A9 ?_ ?_ | intro _hc) | omega)
       all_goals exact hJ (m - (j - i')) _ (by omega) ⟨j, _, _, BC (.mk k t nm pa fs b []) (JQ p l), _, by omega, rfl, by omega, p2, fun q hq => by simp (disch := omega) only [upd_ne]; exact p3 q hq, fun q hq => by simp (disch := omega) only [upd_ne]; exact p4 q (by omega), by simp (disch := omega) only [upd_ne]; exact p5, Sv.pts _, AR (by omega) hbx, by omega, p9⟩
      ·rw [ko h5 h6] at p9
       have hei : GY (if en1 = 0 then 7 else en1) = GY en1 ∧ ¬ GY en1 = 5 ∧ ¬ GY en1 = 6 := by
        rcases r3 with h | h | h | h | h
        ·subst h; exact ⟨rfl, by decide, by decide⟩
        ·subst h; exact ⟨rfl, by decide, by decide⟩
        ·exact absurd h h5
        ·exact absurd h h6
        ·subst h; exact ⟨rfl, by decide, by decide⟩
       obtain ⟨z1, z2, z3⟩ := hei
       generalize hev : GY en1 = ev1 at *
       repeat' (first | simp -implicitDefEqProofs [Bq, D1, D3, Dv, EQ, F0, Hn, Is, -getElem?_pos, e0, e4, e5, e6, p5, splice, o1, o2, o3, hv6s, hde, ht62, h67, h7s, h7p, hk0, hk1, hk2, hk4, z2, z3] | simp (disch := omega) only [AA] | ((with_reducible refine A8 75 ?_); (refine' CallP.sf ?_ (hf2) ?_); (focus first | (with_reducible exact A0 _) | (simp [A5, A4, A1, A0]; done))) | ((with_reducible refine A8 77 ?_); (refine' CallP.sf ?_ (hrd) ?_); (focus first | (with_reducible exact A0 _) | (simp [A5, A4, A1, A0]; done))) | ((with_reducible refine A8 43 ?_); (refine' CallP.sf ?_ (hih) ?_); (focus first | (with_reducible exact A0 _) | (simp [A5, A4, A1, A0]; done))) | (with_reducible first | exact AI | refine AP ?_ | intro _g _hg | refine A9 ?_ ?_ | intro _hc) | omega)
       all_goals first
        | (rw [← p9]; unfold encR; simp only [z1]; exact T2 hw _ _)
        | (intro q hq; simp (disch := omega) only [upd_ne]; exact p3 q hq)
        | omega
def Yr : Dir → Int | .bgn _ => 1 | .fin => -1 | _ => 0
theorem YC {d : Dir} {st st2 : Fv} (h : BL d st = some st2) : (st2.2.length : Int) = st.2.length + Yr d := by
 cases d with
 | bad => cases h
 | opn => injection h with h; rw [← h, (Hp _ _).2.2]; simp [Yr]
 | els =>
  obtain ⟨ps, _ | ⟨⟨o, b⟩, k⟩⟩ := st
  ·cases h
  ·cases b with
   | true => cases h
   | false => injection h with h; rw [← h]; simp [Yr]
 | fin =>
  obtain ⟨ps, _ | ⟨⟨o, b⟩, k⟩⟩ := st
  ·cases h
  ·injection h with h; rw [← h, (Hp _ _).2.2]; simp only [List.length_cons, Yr]; omega
 | fld x => injection h with h; rw [← h, (Hp _ _).2.2]; simp [Yr]
 | bgn x =>
  obtain ⟨ps, k⟩ := st
  injection h with h; rw [← h]; simp [Yr]
theorem Z6 (s : AE) (hs : s.length ≤ 4000) {st' : Fv} (hr : Fx s 0 ([], []) = .ok st') : APure Tryz.prog 44 [.str s] (.bool (decide (0 < st'.2.length))) := by
 have hf := PN s opS 0 rfl (by omega) (by omega)
 change APure _ _ [.str s, .str [60, 37], .int .i64 0] _ at hf
 refine A6 Tryz.func44 A65 rfl fun n H hH => ?_
 repeat' (first | simp -implicitDefEqProofs [c44, -getElem?_pos] | simp (disch := omega) only [AA] | ((with_reducible refine A8 75 ?_); (refine' CallP.sf ?_ (hf) ?_); (focus first | (with_reducible exact A0 _) | (simp [A5, A4, A1, A0]; done))) | (with_reducible first | exact AI | refine AP ?_ | intro _g _hg | refine A9 ?_ ?_ | intro _hc) | omega)
 refine LoopK.go (fun m st1 => ∃ (pos n0 n2 : Nat) (H2 : A3) (st : Fv), pos + m = s.length ∧ st1 = ⟨[(0, .str s), (3, aI st.2.length), (4, aI (Mq opS s pos))], n2, H2⟩ ∧ Q0 n0 (s.drop pos) pos st = .ok st' ∧ st.2.length ≤ pos ∧ n ≤ n2 ∧ SameB n H H2 ∧ (∀ q, n2 ≤ q → H2 q = none)) s.length ⟨0, _, _, _, ([], []), by omega, rfl, hr, by simp, Nat.le_refl _, SameB.rfl_ n H, hH⟩ ?_
 rintro m st1 ⟨pos, n0, n2, H2, st, hpm, rfl, hE, p0, p1, p2, p3⟩ J hJ
 clear hf hr
 have hsl : (s.drop pos).length = s.length - pos := List.length_drop
 cases n0 with
 | zero => cases hE
 | succ n0 =>
  unfold Q0 at hE
  cases hcu : Ar opS (s.drop pos) with
  | none =>
   rw [hcu] at hE
   injection hE with hE
   have hl := P7 (s.drop pos) st
   rw [hE] at hl
   rw [QG hcu, hl]
   repeat' (first | simp -implicitDefEqProofs [Em, WQ, -getElem?_pos] | simp (disch := omega) only [AA] | (with_reducible first | exact AI | refine AP ?_ | intro _g _hg | refine A9 ?_ ?_ | intro _hc) | omega)
   all_goals first
    | exact A1 _
    | exact p1
    | exact p2
  | some pr =>
   obtain ⟨p, r⟩ := pr
   rw [hcu] at hE
   simp only at hE
   cases hcl : Ar clS r with
   | none => rw [hcl] at hE; cases hE
   | some dq =>
    obtain ⟨d, q⟩ := dq
    rw [hcl] at hE
    simp only at hE
    cases hst : BL (dirT d) (CF p st) with
    | none => rw [hst] at hE; cases hE
    | some st2 =>
     rw [hst] at hE
     simp only at hE
     have hl := P7 p st
     have hln := YC hst
     rw [hl] at hln
     obtain ⟨v6, hv6⟩ : ∃ v6, v6 = pos + p.length := ⟨_, rfl⟩
     rw [MJ hcu]
     have hv6' : (pos : Int) + p.length = v6 := by omega
     rw [hv6']
     have l1 := Bk hcu
     have hop : opS.length = 2 := rfl
     have hcl2 : clS.length = 2 := rfl
     have hre : List.drop (v6 + 2) s = r := by
      rw [FH hcu, List.drop_drop]; congr 1; omega
     have l2 := Dk hcu hcl
     have hf2 := PN s clS (v6 + 2) rfl (by omega) (by omega)
     rw [MJ (by rw [hre]; exact hcl)] at hf2
     obtain ⟨v7, hv7⟩ : ∃ v7, v7 = v6 + 2 + d.length := ⟨_, rfl⟩
     have hv7' : (((v6 + 2 : Nat)) : Int) + d.length = v7 := by omega
     have hc62 : (((v6 + 2 : Nat)) : Int) = (v6 : Int) + 2 := by omega
     rw [hv7', hc62] at hf2
     change APure _ _ [.str s, .str [37, 62], .int .i64 ((v6 : Int) + 2)] _ at hf2
     have hde : List.drop (v6 + 2) (List.take v7 s) = d := by
      rw [hv7, List.drop_take, hre, F8 hcl]
      simp
     have ht62 : ((v6 : Int) + 2).toNat = v6 + 2 := by omega
     have hqe : q = s.drop (v7 + 2) := by
      rw [FH hcl, ← hre, List.drop_drop]; congr 1; omega
     have hv72 : pos + p.length + d.length + 4 = v7 + 2 := by omega
     rw [hv72, hqe] at hE
     have h67 : (v6 : Int) + 2 ≤ v7 := by omega
     have h7s : (v7 : Int) ≤ s.length := by omega
     have h6p : (0 : Int) ≤ v6 := by omega
     have hf3 := PN s opS (v7 + 2) rfl (by omega) (by omega)
     have hc72 : (((v7 + 2 : Nat)) : Int) = (v7 : Int) + 2 := by omega
     rw [hc72] at hf3
     change APure _ _ [.str s, .str [60, 37], .int .i64 ((v7 : Int) + 2)] _ at hf3
     have hrd := Yh d (by omega)
     have hun : Wu (dirT d) = .agg [aI (Lo (dirT d)), aI (FE (dirT d)).k, .str (FE (dirT d)).t, .str (FE (dirT d)).n, CG (FE (dirT d)).pa, Aq (FE (dirT d)).fs, .sl 7 [] .ro, .sl 7 [] .ro] := rfl
     rw [hun] at hrd
     clear hun
     cases hd : dirT d with
     | bad => rw [hd] at hst; cases hst
     | opn =>
      rw [hd] at hrd hln
      simp only [Lo, FE, Pt.k, Pt.t, Pt.n, Pt.pa, Pt.fs, Yr, Int.add_zero] at hrd hln
      repeat' (first | simp -implicitDefEqProofs [Em, GJ, GF, GE, -getElem?_pos, hde, ht62, h67, h7s, h6p, splice] | simp (disch := omega) only [AA] | ((with_reducible refine A8 75 ?_); (refine' CallP.sf ?_ (hf2) ?_); (focus first | (with_reducible exact A0 _) | (simp [A5, A4, A1, A0]; done))) | ((with_reducible refine A8 75 ?_); (refine' CallP.sf ?_ (hf3) ?_); (focus first | (with_reducible exact A0 _) | (simp [A5, A4, A1, A0]; done))) | ((with_reducible refine A8 77 ?_); (refine' CallP.sf ?_ (hrd) ?_); (focus first | (with_reducible exact A0 _) | (simp [A5, A4, A1, A0]; done))) | (with_reducible first | exact AI | refine AP ?_ | intro _g _hg | refine A9 ?_ ?_ | intro _hc) | omega)
      all_goals exact hJ (m - (v7 + 2 - pos)) _ (by omega) ⟨v7 + 2, n0, _, _, st2, by omega, by rw [hln] <;> rfl, hE, by omega, by omega, fun q hq => by simp (disch := omega) only [upd_ne]; exact p2 q hq, fun q hq => by simp (disch := omega) only [upd_ne]; exact p3 q (by omega)⟩
     | els =>
      rw [hd] at hrd hln
      simp only [Lo, FE, Pt.k, Pt.t, Pt.n, Pt.pa, Pt.fs, Yr, Int.add_zero] at hrd hln
      repeat' (first | simp -implicitDefEqProofs [Em, GJ, GF, GE, -getElem?_pos, hde, ht62, h67, h7s, h6p, splice] | simp (disch := omega) only [AA] | ((with_reducible refine A8 75 ?_); (refine' CallP.sf ?_ (hf2) ?_); (focus first | (with_reducible exact A0 _) | (simp [A5, A4, A1, A0]; done))) | ((with_reducible refine A8 75 ?_); (refine' CallP.sf ?_ (hf3) ?_); (focus first | (with_reducible exact A0 _) | (simp [A5, A4, A1, A0]; done))) | ((with_reducible refine A8 77 ?_); (refine' CallP.sf ?_ (hrd) ?_); (focus first | (with_reducible exact A0 _) | (simp [A5, A4, A1, A0]; done))) | (with_reducible first | exact AI | refine AP ?_ | intro _g _hg | refine A9 ?_ ?_ | intro _hc) | omega)
      all_goals exact hJ (m - (v7 + 2 - pos)) _ (by omega) ⟨v7 + 2, n0, _, _, st2, by omega, by rw [hln] <;> rfl, hE, by omega, by omega, fun q hq => by simp (disch := omega) only [upd_ne]; exact p2 q hq, fun q hq => by simp (disch := omega) only [upd_ne]; exact p3 q (by omega)⟩
     | fin =>
      rw [hd] at hrd hln
      simp only [Lo, FE, Pt.k, Pt.t, Pt.n, Pt.pa, Pt.fs, Yr, Int.add_zero] at hrd hln
      have hln : (st2.2.length : Int) = st.2.length - 1 := by omega
      repeat' (first | simp -implicitDefEqProofs [Em, GJ, GF, GE, -getElem?_pos, hde, ht62, h67, h7s, h6p, splice] | simp (disch := omega) only [AA] | ((with_reducible refine A8 75 ?_); (refine' CallP.sf ?_ (hf2) ?_); (focus first | (with_reducible exact A0 _) | (simp [A5, A4, A1, A0]; done))) | ((with_reducible refine A8 75 ?_); (refine' CallP.sf ?_ (hf3) ?_); (focus first | (with_reducible exact A0 _) | (simp [A5, A4, A1, A0]; done))) | ((with_reducible refine A8 77 ?_); (refine' CallP.sf ?_ (hrd) ?_); (focus first | (with_reducible exact A0 _) | (simp [A5, A4, A1, A0]; done))) | (with_reducible first | exact AI | refine AP ?_ | intro _g _hg | refine A9 ?_ ?_ | intro _hc) | omega)
      all_goals exact hJ (m - (v7 + 2 - pos)) _ (by omega) ⟨v7 + 2, n0, _, _, st2, by omega, by rw [hln] <;> rfl, hE, by omega, by omega, fun q hq => by simp (disch := omega) only [upd_ne]; exact p2 q hq, fun q hq => by simp (disch := omega) only [upd_ne]; exact p3 q (by omega)⟩
     | fld x =>
      rw [hd] at hrd hln
      simp only [Lo, FE, Pt.k, Pt.t, Pt.n, Pt.pa, Pt.fs, Yr, Int.add_zero] at hrd hln
      repeat' (first | simp -implicitDefEqProofs [Em, GJ, GF, GE, -getElem?_pos, hde, ht62, h67, h7s, h6p, splice] | simp (disch := omega) only [AA] | ((with_reducible refine A8 75 ?_); (refine' CallP.sf ?_ (hf2) ?_); (focus first | (with_reducible exact A0 _) | (simp [A5, A4, A1, A0]; done))) | ((with_reducible refine A8 75 ?_); (refine' CallP.sf ?_ (hf3) ?_); (focus first | (with_reducible exact A0 _) | (simp [A5, A4, A1, A0]; done))) | ((with_reducible refine A8 77 ?_); (refine' CallP.sf ?_ (hrd) ?_); (focus first | (with_reducible exact A0 _) | (simp [A5, A4, A1, A0]; done))) | (with_reducible first | exact AI | refine AP ?_ | intro _g _hg | refine A9 ?_ ?_ | intro _hc) | omega)
      all_goals exact hJ (m - (v7 + 2 - pos)) _ (by omega) ⟨v7 + 2, n0, _, _, st2, by omega, by rw [hln] <;> rfl, hE, by omega, by omega, fun q hq => by simp (disch := omega) only [upd_ne]; exact p2 q hq, fun q hq => by simp (disch := omega) only [upd_ne]; exact p3 q (by omega)⟩
     | bgn x =>
      obtain ⟨x1, x2, x3⟩ := Ls hd
      rw [hd] at hrd hln
      obtain ⟨k, t, nm, pa, fs, b, e⟩ := x
      simp only [Lo, FE, Pt.k, Pt.t, Pt.n, Pt.pa, Pt.fs, Yr] at hrd hln
      have x3' : k = 3 ∨ k = 4 := x3
      rcases x3' with rfl | rfl
      ·repeat' (first | simp -implicitDefEqProofs [Em, GJ, GF, GE, -getElem?_pos, hde, ht62, h67, h7s, h6p, splice] | simp (disch := omega) only [AA] | ((with_reducible refine A8 75 ?_); (refine' CallP.sf ?_ (hf2) ?_); (focus first | (with_reducible exact A0 _) | (simp [A5, A4, A1, A0]; done))) | ((with_reducible refine A8 75 ?_); (refine' CallP.sf ?_ (hf3) ?_); (focus first | (with_reducible exact A0 _) | (simp [A5, A4, A1, A0]; done))) | ((with_reducible refine A8 77 ?_); (refine' CallP.sf ?_ (hrd) ?_); (focus first | (with_reducible exact A0 _) | (simp [A5, A4, A1, A0]; done))) | (with_reducible first | exact AI | refine AP ?_ | intro _g _hg | refine A9 ?_ ?_ | intro _hc) | omega)
       all_goals exact hJ (m - (v7 + 2 - pos)) _ (by omega) ⟨v7 + 2, n0, _, _, st2, by omega, by rw [hln] <;> rfl, hE, by omega, by omega, fun q hq => by simp (disch := omega) only [upd_ne]; exact p2 q hq, fun q hq => by simp (disch := omega) only [upd_ne]; exact p3 q (by omega)⟩
      ·repeat' (first | simp -implicitDefEqProofs [Em, GJ, GF, GE, -getElem?_pos, hde, ht62, h67, h7s, h6p, splice] | simp (disch := omega) only [AA] | ((with_reducible refine A8 75 ?_); (refine' CallP.sf ?_ (hf2) ?_); (focus first | (with_reducible exact A0 _) | (simp [A5, A4, A1, A0]; done))) | ((with_reducible refine A8 75 ?_); (refine' CallP.sf ?_ (hf3) ?_); (focus first | (with_reducible exact A0 _) | (simp [A5, A4, A1, A0]; done))) | ((with_reducible refine A8 77 ?_); (refine' CallP.sf ?_ (hrd) ?_); (focus first | (with_reducible exact A0 _) | (simp [A5, A4, A1, A0]; done))) | (with_reducible first | exact AI | refine AP ?_ | intro _g _hg | refine A9 ?_ ?_ | intro _hc) | omega)
       all_goals exact hJ (m - (v7 + 2 - pos)) _ (by omega) ⟨v7 + 2, n0, _, _, st2, by omega, by rw [hln] <;> rfl, hE, by omega, by omega, fun q hq => by simp (disch := omega) only [upd_ne]; exact p2 q hq, fun q hq => by simp (disch := omega) only [upd_ne]; exact p3 q (by omega)⟩
end Go.Proofs.YtnfjgphfaemjcaaGreatDoor
