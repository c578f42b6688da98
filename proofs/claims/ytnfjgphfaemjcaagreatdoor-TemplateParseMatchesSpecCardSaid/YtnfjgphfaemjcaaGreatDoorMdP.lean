/- Templates: the program's check of parts, one after the other; no condition. -/
import Derived.Test.YtnfjgphfaemjcaaGreatDoorMgI
import Derived.Test.YtnfjgphfaemjcaaGreatDoorMdO
import Derived.Test.YtnfjgphfaemjcaaGreatDoorMgJ
import Derived.Test.YtnfjgphfaemjcaaGreatDoorMdN
import Derived.Test.YtnfjgphfaemjcaaGreatDoorAdF
set_option linter.all false
set_option maxHeartbeats 8000000
namespace Go.Proofs.YtnfjgphfaemjcaaGreatDoor
theorem M2 {α β : Type} {a : List α} {b : List β} (h : a.length = b.length) : Bl a = Bl b := by unfold Bl; rw [h]
abbrev Gx (i : Nat) : AObj := .cells 64 [aI i]
def GZ (R : Nat × Int) : AV := aF (if R.2 ≠ 0 then (R.2, (R.1 : Int)) else (0, 0))
def HW (R : Nat × Int) : Nat := if R.2 ≠ 0 then R.1 + 1 else R.1
def JU (l : List Pt) (el : List AV) : Prop := ∀ (i d gc n : Nat) (H : A3), i ≤ 200 → d ≤ 100 → H gc = some (Gx i) → AUpd Tryz.prog 33 [.ptr gc 0, .sl 7 el .ro, aI d] n H (GZ (BU 0 i d l)) gc (Gx (HW (BU 0 i d l)))
def UL (l : List Pt) (i : Nat) : Int := if i = 0 then 0 else match l[i - 1]? with | some y => y.k | none => 0
theorem Sw {l : List Pt} {i : Nat} {x : Pt} (h : l[i]? = some x) : UL l (i + 1) = x.k := by
 unfold UL
 rw [if_neg (by omega)]
 have e : i + 1 - 1 = i := by omega
 rw [e, h]
theorem A36 {l : List Pt} {i : Nat} (hi : 0 < i) (hl : i < l.length) : ∃ (k : Int) (t n : AE) (pa : List AE) (fs : List (AE × Int)) (eb ee : List AV), UL l i = k ∧ (AB l)[i - 1]? = some (.agg [aI k, .str t, .str n, CG pa, Aq fs, .sl 7 eb .ro, .sl 7 ee .ro]) := by
 obtain ⟨y, hy⟩ : ∃ y, l[i - 1]? = some y := ⟨_, List.getElem?_eq_getElem (by omega)⟩
 have := GW hy
 have hk : UL l i = y.k := by unfold UL; rw [if_neg (by omega), hy]
 obtain ⟨k, t, n, pa, fs, b, e⟩ := y
 rw [B7] at this
 exact ⟨k, t, n, pa, fs, _, _, hk, this⟩
attribute [local simp] KJ EJ EI KX LT Lg L9 EG ED Fy GP LK KU Kz Ji KH J5 J7 J9 LA LF Ki Li Kq KB Qt pe Jv Kn Jl Kx Kb Jz LM K0 KZ KP Jr Jo L0 FN Np Od OB Nv Nq OI ON OA Nt O0 Oj Ns Of O9 Nr Ny O1 OQ OW OK No FX O6 FL OT Og Nj NP NS Nn Nu OF NZ NY NN Oc O4 OM NU NV Ot NX Oe O5 Om OC NQ NW Nx Fr Na OH OP Ok Oi Nk OR O2 On OS Nc OG Ol OU Ob NM Oa NT Nz K8 K2 LL KG Kg Jm Ju Kk K6 L6 LE IS Jc List.mem_cons guardK Dl Ed Er GX Nd Fh FO Fp FY FP FM FJ Fs Fg Nl OV FV Kf Oq OZ OE Nb Nw Fd LX OX Nf Jw La OD I9 Fq FT Fn FZ Ng Ni FQ OJ FW LN Fw Fe KV Fm Ft Nh O8 Oo KF OL Nm KI Jh Sg JD JH H9 JE JI JA Dx G0 Fz L8 G4 G3 E0 Dn UK JM JK G5 JJ JN Ds DY BN BR C0 DZ DI ev get put EW AD D9 KY KN LV Jx JB Kh EO part Ap Gz L1 Gc isNil Cu D4 Da D8 CE Lc LW LO K7 L2 J6 Jq Lf Jf KD L3 LZ Lh Jp LI LQ AV.fits AV.cells ones AV.one E5 Bp E7 DQ EV EN KE FA Fo CH BS Cw G7 E3 AN B6 VJ GL Lj Ke List.getElem?_cons_zero List.getElem?_cons_succ Fa FR Ff KR Kj Ku Gt LH L4 LS LG LD Jt KQ O3 KK Ja KL Ky LY Ko Je LB Ks Kv KO Kp KT L5 K5 Kw LJ Km LU Jy E6
theorem Rw (l : List Pt) (hl : l.length ≤ 2000000) (hs : FU l) (hp : ∀ x ∈ l, JU x.b (AB x.b) ∧ JU x.e (AB x.e)) : JU l (AB l) := by
 intro i0 d gc n H hi0 hd hg
 have hel := B3 l
 obtain ⟨R, hR⟩ : ∃ R, BU 0 i0 d l = R := ⟨_, rfl⟩
 rw [hR]
 refine UO Tryz.func33 A5s rfl (hg) fun hH => ?_
 have hgn : gc < n := by
  rcases Nat.lt_or_ge gc n with h | h
  ·exact h
  ·rw [hH gc h] at hg; cases hg
 repeat' (first | simp -implicitDefEqProofs [Tt, -getElem?_pos, hel, hg] | simp (disch := omega) only [AA] | (with_reducible first | exact AI | refine AZ ?_ | intro _g _hg | refine A9 ?_ ?_ | intro _hc) | omega)
 refine LoopK.go (fun m st => ∃ (i c n2 : Nat) (H2 : A3), i + m = l.length ∧ st = ⟨[(0, .ptr gc 0), (1, Cr l), (2, aI d), (6, .ptr _g 0), (14, Cr l), (15, aI l.length), (16, aI i)], n2, H2⟩ ∧ _g < n2 ∧ H2 _g = some (.cells 24 [aI 0, aI 0]) ∧ SameB n (upd H gc (some (Gx c))) H2 ∧ (∀ q, n2 ≤ q → H2 q = none) ∧ c ≤ 200 ∧ BU (UL l i) c d (l.drop i) = R) l.length ⟨0, i0, _, _, by omega, rfl, by omega, AN _ _ _, ?_, fun q hq => by rw [upd_ne (by omega)]; exact hH q (by omega), hi0, hR⟩ ?_
 ·rw [Y6 hg]; exact (SameB.rfl_ n H).upd (by omega) _
 rintro m st ⟨i, c, n2, H2, him, rfl, hgn2, hg6, hS, hsup, hc, hE⟩ J hJ
 have hgc : H2 gc = some (Gx c) := by rw [hS gc hgn]; exact AN _ _ _
 clear hR
 by_cases hi : i < l.length
 ·obtain ⟨x, hx⟩ : ∃ x, l[i]? = some x := ⟨_, List.getElem?_eq_getElem hi⟩
  have hx2 := GW hx
  have hi' : (i : Int) < l.length := by omega
  have hks := Sw hx
  rw [drop_at hx] at hE
  have hsx := D6 hs (List.mem_of_getElem? hx)
  obtain ⟨cb, ce⟩ := hp x (List.mem_of_getElem? hx)
  have hka := fun (h : 0 < i) => A36 h hi
  have hk0 : i = 0 → UL l i = 0 := fun h => by rw [h]; rfl
  obtain ⟨k, t, nm, pa, fs, b, e⟩ := x
  rw [B7] at hx2
  simp only [Ph] at hsx
  obtain ⟨s1, s2, s3, s4, s5, s6, s7, s8, s9⟩ := hsx
  change JU b (AB b) at cb
  change JU e (AB e) at ce
  change UL l (i + 1) = k at hks
  have hlb := B3 b
  have hle := B3 e
  have hsh := Zz c d k t nm pa fs (AB b) (AB e) ⟨s3, s5, by omega, by omega⟩
  have hnm := J3 k t nm pa fs (AB b) (AB e) s4 s3 s2 s5
  rw [M2 hlb, M2 hle] at hsh
  obtain ⟨fb, hfb⟩ : ∃ fb, Ss k t nm (Bl pa) (Bl fs) (Bl b) (Bl e) = fb := ⟨_, rfl⟩
  rw [hfb] at hsh
  have hpc : Gw (UL l i) c d k t nm pa fs b e = _ := Ym (pv := UL l i) (i := c) (d := d) hfb
  clear hfb hx hp
  rw [BU, Gb] at hE
  generalize AB b = eb at *
  generalize AB e = ee at *
  generalize UL l i = pv at *
  generalize Gu k nm pa fs = M at *
  generalize hSS : V0 c d k fb = S at *
  have hcc : ((c + 1 : Nat) : Int) = (c : Int) + 1 := by omega
  by_cases hP : Gw pv c d k t nm pa fs b e = 0
  ·have hcd : c < 200 ∧ d ≤ 16 := by
    unfold Gw at hP
    by_cases h1 : 200 ≤ c
    ·rw [if_pos h1] at hP; cases hP
    ·by_cases h2 : 16 < d
     ·rw [if_neg h1, if_pos h2] at hP; cases hP
     ·omega
   obtain ⟨hc2, hd2⟩ := hcd
   simp only [hP, ne_eq, not_true, if_false] at hE
   rw [hP] at hpc
   have hS0 : S = 0 := by
    by_cases h : S = 0
    ·exact h
    ·rw [if_pos h] at hpc; exact hpc.symm
   rw [if_neg (by simpa using hS0)] at hpc
   have hkp : ¬ (k = 1 ∧ pv = 1) := fun h => by rw [if_pos h] at hpc; cases hpc
   rw [if_neg hkp] at hpc
   subst hS0
   subst hpc
   have hB2 := Hr b 0 (c + 1) (d + 1) (by omega)
   have cb1 := cb (c + 1) (d + 1) gc
   generalize BU 0 (c + 1) (d + 1) b = B at *
   have hE2 := Hr e 0 B.1 (d + 1)
   have ce1 := ce B.1 (d + 1) gc
   generalize BU 0 B.1 (d + 1) e = E at *
   clear cb ce
   have hin : ∀ (g8 gr : Nat) (n3 : Nat) (H3 : A3), n2 ≤ g8 → g8 + 1 ≤ gr → n3 = gr + 1 → H3 = upd (upd (upd (upd H2 g8 (some (.cells 55 [.int .i64 0, .str [], .str [], .sl 0 [] .nil, .sl 0 [] .nil, .sl 0 [] .nil, .sl 0 [] .nil]))) g8 (some (.cells 55 [aI k, .str t, .str nm, CG pa, Aq fs, .sl 7 eb .ro, .sl 7 ee .ro]))) gc (some (.cells 64 [.int .i64 ((c : Int) + 1)]))) gr (some (.row 22 2)) →
     LoopK (fun Q s => aw Tryz.prog c33_L5 Q s) (FS 2 (FS 1 (Ef (aw Tryz.prog c33_k2 (PI [0, 1, 2, 6, 14, 15, 16] (Ef J (FS 0 (Ef (aw Tryz.prog c33_k1 (Ga (GZ R) n (upd H gc (some (Gx (HW R)))) [ARes.cell 6 (some 2)])) (Ga (GZ R) n (upd H gc (some (Gx (HW R)))) [ARes.cell 6 (some 2)])))))) (PI [0, 1, 2, 6, 14, 15, 16] (Ef J (FS 0 (Ef (aw Tryz.prog c33_k1 (Ga (GZ R) n (upd H gc (some (Gx (HW R)))) [ARes.cell 6 (some 2)])) (Ga (GZ R) n (upd H gc (some (Gx (HW R)))) [ARes.cell 6 (some 2)]))))))))
      ⟨[(0, .ptr gc 0), (1, Cr l), (2, aI d), (6, .ptr _g 0), (14, Cr l), (15, aI l.length), (16, aI i), (69, .sl 1 [.sl 7 eb .ro, .sl 7 ee .ro] (.own gr)), (70, .int .i64 2), (71, .int .i64 0)], n3, H3⟩ := by
    clear hsh hnm hka hk0
    intro g8 gr n3 H3 q1 q2 q3 q4
    have r1 : SameB n (upd H gc (some (Gx (c + 1)))) H3 := by
     rw [q4]
     intro q hq
     by_cases hqg : q = gc
     ·subst hqg
      simp (disch := omega) only [upd_ne, AN]
      rfl
     ·simp (disch := omega) only [upd_ne]
      rw [hS q hq, upd_ne hqg]
    have r2 : ∀ q, n3 ≤ q → H3 q = none := fun q hq => by
     rw [q4]
     simp (disch := omega) only [upd_ne]
     exact hsup q (by omega)
    have r3 : H3 _g = some (.cells 24 [aI 0, aI 0]) := by
     rw [q4]
     simp (disch := omega) only [upd_ne]
     exact hg6
    have r4 : H3 gc = some (Gx (c + 1)) := by rw [r1 gc hgn, AN]
    clear q4 hg6 hsup hS
    have hdd : ((d + 1 : Nat) : Int) = (d : Int) + 1 := by omega
    rw [hdd] at cb1 ce1
    have cb2 : ∀ n H, H gc = some (Gx (c + 1)) → AUpd Tryz.prog 33 [.ptr gc 0, .sl 7 eb .ro, .int .i64 ((d : Int) + 1)] n H (GZ B) gc (Gx (HW B)) := fun n H h => cb1 n H (by omega) (by omega) h
    clear cb1
    
    refine LoopK.round ?_
    by_cases hB0 : B.2 = 0
    ·have v1 : GZ B = aF (0, 0) := by unfold GZ; rw [if_neg (by simpa using hB0)]
     have v2 : HW B = B.1 := by unfold HW; rw [if_neg (by simpa using hB0)]
     rw [v1, v2] at cb2
     have hB3 := hB2 hB0
     have ce2 : ∀ n H, H gc = some (Gx B.1) → AUpd Tryz.prog 33 [.ptr gc 0, .sl 7 ee .ro, .int .i64 ((d : Int) + 1)] n H (GZ E) gc (Gx (HW E)) := fun n H h => ce1 n H (by omega) (by omega) h
     clear ce1 v1 v2
     simp only [hB0, ne_eq, not_true, if_false] at hE
     have r5 : ∀ g9, n3 ≤ g9 → ∀ o1 o2, upd (upd (upd H3 gc (some (Gx B.1))) g9 o1) g9 o2 gc = some (Gx B.1) := fun g9 hg9 o1 o2 => by simp (disch := omega) only [upd_ne, AN]
     have r6 : ∀ g9, n3 ≤ g9 → ∀ o1 o2, upd (upd (upd H3 gc (some (Gx B.1))) g9 o1) g9 o2 _g = some (.cells 24 [aI 0, aI 0]) := fun g9 hg9 o1 o2 => by
      have : _g ≠ gc := by omega
      simp (disch := omega) only [upd_ne]; exact r3
     repeat' (first | simp -implicitDefEqProofs [Bb, Bh, BW, Bd, BX, BZ, BY, Be, BV, B8, Tt, -getElem?_pos, splice, hel, r3] | simp (disch := omega) only [AA] | ((with_reducible refine Al 33 ?_); refine CallK.ofU (cb2 _ _ (r4)) (A0 _) ?_) | (with_reducible first | exact AI | refine AZ ?_ | intro _g _hg | refine A9 ?_ ?_ | intro _hc) | omega)
     refine LoopK.round ?_
     by_cases hE0 : E.2 = 0
     ·have v1 : GZ E = aF (0, 0) := by unfold GZ; rw [if_neg (by simpa using hE0)]
      have v2 : HW E = E.1 := by unfold HW; rw [if_neg (by simpa using hE0)]
      rw [v1, v2] at ce2
      have hE3 := hE2 (by omega) hE0
      clear v1 v2
      simp only [hE0, ne_eq, not_true, if_false] at hE
      repeat' (first | simp -implicitDefEqProofs [Bb, Bh, BW, Bd, BX, BZ, BY, Be, BV, B8, Tt, -getElem?_pos, splice, hel] | simp (disch := omega) only [AA] | ((with_reducible refine Al 33 ?_); refine CallK.ofU (ce2 _ _ (by simp (disch := omega) only [upd_ne, AN])) (A0 _) ?_) | (with_reducible first | exact AI | refine AZ ?_ | intro _g _hg | refine A9 ?_ ?_ | intro _hc) | omega)
      refine LoopK.round ?_
      repeat' (first | simp -implicitDefEqProofs [Bb, Bh, BW, Bd, BX, BZ, BY, Be, BV, B8, Tt, -getElem?_pos, splice, hel] | simp (disch := omega) only [AA] | (with_reducible first | exact AI | refine AZ ?_ | intro _g _hg | refine A9 ?_ ?_ | intro _hc) | omega)
      all_goals (refine hJ (m - 1) _ (by omega) ⟨i + 1, E.1, _, _, by omega, rfl, by omega, ?_, ?_, fun q hq => ?_, by omega, by rw [hks]; exact hE⟩)
      all_goals first
       | (have : _g ≠ gc := by omega
          simp (disch := omega) only [upd_ne]; exact r3)
       | (intro q hq
          by_cases hqg : q = gc
          · subst hqg
            simp (disch := omega) only [upd_ne, AN]
          · simp (disch := omega) only [upd_ne]
            rw [r1 q hq, upd_ne hqg])
       | (have : q ≠ gc := by omega
          simp (disch := omega) only [upd_ne]; exact r2 q (by omega))
     ·have v1 : GZ E = aF (E.2, (E.1 : Int)) := by unfold GZ; rw [if_pos hE0]
      have v2 : HW E = E.1 + 1 := by unfold HW; rw [if_pos hE0]
      have eR : R = E := by rw [← hE, if_pos hE0]
      rw [eR, v1, v2]
      rw [v1, v2] at ce2
      generalize E.2 = E2 at *
      clear hE eR v1 v2 hJ
      repeat' (first | simp -implicitDefEqProofs [Bb, Bh, BW, Bd, BX, BZ, BY, Be, BV, B8, Tt, -getElem?_pos, splice, hel, hE0, r3] | simp (disch := omega) only [AA] | ((with_reducible refine Al 33 ?_); refine CallK.ofU (ce2 _ _ (by simp (disch := omega) only [upd_ne, AN])) (A0 _) ?_) | (with_reducible first | exact AI | refine AZ ?_ | intro _g _hg | refine A9 ?_ ?_ | intro _hc) | omega)
      all_goals first
       | exact A1 _
       | (intro q hq
          by_cases hqg : q = gc
          · subst hqg
            simp (disch := omega) only [upd_ne, AN]
          · simp (disch := omega) only [upd_ne]
            rw [r1 q hq, upd_ne hqg])
    ·have v1 : GZ B = aF (B.2, (B.1 : Int)) := by unfold GZ; rw [if_pos hB0]
     have v2 : HW B = B.1 + 1 := by unfold HW; rw [if_pos hB0]
     have eR : R = B := by rw [← hE]; simp only [hB0, ne_eq, not_false_eq_true, if_true]
     rw [eR, v1, v2]
     rw [v1, v2] at cb2
     clear hE eR v1 v2 hJ ce1 hE2
     generalize B.2 = B2 at *
     repeat' (first | simp -implicitDefEqProofs [Bb, Bh, BW, Bd, BX, BZ, BY, Be, BV, B8, Tt, -getElem?_pos, splice, hel, r3, hB0] | simp (disch := omega) only [AA] | ((with_reducible refine Al 33 ?_); refine CallK.ofU (cb2 _ _ (r4)) (A0 _) ?_) | (with_reducible first | exact AI | refine AZ ?_ | intro _g _hg | refine A9 ?_ ?_ | intro _hc) | omega)
     all_goals first
       | exact A1 _
       | (intro q hq
          by_cases hqg : q = gc
          · subst hqg
            simp (disch := omega) only [upd_ne, AN]
          · simp (disch := omega) only [upd_ne]
            rw [r1 q hq, upd_ne hqg])
   by_cases hi0 : i = 0
   ·subst hi0
    have hz1 : (0 : Int) < l.length := hi'
    have hz2 : ¬ l = [] := fun e => by rw [e] at hi; simp at hi
    
    repeat' (first | simp -implicitDefEqProofs [Bb, Bh, BW, Bd, BX, BZ, BY, Be, BV, B8, Tt, -getElem?_pos, splice, hel, hx2, hi', hgc, hg6, hz1, hz2] | simp (disch := omega) only [AA] | ((with_reducible refine A8 67 ?_); (refine' CallP.sf ?_ (hsh) ?_); (focus first | (with_reducible exact A0 _) | (simp [A5, A4, A1, A0]; done))) | ((with_reducible refine A8 68 ?_); (refine' CallP.sf ?_ (hnm) ?_); (focus first | (with_reducible exact A0 _) | (simp [A5, A4, A1, A0]; done))) | (with_reducible first | exact AI | refine AZ ?_ | intro _g _hg | refine A9 ?_ ?_ | intro _hc) | omega)
    refine hin _ _ _ _ (by assumption) (by assumption) rfl rfl
   ·obtain ⟨ky, ty, ny, pay, fsy, eby, eey, hyk, hy2⟩ := hka (by omega)
    have hip : (0 : Int) < i := by omega
    have hip1 : (1 : Int) ≤ i := by omega
    have hipn : 0 < i := by omega
    have hiw : ((i : Int) - 1).toNat = i - 1 := by omega
    subst hyk
    by_cases k1 : k = 1
    ·subst k1
     have y1 : ¬ pv = 1 := fun h => hkp ⟨rfl, h⟩
     
     repeat' (first | simp -implicitDefEqProofs [Bb, Bh, BW, Bd, BX, BZ, BY, Be, BV, B8, Tt, -getElem?_pos, splice, hel, hx2, hi', hgc, hg6, hip, hip1, hipn, hiw, hy2, y1] | simp (disch := omega) only [AA] | ((with_reducible refine A8 67 ?_); (refine' CallP.sf ?_ (hsh) ?_); (focus first | (with_reducible exact A0 _) | (simp [A5, A4, A1, A0]; done))) | ((with_reducible refine A8 68 ?_); (refine' CallP.sf ?_ (hnm) ?_); (focus first | (with_reducible exact A0 _) | (simp [A5, A4, A1, A0]; done))) | (with_reducible first | exact AI | refine AZ ?_ | intro _g _hg | refine A9 ?_ ?_ | intro _hc) | omega)
     refine hin _ _ _ _ (by assumption) (by assumption) rfl rfl
    ·have hkb : (k == 1) = false := by simpa using k1
     
     repeat' (first | simp -implicitDefEqProofs [Bb, Bh, BW, Bd, BX, BZ, BY, Be, BV, B8, Tt, -getElem?_pos, splice, hel, hx2, hi', hgc, hg6, hip, hip1, hipn, hiw, hy2, k1, hkb] | simp (disch := omega) only [AA] | ((with_reducible refine A8 67 ?_); (refine' CallP.sf ?_ (hsh) ?_); (focus first | (with_reducible exact A0 _) | (simp [A5, A4, A1, A0]; done))) | ((with_reducible refine A8 68 ?_); (refine' CallP.sf ?_ (hnm) ?_); (focus first | (with_reducible exact A0 _) | (simp [A5, A4, A1, A0]; done))) | (with_reducible first | exact AI | refine AZ ?_ | intro _g _hg | refine A9 ?_ ?_ | intro _hc) | omega)
     refine hin _ _ _ _ (by assumption) (by assumption) rfl rfl
  ·have eR : R = (c, Gw pv c d k t nm pa fs b e) := by
    rw [← hE, if_pos hP, if_pos (by exact hP)]
   have eV : GZ R = aF (Gw pv c d k t nm pa fs b e, (c : Int)) := by rw [eR]; unfold GZ; rw [if_pos hP]
   have eN : HW R = c + 1 := by rw [eR]; unfold HW; rw [if_pos hP]
   rw [eV, eN]
   clear hE eR eV eN hJ cb ce
   generalize Gw pv c d k t nm pa fs b e = P at *
   by_cases hS0 : S = 0
   ·rw [if_neg (by simpa using hS0)] at hpc
    subst hS0
    by_cases hi0 : i = 0
    ·have hpv := hk0 hi0
     have : ¬ (k = 1 ∧ pv = 1) := fun h => by omega
     rw [if_neg this] at hpc
     subst hi0
     subst hpc
     have hz1 : (0 : Int) < l.length := hi'
     have hz2 : ¬ l = [] := fun e => by rw [e] at hi; simp at hi
     
     repeat' (first | simp -implicitDefEqProofs [Bb, Bh, BW, Bd, BX, BZ, BY, Be, BV, B8, Tt, -getElem?_pos, splice, hel, hx2, hi', hgc, hg6, hP, hz1, hz2] | simp (disch := omega) only [AA] | ((with_reducible refine A8 67 ?_); (refine' CallP.sf ?_ (hsh) ?_); (focus first | (with_reducible exact A0 _) | (simp [A5, A4, A1, A0]; done))) | ((with_reducible refine A8 68 ?_); (refine' CallP.sf ?_ (hnm) ?_); (focus first | (with_reducible exact A0 _) | (simp [A5, A4, A1, A0]; done))) | (with_reducible first | exact AI | refine AZ ?_ | intro _g _hg | refine A9 ?_ ?_ | intro _hc) | omega)
     all_goals first
      | exact A1 _
      | (intro q hq
         by_cases hqg : q = gc
         · subst hqg
           simp (disch := omega) only [upd_ne, AN]
           first | rfl | (rw [hcc])
         · simp (disch := omega) only [upd_ne]
           rw [hS q hq, upd_ne hqg])
    ·obtain ⟨ky, ty, ny, pay, fsy, eby, eey, hyk, hy2⟩ := hka (by omega)
     have hip : (0 : Int) < i := by omega
     have hip1 : (1 : Int) ≤ i := by omega
     have hipn : 0 < i := by omega
     have hiw : ((i : Int) - 1).toNat = i - 1 := by omega
     subst hyk
     by_cases k1 : k = 1
     ·subst k1
      by_cases y1 : pv = 1
      ·rw [if_pos ⟨rfl, y1⟩] at hpc
       subst hpc
       subst y1
       
       repeat' (first | simp -implicitDefEqProofs [Bb, Bh, BW, Bd, BX, BZ, BY, Be, BV, B8, Tt, -getElem?_pos, splice, hel, hx2, hi', hgc, hg6, hip, hip1, hipn, hiw, hy2] | simp (disch := omega) only [AA] | ((with_reducible refine A8 67 ?_); (refine' CallP.sf ?_ (hsh) ?_); (focus first | (with_reducible exact A0 _) | (simp [A5, A4, A1, A0]; done))) | ((with_reducible refine A8 68 ?_); (refine' CallP.sf ?_ (hnm) ?_); (focus first | (with_reducible exact A0 _) | (simp [A5, A4, A1, A0]; done))) | (with_reducible first | exact AI | refine AZ ?_ | intro _g _hg | refine A9 ?_ ?_ | intro _hc) | omega)
       all_goals first
      | exact A1 _
      | (intro q hq
         by_cases hqg : q = gc
         · subst hqg
           simp (disch := omega) only [upd_ne, AN]
           first | rfl | (rw [hcc])
         · simp (disch := omega) only [upd_ne]
           rw [hS q hq, upd_ne hqg])
      ·rw [if_neg (fun h => y1 h.2)] at hpc
       subst hpc
       have hPb : (P == 0) = false := by simpa using hP
       
       repeat' (first | simp -implicitDefEqProofs [Bb, Bh, BW, Bd, BX, BZ, BY, Be, BV, B8, Tt, -getElem?_pos, splice, hel, hx2, hi', hgc, hg6, hP, hPb, hip, hip1, hipn, hiw, hy2, y1] | simp (disch := omega) only [AA] | ((with_reducible refine A8 67 ?_); (refine' CallP.sf ?_ (hsh) ?_); (focus first | (with_reducible exact A0 _) | (simp [A5, A4, A1, A0]; done))) | ((with_reducible refine A8 68 ?_); (refine' CallP.sf ?_ (hnm) ?_); (focus first | (with_reducible exact A0 _) | (simp [A5, A4, A1, A0]; done))) | (with_reducible first | exact AI | refine AZ ?_ | intro _g _hg | refine A9 ?_ ?_ | intro _hc) | omega)
       all_goals first
      | exact A1 _
      | (intro q hq
         by_cases hqg : q = gc
         · subst hqg
           simp (disch := omega) only [upd_ne, AN]
           first | rfl | (rw [hcc])
         · simp (disch := omega) only [upd_ne]
           rw [hS q hq, upd_ne hqg])
     ·rw [if_neg (fun h => k1 h.1)] at hpc
      subst hpc
      have hPb : (P == 0) = false := by simpa using hP
      have hkb : (k == 1) = false := by simpa using k1
      
      repeat' (first | simp -implicitDefEqProofs [Bb, Bh, BW, Bd, BX, BZ, BY, Be, BV, B8, Tt, -getElem?_pos, splice, hel, hx2, hi', hgc, hg6, hP, hPb, hip, hip1, hipn, hiw, hy2, k1, hkb] | simp (disch := omega) only [AA] | ((with_reducible refine A8 67 ?_); (refine' CallP.sf ?_ (hsh) ?_); (focus first | (with_reducible exact A0 _) | (simp [A5, A4, A1, A0]; done))) | ((with_reducible refine A8 68 ?_); (refine' CallP.sf ?_ (hnm) ?_); (focus first | (with_reducible exact A0 _) | (simp [A5, A4, A1, A0]; done))) | (with_reducible first | exact AI | refine AZ ?_ | intro _g _hg | refine A9 ?_ ?_ | intro _hc) | omega)
      all_goals first
      | exact A1 _
      | (intro q hq
         by_cases hqg : q = gc
         · subst hqg
           simp (disch := omega) only [upd_ne, AN]
           first | rfl | (rw [hcc])
         · simp (disch := omega) only [upd_ne]
           rw [hS q hq, upd_ne hqg])
   ·rw [if_pos hS0] at hpc
    subst hpc
    have hPb : (P == 0) = false := by simpa using hP
    by_cases hi0 : i = 0
    ·subst hi0
     have hz1 : (0 : Int) < l.length := hi'
     have hz2 : ¬ l = [] := fun e => by rw [e] at hi; simp at hi
     
     repeat' (first | simp -implicitDefEqProofs [Bb, Bh, BW, Bd, BX, BZ, BY, Be, BV, B8, Tt, -getElem?_pos, splice, hel, hx2, hi', hgc, hg6, hP, hPb, hz1, hz2] | simp (disch := omega) only [AA] | ((with_reducible refine A8 67 ?_); (refine' CallP.sf ?_ (hsh) ?_); (focus first | (with_reducible exact A0 _) | (simp [A5, A4, A1, A0]; done))) | ((with_reducible refine A8 68 ?_); (refine' CallP.sf ?_ (hnm) ?_); (focus first | (with_reducible exact A0 _) | (simp [A5, A4, A1, A0]; done))) | (with_reducible first | exact AI | refine AZ ?_ | intro _g _hg | refine A9 ?_ ?_ | intro _hc) | omega)
     all_goals first
      | exact A1 _
      | (intro q hq
         by_cases hqg : q = gc
         · subst hqg
           simp (disch := omega) only [upd_ne, AN]
           first | rfl | (rw [hcc])
         · simp (disch := omega) only [upd_ne]
           rw [hS q hq, upd_ne hqg])
    ·obtain ⟨ky, ty, ny, pay, fsy, eby, eey, hyk, hy2⟩ := hka (by omega)
     have hip : (0 : Int) < i := by omega
     have hip1 : (1 : Int) ≤ i := by omega
     have hipn : 0 < i := by omega
     have hiw : ((i : Int) - 1).toNat = i - 1 := by omega
     
     repeat' (first | simp -implicitDefEqProofs [Bb, Bh, BW, Bd, BX, BZ, BY, Be, BV, B8, Tt, -getElem?_pos, splice, hel, hx2, hi', hgc, hg6, hP, hPb, hip, hip1, hipn, hiw, hy2] | simp (disch := omega) only [AA] | ((with_reducible refine A8 67 ?_); (refine' CallP.sf ?_ (hsh) ?_); (focus first | (with_reducible exact A0 _) | (simp [A5, A4, A1, A0]; done))) | ((with_reducible refine A8 68 ?_); (refine' CallP.sf ?_ (hnm) ?_); (focus first | (with_reducible exact A0 _) | (simp [A5, A4, A1, A0]; done))) | (with_reducible first | exact AI | refine AZ ?_ | intro _g _hg | refine A9 ?_ ?_ | intro _hc) | omega)
     all_goals first
      | exact A1 _
      | (intro q hq
         by_cases hqg : q = gc
         · subst hqg
           simp (disch := omega) only [upd_ne, AN]
           first | rfl | (rw [hcc])
         · simp (disch := omega) only [upd_ne]
           rw [hS q hq, upd_ne hqg])
 ·have hi0 : i = l.length := by omega
  subst hi0
  have hi' : ¬ (l.length : Int) < l.length := by omega
  rw [List.drop_length, BU] at hE
  subst hE
  have e1 : GZ (c, 0) = aF (0, 0) := rfl
  have e2 : HW (c, 0) = c := rfl
  rw [e1, e2]
  clear hJ hp
  
  repeat' (first | simp -implicitDefEqProofs [Bb, Bh, BW, Bd, BX, BZ, BY, Be, BV, B8, Tt, -getElem?_pos, splice, hel, hi', hg6, hgc] | simp (disch := omega) only [AA] | (with_reducible first | exact AI | refine AZ ?_ | intro _g _hg | refine A9 ?_ ?_ | intro _hc) | omega)
  all_goals first | exact A1 _ | (exact hS.upd (by omega) _)
theorem A1x (p : Pt) : Ph p → JU p.b (AB p.b) ∧ JU p.e (AB p.e) := by
 refine Pt.ind (Q := fun p => Ph p → JU p.b (AB p.b) ∧ JU p.e (AB p.e)) ?_ p
 intro k t nm pa fs b e hb he h
 simp only [Ph] at h
 obtain ⟨_, _, _, _, _, h6, h7, h8, h9⟩ := h
 exact ⟨Rw b h6 h8 fun x hx => hb x hx (D6 h8 hx), Rw e h7 h9 fun x hx => he x hx (D6 h9 hx)⟩
theorem A2p (l : List Pt) (hl : l.length ≤ 2000000) (hs : FU l) : JU l (AB l) := Rw l hl hs fun x hx => A1x x (D6 hs hx)
theorem A5c (p : Pt) : ∀ pv i d, Ph p → (Gb pv i d p).2 = 0 → Qu p := by
 refine Pt.ind (Q := fun p => ∀ pv i d, Ph p → (Gb pv i d p).2 = 0 → Qu p) ?_ p
 intro k t n pa fs b e hb he pv i d hs h
 have hl : ∀ l : List Pt, (∀ x ∈ l, ∀ pv i d, Ph x → (Gb pv i d x).2 = 0 → Qu x) → ∀ pv i d, FU l → (BU pv i d l).2 = 0 → Jj l := by
  intro l
  induction l with
  | nil => intro _ _ _ _ _ _; trivial
  | cons x r ih =>
   intro h pv i d hs h2
   simp only [FU] at hs
   unfold BU at h2
   by_cases hx : (Gb pv i d x).2 = 0
   ·rw [if_neg (by simpa using hx)] at h2
    exact ⟨h x (by simp) pv i d hs.1 hx, ih (fun y hy => h y (List.mem_cons_of_mem _ hy)) _ _ _ hs.2 h2⟩
   ·rw [if_pos hx] at h2; exact absurd h2 hx
 simp only [Ph] at hs
 obtain ⟨s1, _, _, _, _, _, _, s8, s9⟩ := hs
 unfold Gb at h
 split at h
 ·rename_i hc; exact absurd h hc
 ·rename_i hc
  have hpo := A32 (by simpa using hc)
  have h5 : fs.length ≤ 8 := by
   have hc' : Gw pv i d k t n pa fs b e = 0 := by simpa using hc
   unfold Gw at hc'
   (repeat' split at hc') <;> first | omega | skip
   unfold Gu at hc'
   (repeat' split at hc') <;> first | omega | skip
  split at h
  ·rename_i hb2; exact absurd h hb2
  ·rename_i hb2
   simp only [Qu]
   refine ⟨s1, fun e => hpo.tx.1 e, ?_, ?_, ?_, h5, fun f hf => ⟨A4c (hpo.fo f hf).k, (hpo.fo f hf).lo, (hpo.fo f hf).hi⟩, hl b hb _ _ _ s8 (by simpa using hb2), hl e he _ _ _ s9 h⟩
   ·by_cases k4 : k = 4
    ·exact Sd (hpo.id_ k4)
    ·rw [hpo.nm k4]; simp
   ·by_cases k1 : k = 1
    ·rw [hpo.pt k1]; simp
    ·exact (Pz (hpo.path k1)).1
   ·by_cases k1 : k = 1
    ·rw [hpo.pt k1]; simp
    ·exact (Pz (hpo.path k1)).2
theorem Rv : ∀ (l : List Pt) (pv : Int) (i d : Nat), FU l → (BU pv i d l).2 = 0 → Jj l
 | [], _, _, _, _, _ => trivial
 | x :: r, pv, i, d, hs, h2 => by
  simp only [FU] at hs
  unfold BU at h2
  by_cases hx : (Gb pv i d x).2 = 0
  ·rw [if_neg (by simpa using hx)] at h2
   exact ⟨A5c x pv i d hs.1 hx, Rv r _ _ _ hs.2 h2⟩
  ·rw [if_pos hx] at h2; exact absurd h2 hx
theorem UT (l : List Pt) (hl : l.length ≤ 2000000) (hs : FU l) : APure Tryz.prog 13 [Cr l] (aF (EK l)) := by
 have hla := A2p l hl hs 0 0
 have hel := B3 l
 by_cases h0 : (BU 0 0 0 l).2 = 0
 ·have hok := Rv l 0 0 0 hs h0
  have hsz := Hr l 0 0 0 (by omega) h0
  have htx := Xh l hok (by omega)
  have hlen := Gf l hok
  have e1 : GZ (BU 0 0 0 l) = aF (0, 0) := by unfold GZ; rw [if_neg (by simpa using h0)]
  have e2 : EK l = if (4000 : Int) < (DC l).length then (14, -1) else (0, 0) := by
   unfold EK
   rw [if_neg (by simpa using h0)]
   by_cases h : 4000 < (DC l).length
   ·rw [if_pos h, if_pos (by omega)]
   ·rw [if_neg h, if_neg (by omega)]
  rw [e1] at hla
  rw [e2]
  generalize HW (BU 0 0 0 l) = N1 at *
  generalize DC l = tl at *
  have hla2 : ∀ gc n H, H gc = some (Gx 0) → AUpd Tryz.prog 33 [.ptr gc 0, Cr l, .int .i64 0] n H (aF (0, 0)) gc (Gx N1) := fun gc n H h => hla gc n H (by omega) (by omega) h
  clear hla e1 e2 hok
  by_cases h4 : (4000 : Int) < tl.length
  ·rw [if_pos h4]
   refine A6 Tryz.func13 XU rfl fun n H hH => ?_
   repeat' (first | simp -implicitDefEqProofs [Mf, Mm, c13, -getElem?_pos, splice, hel, h4] | simp (disch := omega) only [AA] | ((with_reducible refine Al 33 ?_); refine CallK.ofU (hla2 _ _ _ (by simp (disch := omega) only [upd_ne, AN]; rfl)) (A0 _) ?_) | ((with_reducible refine A8 31 ?_); (refine' CallP.sf ?_ (htx) ?_); (focus first | (with_reducible exact A0 _) | (simp [A5, A4, A1, A0]; done))) | (with_reducible first | exact AI | refine AP ?_ | intro _g _hg | refine A9 ?_ ?_ | intro _hc) | omega)
   all_goals first | exact A1 _ | (intro q hq; simp (disch := omega) only [upd_ne]; done)
  ·rw [if_neg h4]
   refine A6 Tryz.func13 XU rfl fun n H hH => ?_
   repeat' (first | simp -implicitDefEqProofs [Mf, Mm, c13, -getElem?_pos, splice, hel, h4] | simp (disch := omega) only [AA] | ((with_reducible refine Al 33 ?_); refine CallK.ofU (hla2 _ _ _ (by simp (disch := omega) only [upd_ne, AN]; rfl)) (A0 _) ?_) | ((with_reducible refine A8 31 ?_); (refine' CallP.sf ?_ (htx) ?_); (focus first | (with_reducible exact A0 _) | (simp [A5, A4, A1, A0]; done))) | (with_reducible first | exact AI | refine AP ?_ | intro _g _hg | refine A9 ?_ ?_ | intro _hc) | omega)
   all_goals first | exact A1 _ | (intro q hq; simp (disch := omega) only [upd_ne]; done)
 ·have e1 : GZ (BU 0 0 0 l) = aF ((BU 0 0 0 l).2, ((BU 0 0 0 l).1 : Int)) := by unfold GZ; rw [if_pos h0]
  have e2 : EK l = ((BU 0 0 0 l).2, ((BU 0 0 0 l).1 : Int)) := by unfold EK; rw [if_pos h0]
  rw [e1] at hla
  rw [e2]
  generalize HW (BU 0 0 0 l) = N1 at *
  generalize (BU 0 0 0 l).2 = R2 at *
  generalize (BU 0 0 0 l).1 = R1 at *
  have hla2 : ∀ gc n H, H gc = some (Gx 0) → AUpd Tryz.prog 33 [.ptr gc 0, Cr l, .int .i64 0] n H (aF (R2, R1)) gc (Gx N1) := fun gc n H h => hla gc n H (by omega) (by omega) h
  clear hla e1 e2
  refine A6 Tryz.func13 XU rfl fun n H hH => ?_
  repeat' (first | simp -implicitDefEqProofs [Mf, Mm, c13, -getElem?_pos, splice, hel, h0] | simp (disch := omega) only [AA] | ((with_reducible refine Al 33 ?_); refine CallK.ofU (hla2 _ _ _ (by simp (disch := omega) only [upd_ne, AN]; rfl)) (A0 _) ?_) | (with_reducible first | exact AI | refine AP ?_ | intro _g _hg | refine A9 ?_ ?_ | intro _hc) | omega)
  all_goals first | exact A1 _ | (intro q hq; simp (disch := omega) only [upd_ne]; done)
structure Own (n0 : Nat) (H0 : A3) (bs : List (Nat × AObj)) (n : Nat) (H : A3) : Prop where
 le : n0 ≤ n
 sup : ∀ q, n ≤ q → H q = none
 same : SameB n0 H0 H
 box : ∀ x ∈ bs, H x.1 = some x.2 ∧ n0 ≤ x.1
 nd : (bs.map (·.1)).Nodup
section
variable {n0 n n' : Nat} {H0 H H' : A3}
theorem Own.lt {bs : List (Nat × AObj)} (h : Own n0 H0 bs n H) {x : Nat × AObj} (hx : x ∈ bs) : x.1 < n := by
 rcases Nat.lt_or_ge x.1 n with h1 | h1
 ·exact h1
 ·have := (h.box x hx).1; rw [h.sup _ h1] at this; cases this
theorem Own.perm {bs bs' : List (Nat × AObj)} (h : Own n0 H0 bs n H) (hp : bs.Perm bs') : Own n0 H0 bs' n H :=
 ⟨h.le, h.sup, h.same, fun x hx => h.box x (hp.mem_iff.2 hx), (hp.map _).nodup_iff.1 h.nd⟩
theorem Own.re {xs ys rest : List (Nat × AObj)} (h : Own n0 H0 (xs ++ rest) n H) (hle : n ≤ n') (hsup : ∀ q, n' ≤ q → H' q = none) (hfr : ∀ q, q < n → q ∉ xs.map (·.1) → H' q = H q) (hb : ∀ y ∈ ys, H' y.1 = some y.2 ∧ (y.1 ∈ xs.map (·.1) ∨ n ≤ y.1)) (hnd : (ys.map (·.1)).Nodup) : Own n0 H0 (ys ++ rest) n' H' := by
 have hnd0 := h.nd
 rw [List.map_append, List.nodup_append] at hnd0
 obtain ⟨d1, d2, d3⟩ := hnd0
 have hx0 : ∀ q ∈ xs.map (·.1), n0 ≤ q := by
  intro q hq
  obtain ⟨x, hx, rfl⟩ := List.mem_map.1 hq
  exact (h.box x (List.mem_append_left _ hx)).2
 refine ⟨Nat.le_trans h.le hle, hsup, fun q hq => ?_, fun x hx => ?_, ?_⟩
 ·rw [hfr q (by have := h.le; omega) (fun hm => by have := hx0 q hm; omega)]
  exact h.same q hq
 ·rcases List.mem_append.1 hx with hx | hx
  ·obtain ⟨a, b⟩ := hb x hx
   refine ⟨a, ?_⟩
   rcases b with b | b
   ·exact hx0 _ b
   ·have := h.le; omega
  ·have hl := h.lt (List.mem_append_right _ hx)
   obtain ⟨a, b⟩ := h.box x (List.mem_append_right _ hx)
   refine ⟨?_, b⟩
   rw [hfr _ hl (fun hm => d3 _ hm _ (List.mem_map_of_mem hx) rfl)]
   exact a
 ·rw [List.map_append, List.nodup_append]
  refine ⟨hnd, d2, fun a ha b hb2 he => ?_⟩
  subst he
  obtain ⟨y, hy, rfl⟩ := List.mem_map.1 ha
  obtain ⟨z, hz, e⟩ := List.mem_map.1 hb2
  rcases (hb y hy).2 with b | b
  ·exact d3 _ b _ hb2 rfl
  ·have := h.lt (List.mem_append_right xs hz)
   have e : z.1 = y.1 := e
   omega
theorem Own.new {bs : List (Nat × AObj)} (h : Own n0 H0 bs n H) {g : Nat} (hg : n ≤ g) (ob : Option AObj) : Own n0 H0 bs (g + 1) (upd H g ob) := by
 have := h.re (xs := []) (ys := []) (rest := bs) (n' := g + 1) (H' := upd H g ob) (by omega) (fun q hq => by rw [upd_ne (by omega)]; exact h.sup q (by omega)) (fun q hq _ => upd_ne (by omega)) (by simp) (by simp)
 exact this
theorem Own.fst {g : Nat} {ob : AObj} {bs : List (Nat × AObj)} (h : Own n0 H0 ((g, ob) :: bs) n H) : H g = some ob ∧ n0 ≤ g ∧ g < n := ⟨(h.box _ List.mem_cons_self).1, (h.box _ List.mem_cons_self).2, h.lt List.mem_cons_self⟩
theorem Own.at_ {g : Nat} {ob : AObj} {bs : List (Nat × AObj)} (h : Own n0 H0 bs n H) (hm : (g, ob) ∈ bs) : H g = some ob ∧ n0 ≤ g ∧ g < n := ⟨(h.box _ hm).1, (h.box _ hm).2, h.lt hm⟩
theorem Own.less {bs bs' : List (Nat × AObj)} (h : Own n0 H0 (bs ++ bs') n H) : Own n0 H0 bs n H :=
 ⟨h.le, h.sup, h.same, fun x hx => h.box x (List.mem_append_left _ hx), by have := h.nd; rw [List.map_append, List.nodup_append] at this; exact this.1⟩
end
/-! ### parts, as they lie -/
abbrev Db (l : List Pt) : AObj := .grow 55 (AG (AB l))
def Dc (g : Nat) : List Pt → AV
 | [] => .sl 0 [] .nil
 | x :: r => .slg 7 g (r.length + 1)
def JZ (g : Nat) : List Pt → List (Nat × AObj)
 | [] => []
 | x :: r => [(g, Db (x :: r))]
theorem Mr {g : Nat} {l : List Pt} (h : l ≠ []) : Dc g l = .slg 7 g l.length := by cases l with | nil => exact absurd rfl h | cons x r => rfl
theorem GR {g : Nat} {l : List Pt} (h : l ≠ []) : JZ g l = [(g, Db l)] := by cases l with | nil => exact absurd rfl h | cons x r => rfl
theorem Oz (g : Nat) (l : List Pt) : (Dc g l).one = true ∧ (Dc g l).fits none = true ∧ (Dc g l).cells = [Dc g l] := by cases l <;> exact ⟨rfl, rfl, rfl⟩
theorem YE (a b : List AV) : AG (a ++ b) = AG a ++ AG b := by simp [AG]
theorem Iu : ∀ l : List Pt, (AG (AB l)).length = l.length * 7
 | [] => by simp [AB, AG]
 | x :: r => by
  have h := Iu r
  obtain ⟨k, t, n, pa, fs, b, e⟩ := x
  have e : AG (AB (.mk k t n pa fs b e :: r)) = (Hq (.mk k t n pa fs b e)).cells ++ AG (AB r) := by simp [AB, AG]
  rw [e, List.length_append, h, B7]
  simp [AV.cells]; omega
theorem Ud {cs z v : List AV} (h : v.length = z.length) : splice (cs ++ z) cs.length v = cs ++ v := by
 unfold splice
 rw [List.take_left' rfl, List.drop_eq_nil_of_le (by simp; omega), List.append_nil]
theorem Wl {cs z v : List AV} {k : Nat} : splice (cs ++ z) (cs.length + k) v = cs ++ splice z k v := by
 unfold splice
 rw [List.take_length_add_append, Nat.add_assoc, List.drop_length_add_append, List.append_assoc, List.append_assoc, List.append_assoc]
theorem F3 {z g k : Nat} : BQ none (.slg z g k) = True := by simp [BQ, AV.fits, ones, AV.cells, AV.one]
theorem SL {a0 a1 a2 a3 a4 a5 a6 b0 b1 b2 b3 b4 b5 b6 : AV} : splice [a0, a1, a2, a3, a4, a5, a6] 0 [b0, b1, b2, b3, b4, b5, b6] = [b0, b1, b2, b3, b4, b5, b6] := rfl
structure CellT (T off e : Nat) (ct : AV → List AV) : Prop where
 get : ∀ v, (ct v)[off]? = some v
 put : ∀ v w, splice (ct v) off [w] = ct w
 len : ∀ v, off + 1 ≤ (ct v).length
def UY (Q : AExit → AS → Prop) (T e g n1 : Nat) (H1 : A3) (ct : AV → List AV) (l : List Pt) (x : Pt) : Prop :=
 ∀ (en : AH) (n' : Nat) (H' : A3) (g' : Nat) (ex : AExit), (ex = .normal ∨ ex = .ret) → n1 ≤ n' → (∀ q, n' ≤ q → H' q = none) → (g' = g ∧ l ≠ [] ∨ n1 ≤ g') → g' < n' → H' T = some (.cells e (ct (Dc g' (BC x l)))) → H' g' = some (Db (BC x l)) → (∀ q, q < n1 → q ≠ T → (l ≠ [] → q ≠ g) → H' q = H1 q) → Q ex ⟨en, n', H'⟩
theorem ZU {Q : AExit → AS → Prop} {T off e g g3 n1 : Nat} {H1 : A3} {ct : AV → List AV} {k : Int} {t nm : AE} {pa : List AE} {fs : List (AE × Int)} {b e' : List Pt} (hc : CellT T off e ct) (hs : ∀ q, n1 ≤ q → H1 q = none) (hT : H1 T = some (.cells e (ct (.sl 0 [] .nil)))) (h3 : H1 g3 = some (.cells 55 [aI k, .str t, .str nm, CG pa, Aq fs, .sl 7 (AB b) .ro, .sl 7 (AB e') .ro])) (hTn : T < n1) (h3n : g3 < n1) (hne : T ≠ g3)
  (hQ : UY Q T e g n1 H1 ct [] (.mk k t nm pa fs b e')) : aw Tryz.prog c70_k2 Q ⟨[(3, .ptr g3 0), (4, .ptr T off)], n1, H1⟩ := by
 have hfl : AG (AB [.mk k t nm pa fs b e']) = [aI k, .str t, .str nm, CG pa, Aq fs, .sl 7 (AB b) .ro, .sl 7 (AB e') .ro] := by simp [AB, AG, B7, AV.cells]
 unfold UY at hQ
 rw [Yd] at hQ
 unfold Db at hQ
 rw [hfl] at hQ
 generalize AB b = eb at *
 generalize AB e' = ee at *
 obtain ⟨c1, c2, c3⟩ := hc
 
 repeat' (first | simp -implicitDefEqProofs [Ig, Iq, GG, c70, -getElem?_pos, hT, h3, hne, Ne.symm hne, F3, SL, c1, c2, c3] | simp (disch := omega) only [AA] | (refine RJ (.inl rfl) (A0 _) (by simp) (by simp) (by simp [maxLen]) (fun g hg => ?_)) | (with_reducible first | exact AI | refine AZ ?_ | intro _g _hg | refine A9 ?_ ?_ | intro _hc) | omega)
 refine hQ _ (g + 1) _ g .normal (.inl rfl) (by omega) (fun q hq => by simp (disch := omega) only [upd_ne]; exact hs q (by omega)) (.inr (by omega)) (by omega) (AN _ _ _) (by simp (disch := omega) only [upd_ne, AN]) (fun q q1 q2 _ => by simp (disch := omega) only [upd_ne])
theorem last_at {l : List Pt} {y : Pt} {k : Int} {t nm : AE} {pa : List AE} {fs : List (AE × Int)} {b e : List Pt} (hy : y = .mk k t nm pa fs b e) : AG (AB (l ++ [y])) = AG (AB l) ++ [aI k, .str t, .str nm, CG pa, Aq fs, .sl 7 (AB b) .ro, .sl 7 (AB e) .ro] := by
 subst hy
 rw [MS, YE]
 simp [AB, AG, B7, AV.cells]
theorem YY {Q : AExit → AS → Prop} {T off e g g3 n1 : Nat} {H1 : A3} {ct : AV → List AV} {t2 t : AE} {l : List Pt} {c2 c3 c4 c5 c6 : AV} (hc : CellT T off e ct) (hs : ∀ q, n1 ≤ q → H1 q = none) (hT : H1 T = some (.cells e (ct (Dc g (l ++ [tP t2]))))) (hg : H1 g = some (Db (l ++ [tP t2]))) (h3 : H1 g3 = some (.cells 55 [aI 1, .str t, c2, c3, c4, c5, c6])) (hTn : T < n1) (h3n : g3 < n1) (hne : T ≠ g3) (hgT : g ≠ T) (hg3 : g ≠ g3) (hgn : g < n1) (hl : l.length ≤ 100000) (ht2 : t2.length ≤ 100000) (ht : t.length ≤ 100000)
  (hQ : UY Q T e g n1 H1 ct (l ++ [tP t2]) (tP t)) : aw Tryz.prog c70_k2 Q ⟨[(3, .ptr g3 0), (4, .ptr T off)], n1, H1⟩ := by
 have hne0 : l ++ [tP t2] ≠ [] := by simp
 have hfl := last_at (l := l) (y := tP t2) rfl
 have hfl2 := last_at (l := l) (y := tP (t2 ++ t)) rfl
 have hll := Iu l
 have hlen : (l ++ [tP t2]).length = l.length + 1 := by simp
 unfold UY at hQ
 rw [MT, if_pos ⟨rfl, rfl⟩] at hQ
 rw [Mr hne0, hlen] at hT
 have hlen2 : (l ++ [tP ((tP t2).t ++ (tP t).t)]).length = l.length + 1 := by simp
 unfold Db at hg hQ
 have e0 : tP ((tP t2).t ++ (tP t).t) = tP (t2 ++ t) := rfl
 rw [e0] at hQ hlen2
 rw [hfl2] at hQ
 rw [hfl] at hg
 generalize AG (AB l) = cs at *
 obtain ⟨c1, c2, c3⟩ := hc
 have hi : ((l.length : Int) + 1 - 1) = l.length := by omega
 have q0 : ∀ z, (cs ++ z)[l.length * 7]? = z[0]? := fun z => by rw [← hll, List.getElem?_append_right (Nat.le_refl _)]; simp
 have q1 : ∀ z, (cs ++ z)[l.length * 7 + 1]? = z[1]? := fun z => by rw [← hll, List.getElem?_append_right (by omega)]; simp
 have q2 : ∀ a0 a1 a2 a3 a4 a5 a6 w, splice (cs ++ [a0, a1, a2, a3, a4, a5, a6]) (l.length * 7 + 1) [w] = cs ++ [a0, w, a2, a3, a4, a5, a6] := fun a0 a1 a2 a3 a4 a5 a6 w => by
  rw [← hll, Wl]; rfl
 have q3 : l.length * 7 + 1 + 1 ≤ cs.length + 7 := by omega
 
 repeat' (first | simp -implicitDefEqProofs [Ig, Iq, GG, c70, -getElem?_pos, hT, h3, hg, hne, Ne.symm hne, hgT, Ne.symm hgT, hg3, Ne.symm hg3, F3, c1, q0, q1, q2, q3, hi] | simp (disch := omega) only [AA] | (with_reducible first | exact AI | refine AZ ?_ | intro _g _hg | refine A9 ?_ ?_ | intro _hc) | omega)
 refine hQ _ n1 _ g .ret (.inr rfl) (Nat.le_refl _) (fun q hq => by rw [upd_ne (by omega)]; exact hs q hq) (.inl ⟨rfl, hne0⟩) hgn ?_ (AN _ _ _) (fun q h1 h2 h4 => upd_ne (h4 hne0))
 rw [upd_ne (Ne.symm hgT), hT, Mr (by simp), hlen2]
theorem YZ {Q : AExit → AS → Prop} {T off e g g3 n1 : Nat} {H1 : A3} {ct : AV → List AV} {k : Int} {t nm : AE} {pa : List AE} {fs : List (AE × Int)} {b e' : List Pt} {l : List Pt} {y : Pt} (hc : CellT T off e ct) (hs : ∀ q, n1 ≤ q → H1 q = none) (hT : H1 T = some (.cells e (ct (Dc g (l ++ [y]))))) (hg : H1 g = some (Db (l ++ [y]))) (h3 : H1 g3 = some (.cells 55 [aI k, .str t, .str nm, CG pa, Aq fs, .sl 7 (AB b) .ro, .sl 7 (AB e') .ro])) (hTn : T < n1) (h3n : g3 < n1) (hne : T ≠ g3) (hgT : g ≠ T) (hg3 : g ≠ g3) (hgn : g < n1) (hl : l.length ≤ 100000) (hk : ¬ (k = 1 ∧ y.k = 1))
  (hQ : UY Q T e g n1 H1 ct (l ++ [y]) (.mk k t nm pa fs b e')) : aw Tryz.prog c70_k2 Q ⟨[(3, .ptr g3 0), (4, .ptr T off)], n1, H1⟩ := by
 have hne0 : l ++ [y] ≠ [] := by simp
 have hlen : (l ++ [y]).length = l.length + 1 := by simp
 have hll := Iu l
 have hll1 := Iu (l ++ [y])
 rw [hlen] at hll1
 have hlen2 : (l ++ [y] ++ [Pt.mk k t nm pa fs b e']).length = l.length + 2 := by simp
 have hfl2 := last_at (l := l ++ [y]) (y := .mk k t nm pa fs b e') rfl
 unfold UY at hQ
 rw [MT, if_neg (show ¬ ((Pt.mk k t nm pa fs b e').k = 1 ∧ y.k = 1) from hk)] at hQ
 rw [Mr hne0, hlen] at hT
 unfold Db at hg hQ
 rw [hfl2] at hQ
 have hya : ∃ c : List AV, AG (AB (l ++ [y])) = AG (AB l) ++ aI y.k :: c := by
  obtain ⟨a1, a2, a3, a4, a5, a6, a7⟩ := y
  exact ⟨_, last_at rfl⟩
 obtain ⟨yc, hyc⟩ := hya
 generalize hcs : AG (AB (l ++ [y])) = cs at *
 generalize AB b = eb at *
 generalize AB e' = ee at *
 obtain ⟨c1, c2, c3⟩ := hc
 have hi : ((l.length : Int) + 1 - 1) = l.length := by omega
 have q0 : cs[l.length * 7]? = some (aI y.k) := by rw [hyc, ← hll, List.getElem?_append_right (Nat.le_refl _)]; simp
 have hsp : ∀ v : List AV, v.length = 7 → splice (cs ++ [aI 0, .str [], .str [], .sl 0 [] .nil, .sl 0 [] .nil, .sl 0 [] .nil, .sl 0 [] .nil]) ((l.length + 1) * 7) v = cs ++ v := fun v h => by rw [← hll1]; exact Ud h
 have hil : (l.length : Int) + 1 < l.length + 2 := by omega
 clear hcs hyc
 generalize y.k = yk at *
 
 by_cases hk1 : k = 1
 ·have hy1 : ¬ yk = 1 := fun h => hk ⟨hk1, h⟩
  subst hk1
  repeat' (first | simp -implicitDefEqProofs [Ig, Iq, GG, c70, -getElem?_pos, hT, h3, hg, hne, Ne.symm hne, hgT, Ne.symm hgT, hg3, Ne.symm hg3, F3, SL, c1, c2, c3, q0, hi, hil, hy1, hsp] | simp (disch := omega) only [AA] | (with_reducible refine VD [g] ?_) | (refine Mb (.inl rfl) (A0 _) (by simp (disch := omega) only [upd_ne]; exact hg) hll1 (by simp; omega) (by simp [maxLen]; omega) (fun g' n' hg h1 h2 => ?_)) | (with_reducible first | exact AI | refine AZ ?_ | intro _g _hg | refine A9 ?_ ?_ | intro _hc) | omega)
  refine hQ _ n' _ g' .normal (.inl rfl) (by omega) (fun q hq => by simp (disch := omega) only [upd_ne]; exact hs q (by omega)) (by rcases hg with h | h; exact .inl ⟨h, hne0⟩; exact .inr (by omega)) h2 ?_ ?_ (fun q q1 q2 q3 => ?_)
  ·rw [AN, Mr (by simp), hlen2]
  ·have : g' ≠ T := by omega
   rw [upd_ne this, AN]
  ·have := q3 hne0
   have : q ≠ g' := by omega
   simp (disch := omega) only [upd_ne]
 ·repeat' (first | simp -implicitDefEqProofs [Ig, Iq, GG, c70, -getElem?_pos, hT, h3, hg, hne, Ne.symm hne, hgT, Ne.symm hgT, hg3, Ne.symm hg3, F3, SL, c1, c2, c3, q0, hi, hil, hk1, hsp] | simp (disch := omega) only [AA] | (with_reducible refine VD [g] ?_) | (refine Mb (.inl rfl) (A0 _) (by simp (disch := omega) only [upd_ne]; exact hg) hll1 (by simp; omega) (by simp [maxLen]; omega) (fun g' n' hg h1 h2 => ?_)) | (with_reducible first | exact AI | refine AZ ?_ | intro _g _hg | refine A9 ?_ ?_ | intro _hc) | omega)
  refine hQ _ n' _ g' .normal (.inl rfl) (by omega) (fun q hq => by simp (disch := omega) only [upd_ne]; exact hs q (by omega)) (by rcases hg with h | h; exact .inl ⟨h, hne0⟩; exact .inr (by omega)) h2 ?_ ?_ (fun q q1 q2 q3 => ?_)
  ·rw [AN, Mr (by simp), hlen2]
  ·have : g' ≠ T := by omega
   rw [upd_ne this, AN]
  ·have := q3 hne0
   have : q ≠ g' := by omega
   simp (disch := omega) only [upd_ne]
theorem Zd {Q : AExit → AS → Prop} {T off e g g3 n1 : Nat} {H1 : A3} {ct : AV → List AV} {k : Int} {t nm : AE} {pa : List AE} {fs : List (AE × Int)} {b e' : List Pt} {l : List Pt} (hc : CellT T off e ct) (hs : ∀ q, n1 ≤ q → H1 q = none) (hT : H1 T = some (.cells e (ct (Dc g l)))) (hg : l ≠ [] → H1 g = some (Db l) ∧ g ≠ T ∧ g ≠ g3 ∧ g < n1) (h3 : H1 g3 = some (.cells 55 [aI k, .str t, .str nm, CG pa, Aq fs, .sl 7 (AB b) .ro, .sl 7 (AB e') .ro])) (hTn : T < n1) (h3n : g3 < n1) (hne : T ≠ g3) (hl : N0 100000 l) (ht : t.length ≤ 100000) (hx : k = 1 → Pt.mk k t nm pa fs b e' = tP t)
  (hQ : UY Q T e g n1 H1 ct l (.mk k t nm pa fs b e')) : aw Tryz.prog c70_k2 Q ⟨[(3, .ptr g3 0), (4, .ptr T off)], n1, H1⟩ := by
 rcases List.eq_nil_or_concat l with rfl | ⟨l', y, rfl⟩
 ·exact ZU (g := g) hc hs hT h3 hTn h3n hne hQ
 ·obtain ⟨a1, a2, a3, a4⟩ := hg (by simp)
  obtain ⟨b1, b2, b3⟩ := hl
  simp only [List.concat_eq_append] at *
  have hl' : l'.length ≤ 100000 := by simp at b1; omega
  by_cases hk : k = 1 ∧ y.k = 1
  ·obtain ⟨rfl, hy⟩ := hk
   have hy2 := b3 y (by simp) hy
   have hx2 := hx rfl
   have hy3 := Qp (bdPs_iff.1 b2 y (by simp))
   rw [hx2] at hQ
   rw [hy2] at hT a1 hQ
   exact YY hc hs hT a1 h3 hTn h3n hne a2 a3 a4 hl' hy3 ht hQ
  ·exact YZ hc hs hT a1 h3 hTn h3n hne a2 a3 a4 hl' hk hQ
structure Op where
 p : Pt
 f : Bool
 g : Nat
 gb : Nat
 ge : Nat
variable {α : Type} {k : Int} {t nm s : AE} {pa : List AE} {fs : List (AE × Int)} {b e' : List Pt} {R : Gk} {st : Fv} {P : Program} {f : Nat} {x : AV} {args : List AV}
def opC (o : Op) : List AV := [aI o.p.k, .str o.p.t, .str o.p.n, CG o.p.pa, Aq o.p.fs, Dc o.gb o.p.b, Dc o.ge o.p.e, .bool o.f]
def XM (o : Op) : List (Nat × AObj) := (o.g, .cells 126 (opC o)) :: (JZ o.gb o.p.b ++ JZ o.ge o.p.e)
def QP (gs : Option Nat) (n : Nat) : AV := match gs with | none => .sl 0 [] .nil | some g => .slg 1 g n
def Pk (ops : List Nat) : List AV := ops.reverse.map fun g => .ptr g 0
def Tl (gs : Option Nat) (ops : List Nat) : List (Nat × AObj) := match gs with | none => [] | some g => [(g, .grow 127 (Pk ops))]
def QO (gp gl : Nat) (gs : Option Nat) (ps : List Pt) (ops : List Op) : List (Nat × AObj) := (gp, .cells 74 [Dc gl ps, QP gs ops.length]) :: (JZ gl ps ++ (Tl gs (ops.map Op.g) ++ ops.flatMap XM))
def PS (n0 : Nat) (H0 : A3) (gp : Nat) (st : Fv) (n : Nat) (H : A3) : Prop := ∃ gl gs ops, Own n0 H0 (QO gp gl gs st.1 ops) n H ∧ ops.map (fun o => (o.p, o.f)) = st.2 ∧ (gs = none → ops = [])
theorem Pg (g : Nat) (r : List Nat) : Pk (g :: r) = Pk r ++ [.ptr g 0] := by simp [Pk]
theorem S6 (r : List Nat) : (Pk r).length = r.length := by simp [Pk]
theorem pm1 (A D : α) (B C E F G : List α) : (A :: (B ++ (C ++ ((D :: (E ++ F)) ++ G)))).Perm ((D :: E) ++ (A :: (B ++ (C ++ (F ++ G))))) := by
 classical exact List.perm_iff_count.2 fun a => by simp [List.count_append, List.count_cons]; omega
theorem pm2 (A D : α) (B C E F G : List α) : (A :: (B ++ (C ++ ((D :: (E ++ F)) ++ G)))).Perm ((D :: F) ++ (A :: (B ++ (C ++ (E ++ G))))) := by
 classical exact List.perm_iff_count.2 fun a => by simp [List.count_append, List.count_cons]; omega
section
variable {n0 n n' g g' T e : Nat} {H0 H H' : A3} {ct : AV → List AV} {rest : List (Nat × AObj)} {l l' : List Pt}
theorem Xa (hl : l ≠ []) (h : Own n0 H0 (((T, .cells e (ct (Dc g l))) :: JZ g l) ++ rest) n H) : H g = some (Db l) ∧ g ≠ T ∧ g < n := by
 rw [GR hl] at h
 obtain ⟨a, _, b⟩ := h.at_ (g := g) (ob := Db l) (by simp)
 refine ⟨a, ?_, b⟩
 have := h.nd
 simp at this
 exact fun e => this.1.1 e.symm
theorem Own.lst (h : Own n0 H0 (((T, .cells e (ct (Dc g l))) :: JZ g l) ++ rest) n H) (hle : n ≤ n') (hs : ∀ q, n' ≤ q → H' q = none) (hg : g' = g ∧ l ≠ [] ∨ n ≤ g') (hT : H' T = some (.cells e (ct (Dc g' l')))) (hg' : H' g' = some (Db l')) (hl' : l' ≠ []) (hf : ∀ q, q < n → q ≠ T → (l ≠ [] → q ≠ g) → H' q = H q) : Own n0 H0 (((T, .cells e (ct (Dc g' l'))) :: JZ g' l') ++ rest) n' H' := by
 have hTn := h.fst.2.2
 refine h.re hle hs (fun q hq hm => ?_) (fun y hy => ?_) ?_
 ·simp only [List.map_cons, List.mem_cons, not_or] at hm
  refine hf q hq hm.1 fun hl hqg => hm.2 ?_
  rw [GR hl, hqg]; simp
 ·rcases List.mem_cons.1 hy with rfl | hy
  ·exact ⟨hT, .inl (by simp)⟩
  ·rw [GR hl', List.mem_singleton] at hy
   subst hy
   refine ⟨hg', ?_⟩
   rcases hg with ⟨rfl, hl⟩ | hg
   ·left; rw [GR hl]; simp
   ·exact .inr hg
 ·rw [GR hl']
  have : T ≠ g' := by
   rcases hg with ⟨rfl, hl⟩ | hg
   ·exact fun e => (Xa hl h).2.1 e.symm
   ·omega
  simp [this]
end
theorem W3 (x : Pt) (l : List Pt) : BC x l ≠ [] := by
 unfold BC
 cases l.getLast? with
 | none => simp
 | some y => dsimp only; split <;> simp
abbrev agP (k : Int) (t nm : AE) (pa : List AE) (fs : List (AE × Int)) (b e : List Pt) : AV := .agg [aI k, .str t, .str nm, CG pa, Aq fs, .sl 7 (AB b) .ro, .sl 7 (AB e) .ro]
theorem A1d {n0 n g T e off : Nat} {H0 H : A3} {ct : AV → List AV} {rest : List (Nat × AObj)} {l : List Pt} (hc : CellT T off e ct) (h : Own n0 H0 (((T, .cells e (ct (Dc g l))) :: JZ g l) ++ rest) n H) (hl : N0 100000 l) (ht : t.length ≤ 100000) (hx : k = 1 → Pt.mk k t nm pa fs b e' = tP t) {g3 : Nat} (h3 : n ≤ g3) (hR : ∀ n' H' g', Own n0 H0 (((T, .cells e (ct (Dc g' (BC (.mk k t nm pa fs b e') l)))) :: JZ g' (BC (.mk k t nm pa fs b e') l)) ++ rest) n' H' → n ≤ n' → R (.tup []) n' H') :
  aw Tryz.prog c70_k2 (fin R n []) ⟨[(3, .ptr g3 0), (4, .ptr T off)], g3 + 1, upd H g3 (some (.cells 55 [aI k, .str t, .str nm, CG pa, Aq fs, .sl 7 (AB b) .ro, .sl 7 (AB e') .ro]))⟩ := by
 have hT := h.fst
 refine Zd (g := g) (l := l) (T := T) (off := off) (ct := ct) (e := e) hc (fun q hq => by rw [upd_ne (by omega)]; exact h.sup q (by omega)) (by rw [upd_ne (by omega)]; exact hT.1) (fun hne => ?_) (AN _ _ _) (by omega) (by omega) (by omega) hl ht hx ?_
 ·obtain ⟨a1, a2, a3⟩ := Xa hne h
  exact ⟨by rw [upd_ne (by omega)]; exact a1, a2, by omega, by omega⟩
 ·intro en n' H' g' ex hex q1 q2 q3 q4 q5 q6 q7
  have hO : Own n0 H0 (((T, .cells e (ct (Dc g' (BC (.mk k t nm pa fs b e') l)))) :: JZ g' (BC (.mk k t nm pa fs b e') l)) ++ rest) n' H' := by
   by_cases hne : l = []
   ·subst hne
    refine h.lst (by omega) q2 ?_ q5 q6 (W3 _ _) (fun q c1 c2 c3 => ?_)
    ·rcases q3 with q3 | q3
     ·exact absurd rfl q3.2
     ·right; omega
    ·rw [q7 q (by omega) c2 (fun h => absurd rfl h), upd_ne (by omega)]
   ·refine h.lst (by omega) q2 ?_ q5 q6 (W3 _ _) (fun q c1 c2 c3 => ?_)
    ·rcases q3 with q3 | q3
     ·exact .inl q3
     ·right; omega
    ·rw [q7 q (by omega) c2 c3, upd_ne (by omega)]
  rcases hex with rfl | rfl
  ·exact Rj rfl (by omega) q2 (hR _ _ _ hO (by omega))
  ·exact Bi rfl (by omega) q2 (hR _ _ _ hO (by omega))
theorem Oy {Q : AExit → AS → Prop} {en : AH} {n1 : Nat} {H1 : A3} {x y : AV} (e3 : get en 3 = x) (e4 : get en 4 = y) (h : aw Tryz.prog c70_k2 Q ⟨[(3, x), (4, y)], n1, H1⟩) : aw Tryz.prog c70_k2 Q ⟨en, n1, H1⟩ := by
 have e : D9 en [3, 4] = D9 [(3, x), (4, y)] [3, 4] := by simp [D9, get, e3, e4]
 unfold c70_k2 at h ⊢
 rw [Fy] at h ⊢
 rw [e]
 exact h
theorem YD {n0 n gp : Nat} {H0 H : A3} (h : PS n0 H0 gp st n H) (hb : QT 100000 st) (ht : t.length ≤ 100000) (hx : k = 1 → Pt.mk k t nm pa fs b e' = tP t) :
  ACalls Tryz.prog 70 [.ptr gp 0, agP k t nm pa fs b e'] n H (fun r n' H' => r = .tup [] ∧ PS n0 H0 gp (Ee (.mk k t nm pa fs b e') st) n' H' ∧ n ≤ n') := by
 obtain ⟨gl, gs, ops, hO, he, hgs⟩ := h
 have hP := hO.fst.1
 have hlt := hO.fst.2.2
 have htop := P2 hb
 obtain ⟨ps, kk⟩ := st
 simp only at he hP hO
 have hadd : ∀ g3, n ≤ g3 → ∀ (T off g e : Nat) (ct : AV → List AV) (rest : List (Nat × AObj)), CellT T off e ct → Own n0 H0 (((T, .cells e (ct (Dc g (Gd (ps, kk))))) :: JZ g (Gd (ps, kk))) ++ rest) n H → (∀ n' H' g', Own n0 H0 (((T, .cells e (ct (Dc g' (BC (.mk k t nm pa fs b e') (Gd (ps, kk)))))) :: JZ g' (BC (.mk k t nm pa fs b e') (Gd (ps, kk)))) ++ rest) n' H' → PS n0 H0 gp (Ee (.mk k t nm pa fs b e') (ps, kk)) n' H') → aw Tryz.prog c70_k2 (fin (fun r n' H' => r = .tup [] ∧ PS n0 H0 gp (Ee (.mk k t nm pa fs b e') (ps, kk)) n' H' ∧ n ≤ n') n []) ⟨[(3, .ptr g3 0), (4, .ptr T off)], g3 + 1, upd H g3 (some (.cells 55 [aI k, .str t, .str nm, CG pa, Aq fs, .sl 7 (AB b) .ro, .sl 7 (AB e') .ro]))⟩ := by
  intro g3 h3 T off g e ct rest hc hO' hk
  exact A1d hc hO' htop ht hx h3 fun n' H' g' hO2 hle => ⟨rfl, hk n' H' g' hO2, hle⟩
 cases ops with
 | nil =>
  have hkk : kk = [] := by rw [← he]; rfl
  subst hkk
  have hfin : ∀ g3, n ≤ g3 → aw Tryz.prog c70_k2 (fin (fun r n' H' => r = .tup [] ∧ PS n0 H0 gp (Ee (.mk k t nm pa fs b e') (ps, [])) n' H' ∧ n ≤ n') n []) ⟨[(3, .ptr g3 0), (4, .ptr gp 0)], g3 + 1, upd H g3 (some (.cells 55 [aI k, .str t, .str nm, CG pa, Aq fs, .sl 7 (AB b) .ro, .sl 7 (AB e') .ro]))⟩ := fun g3 h3 =>
   hadd g3 h3 gp 0 gl 74 (fun v => [v, QP gs 0]) (Tl gs []) ⟨fun _ => rfl, fun _ _ => rfl, fun _ => by simp⟩ (by simpa [QO, Gd] using hO) (fun n' H' g' hO2 => ⟨g', gs, [], by simpa [QO, Gd, Ee, BP] using hO2, rfl, fun _ => rfl⟩)
  clear hadd
  refine AK Tryz.func70 A1g rfl fun hs => ?_
  cases gs with
  | none =>
   repeat' (first | simp -implicitDefEqProofs [c70, -getElem?_pos, hP, QP] | simp (disch := omega) only [AA] | (with_reducible first | exact AI | refine AZ ?_ | intro _g _hg | refine A9 ?_ ?_ | intro _hc) | omega)
   exact Oy rfl rfl (hfin _ (by assumption))
  | some g =>
   repeat' (first | simp -implicitDefEqProofs [c70, -getElem?_pos, hP, QP] | simp (disch := omega) only [AA] | (with_reducible first | exact AI | refine AZ ?_ | intro _g _hg | refine A9 ?_ ?_ | intro _hc) | omega)
   exact Oy rfl rfl (hfin _ (by assumption))
 | cons o r =>
  obtain ⟨p, f, g, gb, ge⟩ := o
  have hkk : kk = (p, f) :: r.map (fun o => (o.p, o.f)) := by rw [← he]; rfl
  subst hkk
  cases gs with
  | none => exact absurd (hgs rfl) (by simp)
  | some gk =>
   have hm1 : (gk, AObj.grow 127 (Pk (g :: r.map Op.g))) ∈ QO gp gl (some gk) ps (⟨p, f, g, gb, ge⟩ :: r) := by simp [QO, Tl]
   have hm2 : (g, AObj.cells 126 (opC ⟨p, f, g, gb, ge⟩)) ∈ QO gp gl (some gk) ps (⟨p, f, g, gb, ge⟩ :: r) := by simp [QO, XM]
   have hK := (hO.at_ hm1).1
   have hG := (hO.at_ hm2).1
   have hGn := (hO.at_ hm2).2.2
   have hKn := (hO.at_ hm1).2.2
   rw [Pg] at hK
   have hsl := S6 (r.map Op.g)
   rw [List.length_map] at hsl
   have hrl : r.length ≤ 100000 := by have := hb.2.1; simp at this; omega
   obtain ⟨k', t', nm', pa', fs', b2, e2⟩ := p
   have hfin : ∀ g3, n ≤ g3 → aw Tryz.prog c70_k2 (fin (fun r' n' H' => r' = .tup [] ∧ PS n0 H0 gp (Ee (.mk k t nm pa fs b e') (ps, (Pt.mk k' t' nm' pa' fs' b2 e2, f) :: r.map (fun o => (o.p, o.f)))) n' H' ∧ n ≤ n') n []) ⟨[(3, .ptr g3 0), (4, .ptr g (if f = true then 6 else 5))], g3 + 1, upd H g3 (some (.cells 55 [aI k, .str t, .str nm, CG pa, Aq fs, .sl 7 (AB b) .ro, .sl 7 (AB e') .ro]))⟩ := by
    intro g3 h3
    cases f with
    | false =>
     refine hadd g3 h3 g 5 gb 126 (fun v => [aI k', .str t', .str nm', CG pa', Aq fs', v, Dc ge e2, .bool false]) ((gp, .cells 74 [Dc gl ps, QP (some gk) (r.length + 1)]) :: (JZ gl ps ++ (Tl (some gk) (g :: r.map Op.g) ++ (JZ ge e2 ++ r.flatMap XM)))) ⟨fun _ => rfl, fun _ _ => rfl, fun _ => by simp⟩ (hO.perm (pm1 _ _ _ _ _ _ _)) (fun n' H' g' hO2 => ⟨gl, some gk, ⟨Pt.mk k' t' nm' pa' fs' (BC (.mk k t nm pa fs b e') b2) e2, false, g, g', ge⟩ :: r, hO2.perm (pm1 (gp, .cells 74 [Dc gl ps, QP (some gk) (r.length + 1)]) (g, .cells 126 [aI k', .str t', .str nm', CG pa', Aq fs', Dc g' (BC (.mk k t nm pa fs b e') b2), Dc ge e2, .bool false]) (JZ gl ps) (Tl (some gk) (g :: r.map Op.g)) (JZ g' (BC (.mk k t nm pa fs b e') b2)) (JZ ge e2) (r.flatMap XM)).symm, rfl, fun h => by cases h⟩)
    | true =>
     refine hadd g3 h3 g 6 ge 126 (fun v => [aI k', .str t', .str nm', CG pa', Aq fs', Dc gb b2, v, .bool true]) ((gp, .cells 74 [Dc gl ps, QP (some gk) (r.length + 1)]) :: (JZ gl ps ++ (Tl (some gk) (g :: r.map Op.g) ++ (JZ gb b2 ++ r.flatMap XM)))) ⟨fun _ => rfl, fun _ _ => rfl, fun _ => by simp⟩ (hO.perm (pm2 _ _ _ _ _ _ _)) (fun n' H' g' hO2 => ⟨gl, some gk, ⟨Pt.mk k' t' nm' pa' fs' b2 (BC (.mk k t nm pa fs b e') e2), true, g, gb, g'⟩ :: r, hO2.perm (pm2 (gp, .cells 74 [Dc gl ps, QP (some gk) (r.length + 1)]) (g, .cells 126 [aI k', .str t', .str nm', CG pa', Aq fs', Dc gb b2, Dc g' (BC (.mk k t nm pa fs b e') e2), .bool true]) (JZ gl ps) (Tl (some gk) (g :: r.map Op.g)) (JZ gb b2) (JZ g' (BC (.mk k t nm pa fs b e') e2)) (r.flatMap XM)).symm, rfl, fun h => by cases h⟩)
   clear hadd hm1 hm2 hO he hgs
   have hlen : ((⟨Pt.mk k' t' nm' pa' fs' b2 e2, f, g, gb, ge⟩ : Op) :: r).length = r.length + 1 := rfl
   rw [hlen] at hP
   have hi : ((r.length : Int) + 1 - 1) = r.length := by omega
   have q0 : ∀ z, (Pk (r.map Op.g) ++ z)[r.length]? = z[0]? := fun z => by rw [← hsl, List.getElem?_append_right (Nat.le_refl _)]; simp
   simp only [opC, Pt.k, Pt.t, Pt.n, Pt.pa, Pt.fs, Pt.b, Pt.e] at hG
   generalize Pk (r.map Op.g) = cs at *
   generalize Dc gb b2 = v5 at *
   generalize Dc ge e2 = v6 at *
   generalize Dc gl ps = vp at *
   have hpos : (0 : Int) < (r.length : Int) + 1 := by omega
   refine AK Tryz.func70 A1g rfl fun hs => ?_
   cases f with
   | false =>
    repeat' (first | simp -implicitDefEqProofs [c70, GG, -getElem?_pos, hP, hK, hG, QP, q0, hi, hpos] | simp (disch := omega) only [AA] | (with_reducible first | exact AI | refine AZ ?_ | intro _g _hg | refine A9 ?_ ?_ | intro _hc) | omega)
    all_goals (refine Oy rfl rfl ?_; exact hfin _ (by assumption))
   | true =>
    repeat' (first | simp -implicitDefEqProofs [c70, GG, -getElem?_pos, hP, hK, hG, QP, q0, hi, hpos] | simp (disch := omega) only [AA] | (with_reducible first | exact AI | refine AZ ?_ | intro _g _hg | refine A9 ?_ ?_ | intro _hc) | omega)
    all_goals (refine Oy rfl rfl ?_; exact hfin _ (by assumption))
theorem PS.own {n0 n gp : Nat} {H0 H : A3} (h : PS n0 H0 gp st n H) : n0 ≤ gp ∧ gp < n ∧ n0 ≤ n ∧ (∀ q, n ≤ q → H q = none) ∧ SameB n0 H0 H := by
 obtain ⟨gl, gs, ops, hO, _, _⟩ := h
 exact ⟨hO.fst.2.1, hO.fst.2.2, hO.le, hO.sup, hO.same⟩
theorem PS.new {n0 n gp : Nat} {H0 H : A3} {st : Fv} (h : PS n0 H0 gp st n H) {g : Nat} (hg : n ≤ g) (ob : Option AObj) : PS n0 H0 gp st (g + 1) (upd H g ob) := by
 obtain ⟨gl, gs, ops, hO, h1, h2⟩ := h
 exact ⟨gl, gs, ops, hO.new hg ob, h1, h2⟩
theorem PS.keep {n0 n n' gp : Nat} {H0 H H' : A3} (h : PS n0 H0 gp st n H) (hle : n ≤ n') (hs : ∀ q, n' ≤ q → H' q = none) (hk : ∀ q, q < n → H' q = H q) : PS n0 H0 gp st n' H' := by
 obtain ⟨gl, gs, ops, hO, h1, h2⟩ := h
 refine ⟨gl, gs, ops, ?_, h1, h2⟩
 exact hO.re (xs := []) (ys := []) hle hs (fun q hq _ => hk q hq) (by simp) (by simp)
theorem Aa (z : Nat) : A4 (.sl 0 [] .nil) (.sl z [] .ro) := ⟨_, _, _, rfl, .inl rfl, .inr ⟨rfl, rfl⟩, rfl⟩
theorem GK {args args' : List AV} {v : AV} (h : APure P f args' v) (hs : A5 args args') : APure P f args v := fun n H => ACalls.sim (h n H) hs
theorem Ur {n0 n gp : Nat} {H0 H : A3} (h : PS n0 H0 gp st n H) (hb : QT 100000 st) (ht : t.length ≤ 100000) :
  ACalls Tryz.prog 40 [.ptr gp 0, .str t] n H (fun r n' H' => r = .tup [] ∧ PS n0 H0 gp (CF t st) n' H' ∧ n ≤ n') := by
 have hsup := h.own.2.2.2.1
 by_cases h0 : t = []
 ·subst h0
  have e : CF [] st = st := rfl
  rw [e]
  refine AK Tryz.func40 A1h rfl fun hs => ?_
  repeat' (first | simp -implicitDefEqProofs [c40, -getElem?_pos] | simp (disch := omega) only [AA] | (with_reducible first | exact AI | refine Hl ?_ | intro _g _hg | refine A9 ?_ ?_ | intro _hc) | omega)
  exact Rj rfl (Nat.le_refl _) hsup ⟨rfl, h, Nat.le_refl _⟩
 ·have e : CF t st = Ee (tP t) st := by unfold CF; rw [if_neg h0]
  have hc := YD (k := 1) (t := t) (nm := []) (pa := []) (fs := []) (b := []) (e' := []) h hb ht (fun _ => rfl)
  rw [e]
  have e2 : Pt.mk 1 t [] [] [] [] [] = tP t := rfl
  rw [e2] at hc
  generalize Ee (tP t) st = st' at *
  refine AK Tryz.func40 A1h rfl fun hs => ?_
  repeat' (first | simp -implicitDefEqProofs [c40, -getElem?_pos, h0] | simp (disch := omega) only [AA] | ((with_reducible refine Al 70 ?_); refine ⟨_, ACalls.sim hc (A2 (A1 _) (A2 (Cp (A2 (A1 _) (A2 (A1 _) (A2 (A1 _) (A2 (Aa 1) (A2 (Aa 2) (A2 (Aa 7) (A2 (Aa 7) rfl)))))))) rfl)), ?_⟩; rintro r n' H' hn hs ⟨rfl, hP, hle⟩) | (with_reducible first | exact AI | refine Hl ?_ | intro _g _hg | refine A9 ?_ ?_ | intro _hc) | omega)
  all_goals exact Rj rfl hle hs ⟨rfl, hP, hle⟩
theorem pm3 (A : α) (L S F : List α) : (A :: (L ++ (S ++ F))).Perm ((A :: S) ++ (L ++ F)) := by
 classical exact List.perm_iff_count.2 fun a => by simp [List.count_append, List.count_cons]; omega
theorem pm4 (A D : α) (L S F : List α) : (A :: (L ++ (S ++ (D :: F)))).Perm ((A :: D :: S) ++ (L ++ F)) := by
 classical exact List.perm_iff_count.2 fun a => by simp [List.count_append, List.count_cons]; omega
def A0v (k : Int) (nm : AE) (pa : List AE) (fs : List (AE × Int)) (st : Fv) : Fv := (st.1, (Pt.mk k [] nm pa fs [] [], false) :: st.2)
theorem WH {n0 n gp : Nat} {H0 H : A3} (h : PS n0 H0 gp st n H) (hb : QT 100000 st) (hpa : ∀ s ∈ pa, s.length ≤ 2000000) (hpl : pa.length ≤ 2000000) (hn : nm.length ≤ 2000000) (hf : fs.length ≤ 2000000) :
  ACalls Tryz.prog 72 [.ptr gp 0, .agg [aI k, .str [], .str nm, CG pa, Aq fs, .sl 0 [] .nil, .sl 0 [] .nil]] n H (fun r n' H' => r = .bool (decide (Gu k nm pa fs = 0)) ∧ PS n0 H0 gp (if Gu k nm pa fs = 0 then A0v k nm pa fs st else st) n' H' ∧ n ≤ n') := by
 have hnm := GK (args := [.agg [aI k, .str [], .str nm, CG pa, Aq fs, .sl 0 [] .nil, .sl 0 [] .nil]]) (J3 k [] nm pa fs [] [] hpa hpl hn hf) (A2 (Cp (A2 (A1 _) (A2 (A1 _) (A2 (A1 _) (A2 (A1 _) (A2 (A1 _) (A2 (Aa 7) (A2 (Aa 7) rfl)))))))) rfl)
 have hsup := h.own.2.2.2.1
 by_cases h0 : Gu k nm pa fs = 0
 ·rw [decide_eq_true h0, if_pos h0]
  rw [h0] at hnm
  obtain ⟨gl, gs, ops, hO, he, hgs⟩ := h
  obtain ⟨ps, kk⟩ := st
  have hP := hO.fst.1
  have hlt := hO.fst.2.2
  have hol : ops.length ≤ 100000 := by have := hb.2.1; rw [← he, List.length_map] at this; exact this
  simp only at hP hO he
  have hfin : ∀ (en : AH) (g15 g' n' : Nat) (H' : A3), get en 4 = .bool true → n ≤ g15 → g15 < n' → (∀ q, n' ≤ q → H' q = none) → (g' < n ∧ gs = some g' ∨ g15 + 1 ≤ g') → H' gp = some (.cells 74 [Dc gl ps, .slg 1 g' (ops.length + 1)]) → H' g15 = some (.cells 126 [aI k, .str [], .str nm, CG pa, Aq fs, .sl 0 [] .nil, .sl 0 [] .nil, .bool false]) → H' g' = some (.grow 127 (Pk (ops.map Op.g) ++ [.ptr g15 0])) → (∀ q, q < n → q ≠ gp → gs ≠ some q → H' q = H q) → fin (fun r n' H' => r = .bool true ∧ PS n0 H0 gp (A0v k nm pa fs (ps, kk)) n' H' ∧ n ≤ n') n [.tmp 4] .ret ⟨en, n', H'⟩ := by
   intro en g15 g' n' H' e4 q1 q2 q3 q4 q5 q6 q7 q8
   refine Bi (r := .bool true) (by simp [BS, Cw, G7, e4]) (by omega) q3 ⟨rfl, ⟨gl, some g', ⟨Pt.mk k [] nm pa fs [] [], false, g15, 0, 0⟩ :: ops, ?_, by rw [← he]; rfl, fun h => by cases h⟩, by omega⟩
   have hO1 := hO.perm (pm3 _ _ _ _)
   have hne : gp ≠ g' := by
    rcases q4 with ⟨_, q4⟩ | q4
    ·intro e
     have := hO1.nd
     rw [q4] at this
     simp [Tl, e] at this
    ·omega
   have hO2 := hO1.re (n' := n') (H' := H') (ys := (gp, .cells 74 [Dc gl ps, .slg 1 g' (ops.length + 1)]) :: (g15, .cells 126 [aI k, .str [], .str nm, CG pa, Aq fs, .sl 0 [] .nil, .sl 0 [] .nil, .bool false]) :: [(g', .grow 127 (Pk (ops.map Op.g) ++ [.ptr g15 0]))]) (by omega) q3 (fun q hq hm => ?_) (fun y hy => ?_) ?_
   ·have := hO2.perm (pm4 _ _ (JZ gl ps) [_] (ops.flatMap XM)).symm
    rw [← Pg] at this
    exact this
   ·simp only [List.map_cons, List.mem_cons, not_or] at hm
    refine q8 q hq hm.1 fun e => hm.2 ?_
    rw [e]; simp [Tl]
   ·simp only [List.mem_cons, List.not_mem_nil, or_false] at hy
    rcases hy with rfl | rfl | rfl
    ·exact ⟨q5, .inl (by simp)⟩
    ·exact ⟨q6, .inr q1⟩
    ·refine ⟨q7, ?_⟩
     rcases q4 with ⟨_, q4⟩ | q4
     ·left; rw [q4]; simp [Tl]
     ·right; simp only; omega
   ·have : gp ≠ g15 := by omega
    have : g15 ≠ g' := by omega
    simp [*]
  have hsl := S6 (ops.map Op.g)
  rw [List.length_map] at hsl
  cases gs with
  | none =>
   have h00 : ops = [] := hgs rfl
   subst h00
   generalize Dc gl ps = vp at *
   refine AK Tryz.func72 Xx rfl fun hs => ?_
   repeat' (first | simp -implicitDefEqProofs [Mc, c72, -getElem?_pos, hP, QP, splice, F3] | simp (disch := omega) only [AA] | (refine RJ (.inl rfl) (A0 _) (by simp) (by simp) (by simp [maxLen]) (fun g' hg' => ?_)) | ((with_reducible refine A8 68 ?_); (refine' CallP.sf ?_ (hnm) ?_); (focus first | (with_reducible exact A0 _) | (simp [A5, A4, A1, A0]; done))) | (with_reducible first | exact AI | refine AZ ?_ | intro _g _hg | refine A9 ?_ ?_ | intro _hc) | omega)
   rename_i g3 hg3 g15 hg15
   exact hfin _ g15 g' (g' + 1) _ rfl (by omega) (by omega) (fun q hq => by simp (disch := omega) only [upd_ne]; exact hsup q (by omega)) (.inr (by omega)) (AN _ _ _) (by simp (disch := omega) only [upd_ne, AN]) (by simp (disch := omega) only [upd_ne, AN]; rfl) (fun q q1 q2 q3 => by simp (disch := omega) only [upd_ne])
  | some gk =>
   have hK : H gk = some (.grow 127 (Pk (ops.map Op.g))) ∧ n0 ≤ gk ∧ gk < n := hO.at_ (by simp [QO, Tl])
   obtain ⟨hK1, hK2, hK3⟩ := hK
   have hne : gp ≠ gk := by
    rintro rfl
    rw [hP] at hK1; cases hK1
   generalize Dc gl ps = vp at *
   generalize Pk (ops.map Op.g) = cs at *
   refine AK Tryz.func72 Xx rfl fun hs => ?_
   repeat' (first | simp -implicitDefEqProofs [Mc, c72, -getElem?_pos, hP, QP, splice, hne, Ne.symm hne, F3] | simp (disch := omega) only [AA] | (with_reducible refine VD [gk] ?_) | (refine Mb (.inl rfl) (A0 _) (by simp (disch := omega) only [upd_ne]; exact hK1) (by rw [hsl]; omega) (by simp; omega) (by simp [maxLen]; omega) (fun g' n' hg' h1 h2 => ?_)) | ((with_reducible refine A8 68 ?_); (refine' CallP.sf ?_ (hnm) ?_); (focus first | (with_reducible exact A0 _) | (simp [A5, A4, A1, A0]; done))) | (with_reducible first | exact AI | refine AZ ?_ | intro _g _hg | refine A9 ?_ ?_ | intro _hc) | omega)
   rename_i g3 hg3 g15 hg15
   refine hfin _ g15 g' n' _ rfl (by omega) (by omega) (fun q hq => by simp (disch := omega) only [upd_ne]; exact hsup q (by omega)) (by rcases hg' with h | h; exact .inl ⟨by omega, by rw [h]⟩; exact .inr (by omega)) (AN _ _ _) (by simp (disch := omega) only [upd_ne, AN]) ?_ (fun q q1 q2 q3 => ?_)
   ·have : g' ≠ gp := by omega
    simp (disch := omega) only [upd_ne, AN]
   ·have q4 : q ≠ gk := fun e => q3 (by rw [e])
    have : q ≠ g' := by omega
    simp (disch := omega) only [upd_ne]
 ·rw [decide_eq_false h0, if_neg h0]
  generalize Gu k nm pa fs = c at *
  refine AK Tryz.func72 Xx rfl fun hs => ?_
  repeat' (first | simp -implicitDefEqProofs [Mc, c72, -getElem?_pos, splice, h0] | simp (disch := omega) only [AA] | ((with_reducible refine A8 68 ?_); (refine' CallP.sf ?_ (hnm) ?_); (focus first | (with_reducible exact A0 _) | (simp [A5, A4, A1, A0]; done))) | (with_reducible first | exact AI | refine AZ ?_ | intro _g _hg | refine A9 ?_ ?_ | intro _hc) | omega)
  all_goals exact Bi rfl (by omega) (fun q hq => by simp (disch := omega) only [upd_ne]; exact hsup q (by omega)) ⟨rfl, h.new (by assumption) _, by omega⟩
def Flr (x : AV) (l : List (AE × Int)) (n0 n : Nat) (H : A3) : Prop := (l = [] ∧ x = .sl 0 [] .nil) ∨ ∃ g, n0 ≤ g ∧ g < n ∧ x = .sl 2 (l.map WG) (.own g) ∧ H g = some (.row 52 l.length)
theorem Flr.one {l : List (AE × Int)} {n0 n : Nat} {H : A3} (h : Flr x l n0 n H) : x.one = true ∧ x.fits none = true ∧ x.cells = [x] ∧ A4 x (Aq l) := by
 rcases h with ⟨rfl, rfl⟩ | ⟨g, _, _, rfl, _⟩
 ·exact ⟨rfl, rfl, rfl, Aa 2⟩
 ·exact ⟨rfl, rfl, rfl, _, _, _, rfl, .inl rfl, .inl rfl, A0 _⟩
theorem Flr.fit {l : List (AE × Int)} {n0 n : Nat} {H : A3} (h : Flr x l n0 n H) : BQ none x = True := by
 obtain ⟨h1, h2, h3, _⟩ := h.one
 exact eq_true ⟨h2, by rw [h3]; intro y hy; rw [List.mem_singleton.1 hy]; exact h1⟩
theorem Flr.app {l : List (AE × Int)} {f : AE × Int} {n0 n g6 : Nat} {H : A3} {d : Option Nat} {K : AS → Prop} {e : AH} {t : Tok} (h : Flr x l n0 n H) (h6 : ∃ T cs, H g6 = some (.cells T cs)) (h6n : g6 < n) (hn : n0 ≤ n) (hl : l.length ≤ 1000000) (hk : ∀ g' n' H', n ≤ n' → n0 ≤ g' ∧ g' < n' ∧ H' g' = some (.row 52 (l ++ [f]).length) → H' g6 = H g6 → (∀ q, q < n0 → H' q = H q) → ((∀ q, n ≤ q → H q = none) → ∀ q, n' ≤ q → H' q = none) → K ⟨AD e d (.sl 2 ((l ++ [f]).map WG) (.own g')), n', H'⟩) : appKS 52 2 24 d K ⟨e, n, H⟩ x (.sl 2 [WG f] t) := by
 refine ⟨.inl rfl, [WG f], A0 _, ?_⟩
 rcases h with ⟨rfl, rfl⟩ | ⟨g, h1, h2, rfl, h3⟩
 ·refine ⟨by simp, by simp [maxLen], ?_⟩
  refine And.intro (fun e => by cases e) (fun _ => Or.inl fun g hg => ?_)
  simp only at hg
  exact hk _ _ _ (by omega) ⟨by omega, by omega, AN _ _ _⟩ (upd_ne (by omega)) (fun q hq => upd_ne (by omega)) (fun hs q hq => by rw [upd_ne (by omega)]; exact hs q (by omega))
 ·have hg6 : g ≠ g6 := by rintro rfl; obtain ⟨_, _, h6⟩ := h6; rw [h6] at h3; cases h3
  refine ⟨by simp; omega, by simp [maxLen]; omega, rfl, by simpa using h3, fun g' n' q1 q2 q3 => ?_⟩
  have e1 : List.map WG l ++ [WG f] = List.map WG (l ++ [f]) := by simp
  rw [e1]
  simp only at q1 q2
  refine hk _ _ _ q2 ⟨by omega, q3, by rw [AN]; simp⟩ ?_ (fun q hq => ?_) (fun hs q hq => ?_)
  ·rw [upd_ne (by omega), upd_ne (fun e => hg6 e.symm)]
  ·rw [upd_ne (by omega), upd_ne (by omega)]
  ·rw [upd_ne (by omega), upd_ne (by omega)]; exact hs q (by omega)
theorem Flr.keep {l : List (AE × Int)} {n0 n n' : Nat} {H H' : A3} (h : Flr x l n0 n H) (hle : n ≤ n') (hk : ∀ q, q < n → H' q = H q) : Flr x l n0 n' H' := by
 rcases h with h | ⟨g, h1, h2, h3, h4⟩
 ·exact .inl h
 ·exact .inr ⟨g, h1, by omega, h3, by rw [hk g h2]; exact h4⟩
def YG (d : Dir) (st : Fv) : Fv := match d with | .fld x => Ee x st | _ => st
def A1b : Dir → Bool | .fld _ => true | _ => false
theorem WY {t : List AE} {j : Nat} (h : t[j]? = some s) : Hw (t.drop j) = match fltO s with | none => none | some f => (Hw (t.drop (j + 1))).map (f :: ·) := by
 rw [drop_at h, Hw]
 cases fltO s <;> rfl
theorem XA : Ll s 9 = ((Bg s).2 && decide (0 ≤ (Bg s).1)) := by
 have h := St (s := s) (m := 9) (.inr rfl)
 have e : Ll s 9 = Ll s ((9 : Nat) : Int) := rfl
 rw [e, h]
 cases h2 : (Bg s).2 with
 | false => simp
 | true =>
  have := (Pu h2).2.2
  have : decide ((Bg s).1 < 10 ^ 9) = true := decide_eq_true (by omega)
  rw [this]; simp
theorem Yk : APure Tryz.prog 115 [.str []] (.tup [aI 0, .ifc 207 .any]) := by
 refine Th (fun v h => ?_) (fun h => ?_) (by simp)
 ·have h2 : (match Lib.atoiAll ([] : AE) with | .ok _ => true | _ => false) = false := by kernel_rfl
  rw [h] at h2; cases h2
 ·have h2 : (match Lib.atoiAll ([] : AE) with | .range => true | _ => false) = false := by kernel_rfl
  rw [h] at h2; cases h2
theorem YW (h : (Bg s).2 = true) : Lib.atoiAll s = .ok (Bg s).1 := by
 unfold Bg at h ⊢
 split at h
 ·rename_i v hv; rw [hv]
 ·cases h
 ·cases h
theorem Bn (c : UInt8) : ∀ s : AE, ∀ x ∈ Ct c s, x.length ≤ s.length
 | [], x, h => by simp [Ct] at h; subst h; simp
 | y :: r, x, h => by
  have ih := Bn c r
  unfold Ct at h
  split at h
  ·rcases List.mem_cons.1 h with rfl | h
   ·simp
   ·have := ih x h; simp; omega
  ·split at h
   ·simp at h; subst h; simp
   ·rename_i a b e
    rw [e] at ih
    rcases List.mem_cons.1 h with rfl | h
    ·have := ih a (by simp); simp; omega
    ·have := ih x (by simp [h]); simp; omega
theorem A05 {n0 n gp : Nat} {H0 H : A3} (h : PS n0 H0 gp st n H) (hb : QT 100000 st) (hs : s.length ≤ 100000) :
  ACalls Tryz.prog 74 [.ptr gp 0, .str s] n H (fun r n' H' => r = .bool (A1b (Bj s)) ∧ PS n0 H0 gp (YG (Bj s) st) n' H' ∧ n ≤ n') := by
 have hsup := h.own.2.2.2.1
 have hgp := h.own
 have hsp := I1 s 124 (by omega)
 have hsl := EY 124 s
 obtain ⟨hd, tl, hspl⟩ := List.exists_cons_of_ne_nil (Fu 124 s)
 have hmem := Bn 124 s
 rw [hspl] at hmem
 have hdl : hd.length ≤ 100000 := by have := hmem hd (by simp); omega
 have htl : ∀ x ∈ tl, x.length ≤ 100000 := fun x hx => by have := hmem x (by simp [hx]); omega
 rw [hspl] at hsp hsl
 have hD : Bj s = if B5 (Ct 46 hd) = true then (match Hw tl with | some fs => .fld (.mk 2 [] [] (Ct 46 hd) fs [] []) | none => .bad) else .bad := by unfold Bj; rw [hspl]; dsimp only; cases Hw tl <;> rfl
 have hsp2 := I1 hd 46 (by omega)
 have hpl := EY 46 hd
 have hpm : ∀ x ∈ Ct 46 hd, x.length ≤ 2000000 := fun x hx => by have := Bn 46 hd x hx; omega
 have hpa := YL (Ct 46 hd) hpm (by omega)
 simp only [List.length_cons] at hsl
 have htk : List.take tl.length (tl.map AV.str) = tl.map AV.str := List.take_of_length_le (by simp)
 generalize Ct 46 hd = pa at *
 by_cases hp : B5 pa = true
 ·rw [if_pos hp] at hD
  rw [hp] at hpa
  refine AK Tryz.func74 A1l rfl fun hs => ?_
  repeat' (first | simp -implicitDefEqProofs [ZQ, Dw, -getElem?_pos, splice, A4] | simp (disch := omega) only [AA] | ((with_reducible refine A8 73 ?_); (refine' CallP.sf ?_ (hsp) ?_); (focus first | (with_reducible exact A0 _) | (simp [A5, A4, A1, A0]; done))) | ((with_reducible refine A8 73 ?_); (refine' CallP.sf ?_ (hsp2) ?_); (focus first | (with_reducible exact A0 _) | (simp [A5, A4, A1, A0]; done))) | ((with_reducible refine A8 108 ?_); (refine' CallP.sf ?_ (hpa) ?_); (focus first | (with_reducible exact A0 _) | (simp [A5, A4, A1, A0]; done))) | (with_reducible first | exact AI | refine AZ ?_ | intro _g _hg | refine A9 ?_ ?_ | intro _hc) | omega)
  generalize _hgg : _g = g6 at *
  have hbad : Hw tl = none → ∀ (en : AH) (n' : Nat) (H' : A3), get en 4 = .bool false → n ≤ n' → SameB n H H' → (∀ q, n' ≤ q → H' q = none) → fin (fun r n' H' => r = AV.bool (A1b (Bj s)) ∧ PS n0 H0 gp (YG (Bj s) st) n' H' ∧ n ≤ n') n [.tmp 4] .ret ⟨en, n', H'⟩ := by
   intro hf en n' H' e4 q1 q2 q3
   rw [hD, hf]
   exact Bi (r := .bool false) (by simp [BS, Cw, G7, e4]) q1 q3 ⟨rfl, h.keep q1 q3 q2, q1⟩
  refine LoopK.go (fun m st' => ∃ (j n2 : Nat) (H2 : A3) (fsd : List (AE × Int)) (vf : AV), j + m = tl.length ∧ st' = ⟨[(0, .ptr gp 0), (6, .ptr g6 0), (28, CG tl), (29, aI tl.length), (30, aI j)], n2, H2⟩ ∧ g6 < n2 ∧ SameB n H H2 ∧ (∀ q, n2 ≤ q → H2 q = none) ∧ H2 g6 = some (.cells 55 [aI 2, .str [], .str [], CG pa, vf, .sl 0 [] .nil, .sl 0 [] .nil]) ∧ Flr vf fsd n n2 H2 ∧ Hw tl = (Hw (tl.drop j)).map (fsd ++ ·) ∧ fsd.length = j) tl.length ⟨0, _, _, [], .sl 0 [] .nil, by omega, by rw [htk]; rfl, by omega, fun q hq => by simp (disch := omega) only [upd_ne], fun q hq => by simp (disch := omega) only [upd_ne]; exact hsup q (by omega), AN _ _ _, .inl ⟨rfl, rfl⟩, by simp, rfl⟩ ?_
  rintro m st' ⟨j, n2, H2, fsd, vf, hjm, rfl, hgn, hS, hs2, h6, hF, hE, hfl⟩ J hJ
  have _hq := h6
  by_cases hj : j < tl.length
  ·obtain ⟨x, hx⟩ : ∃ x, tl[j]? = some x := ⟨_, List.getElem?_eq_getElem hj⟩
   have hx2 : (tl.map AV.str)[j]? = some (.str x) := by rw [List.getElem?_map, hx]; rfl
   have hj' : (j : Int) < tl.length := by omega
   rw [WY hx] at hE
   have hxl := htl x (List.mem_of_getElem? hx)
   have hcut := TQ x 32 (by omega)
   have hO := fltO.eq_1 x
   have hbr := I0 32 x
   have hfk := HO (Cv 32 x).1
   have hm := Pw (Cv 32 x).1
   have hdec := fun h => R8 (Cv 32 x).2.1 9 h
   have hwl : (Cv 32 x).2.1.length ≤ 100000 := by
    rcases hbr with ⟨a, b, e1, _, e2⟩ | ⟨_, e2⟩
    ·rw [e2]; rw [e1] at hxl; simp at hxl; simp only; omega
    ·rw [e2]; simp
   have hxe : (Cv 32 x).2.2 = false → (Cv 32 x).1 = x ∧ (Cv 32 x).2.1 = [] := by
    rcases hbr with ⟨a, b, e1, _, e2⟩ | ⟨_, e2⟩
    ·rw [e2]; intro h; cases h
    ·rw [e2]; intro _; exact ⟨rfl, rfl⟩
   clear hbr
   generalize Cv 32 x = br at *
   obtain ⟨a, w, more⟩ := br
   simp only at hO hfk hm hdec hwl hxe hcut
   rcases hfk with hk | hk | hk
   ·rw [hk] at hO hm
    simp only [show ¬ ((0 : Nat) = 1) by decide, show ¬ ((0 : Nat) = 2) by decide, false_and, if_false, if_true, ite_self] at hO hm
    have hO2 : fltO x = none := by
     rw [hO]
     cases more with
     | true => rfl
     | false => rw [← (hxe rfl).1, hk]; rfl
    rw [hO2] at hE
    clear hO
    repeat' (first | simp -implicitDefEqProofs [Ev, F2, F5, Eg, Ej, Dw, ZQ, -getElem?_pos, splice, hj', hx2, hm] | simp (disch := omega) only [AA] | ((with_reducible refine Al 64 ?_); refine ⟨_, En _ _, ?_⟩; rintro r n' H' hn' hs' ⟨gm, hgm, rfl, rfl, rfl⟩; (replace hgm : n2 ≤ gm := hgm)) | ((with_reducible refine A8 41 ?_); (refine' CallP.sf ?_ (hcut) ?_); (focus first | (with_reducible exact A0 _) | (simp [A5, A4, A1, A0]; done))) | (with_reducible first | exact AI | refine AZ ?_ | intro _g _hg | refine A9 ?_ ?_ | intro _hc) | omega)
    all_goals (refine hbad (by rw [hE]; rfl) _ _ _ rfl (by omega) (fun q hq => by simp (disch := omega) only [upd_ne]; exact hS q hq) (fun q hq => by simp (disch := omega) only [upd_ne]; exact hs2 q (by omega)))
   ·rw [hk] at hO hm
    simp only [show ¬ ((1 : Nat) = 0) by decide, show ¬ ((1 : Nat) = 2) by decide, false_and, if_false, if_true, decide_false] at hO hm
    cases more with
    | true =>
     simp only [if_true] at hO
     rw [hO] at hE
     repeat' (first | simp -implicitDefEqProofs [Ev, F2, F5, Eg, Ej, Dw, ZQ, -getElem?_pos, splice, hj', hx2, hm] | simp (disch := omega) only [AA] | ((with_reducible refine Al 64 ?_); refine ⟨_, En _ _, ?_⟩; rintro r n' H' hn' hs' ⟨gm, hgm, rfl, rfl, rfl⟩; (replace hgm : n2 ≤ gm := hgm)) | ((with_reducible refine A8 41 ?_); (refine' CallP.sf ?_ (hcut) ?_); (focus first | (with_reducible exact A0 _) | (simp [A5, A4, A1, A0]; done))) | (with_reducible first | exact AI | refine AZ ?_ | intro _g _hg | refine A9 ?_ ?_ | intro _hc) | omega)
     all_goals (refine hbad (by rw [hE]; rfl) _ _ _ rfl (by omega) (fun q hq => by simp (disch := omega) only [upd_ne]; exact hS q hq) (fun q hq => by simp (disch := omega) only [upd_ne]; exact hs2 q (by omega)))
    | false =>
     obtain ⟨hx3, hw⟩ := hxe rfl
     subst hw
     rw [← hx3, hk] at hO
     simp only [if_true, Bool.false_eq_true, if_false] at hO
     rw [← hx3] at hE
     rw [hO] at hE
     have hat := Yk
     repeat' (first | simp -implicitDefEqProofs [Ev, F2, F5, Eg, Ej, Dw, ZQ, -getElem?_pos, splice, hj', hx2, hm, _hq] | simp (disch := omega) only [AA] | ((with_reducible refine Al 64 ?_); refine ⟨_, En _ _, ?_⟩; rintro r n' H' hn' hs' ⟨gm, hgm, rfl, rfl, rfl⟩; (replace hgm : n2 ≤ gm := hgm)) | ((refine Flr.app (g6 := g6) (f := (a, 0)) (hF.keep (by omega) (fun q hq => by simp (disch := omega) only [upd_ne])) ⟨_, _, (by simp (disch := omega) only [upd_ne]; exact h6)⟩ (by omega) (by omega) (by omega) ?_); intro g' n' H' hle hF2 h62 hS2 hsu2; (have h63 : H' g6 = some (.cells 55 [aI 2, .str [], .str [], CG pa, vf, .sl 0 [] .nil, .sl 0 [] .nil]) := h62.trans (by simp (disch := omega) only [upd_ne]; exact h6)); (have _hq := h63)) | ((with_reducible refine A8 41 ?_); (refine' CallP.sf ?_ (hcut) ?_); (focus first | (with_reducible exact A0 _) | (simp [A5, A4, A1, A0]; done))) | ((with_reducible refine A8 115 ?_); (refine' CallP.sf ?_ (hat) ?_); (focus first | (with_reducible exact A0 _) | (simp [A5, A4, A1, A0]; done))) | (with_reducible first | exact AI | refine AZ ?_ | intro _g _hg | refine A9 ?_ ?_ | intro _hc) | omega)
     all_goals
      have hg6 : g' ≠ g6 := by
       rintro rfl
       rw [hF2.2.2] at h63; cases h63
      refine hJ (m - 1) _ (by omega) ⟨j + 1, n', _, fsd ++ [(a, (0 : Int))], .sl 2 ((fsd ++ [(a, (0 : Int))]).map WG) (.own g'), by omega, rfl, by omega, fun q hq => ?_, fun q hq => ?_, ?_, .inr ⟨g', by omega, hF2.2.1, rfl, ?_⟩, ?_, by simp [hfl]⟩
      ·rw [upd_ne (by omega), hS2 q hq]
       simp (disch := omega) only [upd_ne]
       exact hS q hq
      ·rw [upd_ne (by omega)]
       exact hsu2 (fun q hq => by simp (disch := omega) only [upd_ne]; exact hs2 q (by omega)) q hq
      ·simp [AN]
      ·rw [upd_ne hg6]; exact hF2.2.2
      ·rw [hE]
       cases Hw (tl.drop (j + 1)) <;> simp
   ·rw [hk] at hO hm
    simp only [show ¬ ((2 : Nat) = 0) by decide, if_false, decide_true, true_and] at hO hm
    cases more with
    | false =>
     obtain ⟨hx3, hw⟩ := hxe rfl
     rw [← hx3, hk] at hO
     simp only [Bool.false_eq_true, if_false, show ¬ ((2 : Nat) = 1) by decide] at hO
     rw [← hx3] at hE
     rw [hO] at hE
     repeat' (first | simp -implicitDefEqProofs [Ev, F2, F5, Eg, Ej, Dw, ZQ, -getElem?_pos, splice, hj', hx2, hm] | simp (disch := omega) only [AA] | ((with_reducible refine Al 64 ?_); refine ⟨_, En _ _, ?_⟩; rintro r n' H' hn' hs' ⟨gm, hgm, rfl, rfl, rfl⟩; (replace hgm : n2 ≤ gm := hgm)) | ((with_reducible refine A8 41 ?_); (refine' CallP.sf ?_ (hcut) ?_); (focus first | (with_reducible exact A0 _) | (simp [A5, A4, A1, A0]; done))) | (with_reducible first | exact AI | refine AZ ?_ | intro _g _hg | refine A9 ?_ ?_ | intro _hc) | omega)
     all_goals (refine hbad (by rw [hE]; rfl) _ _ _ rfl (by omega) (fun q hq => by simp (disch := omega) only [upd_ne]; exact hS q hq) (fun q hq => by simp (disch := omega) only [upd_ne]; exact hs2 q (by omega)))
    | true =>
     simp only [if_true] at hO
     have hdec2 := hdec (by omega)
     rw [XA] at hdec2
     by_cases hnm : (Bg w).2 = true ∧ 0 ≤ (Bg w).1
     ·rw [if_pos hnm] at hO
      rw [hO] at hE
      rw [hnm.1, decide_eq_true hnm.2] at hdec2
      have hat := Rr (YW hnm.1) (by omega)
      generalize (Bg w).1 = v at *
      repeat' (first | simp -implicitDefEqProofs [Ev, F2, F5, Eg, Ej, Dw, ZQ, -getElem?_pos, splice, hj', hx2, hm, _hq] | simp (disch := omega) only [AA] | ((with_reducible refine Al 64 ?_); refine ⟨_, En _ _, ?_⟩; rintro r n' H' hn' hs' ⟨gm, hgm, rfl, rfl, rfl⟩; (replace hgm : n2 ≤ gm := hgm)) | ((refine Flr.app (g6 := g6) (f := (a, v)) (hF.keep (by omega) (fun q hq => by simp (disch := omega) only [upd_ne])) ⟨_, _, (by simp (disch := omega) only [upd_ne]; exact h6)⟩ (by omega) (by omega) (by omega) ?_); intro g' n' H' hle hF2 h62 hS2 hsu2; (have h63 : H' g6 = some (.cells 55 [aI 2, .str [], .str [], CG pa, vf, .sl 0 [] .nil, .sl 0 [] .nil]) := h62.trans (by simp (disch := omega) only [upd_ne]; exact h6)); (have _hq := h63)) | ((with_reducible refine A8 41 ?_); (refine' CallP.sf ?_ (hcut) ?_); (focus first | (with_reducible exact A0 _) | (simp [A5, A4, A1, A0]; done))) | ((with_reducible refine A8 114 ?_); (refine' CallP.sf ?_ (hdec2) ?_); (focus first | (with_reducible exact A0 _) | (simp [A5, A4, A1, A0]; done))) | ((with_reducible refine A8 115 ?_); (refine' CallP.sf ?_ (hat) ?_); (focus first | (with_reducible exact A0 _) | (simp [A5, A4, A1, A0]; done))) | (with_reducible first | exact AI | refine AZ ?_ | intro _g _hg | refine A9 ?_ ?_ | intro _hc) | omega)
      all_goals
       have hg6 : g' ≠ g6 := by
        rintro rfl
        rw [hF2.2.2] at h63; cases h63
       refine hJ (m - 1) _ (by omega) ⟨j + 1, n', _, fsd ++ [(a, v)], .sl 2 ((fsd ++ [(a, v)]).map WG) (.own g'), by omega, rfl, by omega, fun q hq => ?_, fun q hq => ?_, ?_, .inr ⟨g', by omega, hF2.2.1, rfl, ?_⟩, ?_, by simp [hfl]⟩
       ·rw [upd_ne (by omega), hS2 q hq]
        simp (disch := omega) only [upd_ne]
        exact hS q hq
       ·rw [upd_ne (by omega)]
        exact hsu2 (fun q hq => by simp (disch := omega) only [upd_ne]; exact hs2 q (by omega)) q hq
       ·simp [AN]
       ·rw [upd_ne hg6]; exact hF2.2.2
       ·rw [hE]
        cases Hw (tl.drop (j + 1)) <;> simp
     ·rw [if_neg hnm] at hO
      rw [hO] at hE
      have hb0 : ((Bg w).2 && decide (0 ≤ (Bg w).1)) = false := by
       rw [← Bool.not_eq_true]; simpa using hnm
      rw [hb0] at hdec2
      repeat' (first | simp -implicitDefEqProofs [Ev, F2, F5, Eg, Ej, Dw, ZQ, -getElem?_pos, splice, hj', hx2, hm] | simp (disch := omega) only [AA] | ((with_reducible refine Al 64 ?_); refine ⟨_, En _ _, ?_⟩; rintro r n' H' hn' hs' ⟨gm, hgm, rfl, rfl, rfl⟩; (replace hgm : n2 ≤ gm := hgm)) | ((with_reducible refine A8 41 ?_); (refine' CallP.sf ?_ (hcut) ?_); (focus first | (with_reducible exact A0 _) | (simp [A5, A4, A1, A0]; done))) | ((with_reducible refine A8 114 ?_); (refine' CallP.sf ?_ (hdec2) ?_); (focus first | (with_reducible exact A0 _) | (simp [A5, A4, A1, A0]; done))) | (with_reducible first | exact AI | refine AZ ?_ | intro _g _hg | refine A9 ?_ ?_ | intro _hc) | omega)
      all_goals (refine hbad (by rw [hE]; rfl) _ _ _ rfl (by omega) (fun q hq => by simp (disch := omega) only [upd_ne]; exact hS q hq) (fun q hq => by simp (disch := omega) only [upd_ne]; exact hs2 q (by omega)))
  ·have hj0 : j = tl.length := by omega
   subst hj0
   have hj' : ¬ (tl.length : Int) < tl.length := by omega
   rw [List.drop_length] at hE
   simp only [Hw, Option.map_some, List.append_nil] at hE
   rw [hE] at hD
   rw [hD]
   clear hbad hJ
   have hP2 := h.keep (by omega) hs2 hS
   have hc := YD (k := 2) (t := []) (nm := []) (pa := pa) (fs := fsd) (b := []) (e' := []) hP2 hb (by simp) (fun h => by cases h)
   have e1 : YG (Dir.fld (Pt.mk 2 [] [] pa fsd [] [])) st = Ee (Pt.mk 2 [] [] pa fsd [] []) st := rfl
   rw [e1]
   generalize Ee (Pt.mk 2 [] [] pa fsd [] []) st = st2 at *
   have hsim := hF.one.2.2.2
   repeat' (first | simp -implicitDefEqProofs [Ev, F2, F5, Eg, Ej, Dw, ZQ, -getElem?_pos, hj', h6, splice] | simp (disch := omega) only [AA] | ((with_reducible refine Al 70 ?_); refine ⟨_, ACalls.sim hc (A2 (A1 _) (A2 (Cp (A2 (A1 _) (A2 (A1 _) (A2 (A1 _) (A2 (A1 _) (A2 hsim (A2 (Aa 7) (A2 (Aa 7) rfl)))))))) rfl)), ?_⟩; rintro r n' H' hn hs ⟨rfl, hP, hle⟩) | (with_reducible first | exact AI | refine AZ ?_ | intro _g _hg | refine A9 ?_ ?_ | intro _hc) | omega)
   all_goals exact Bi rfl (by omega) hs ⟨rfl, hP, by omega⟩
 ·have hp' : B5 pa = false := by simpa using hp
  rw [if_neg hp] at hD
  rw [hD]
  rw [hp'] at hpa
  refine AK Tryz.func74 A1l rfl fun hs => ?_
  repeat' (first | simp -implicitDefEqProofs [ZQ, Dw, -getElem?_pos, splice, A4] | simp (disch := omega) only [AA] | ((with_reducible refine A8 73 ?_); (refine' CallP.sf ?_ (hsp) ?_); (focus first | (with_reducible exact A0 _) | (simp [A5, A4, A1, A0]; done))) | ((with_reducible refine A8 73 ?_); (refine' CallP.sf ?_ (hsp2) ?_); (focus first | (with_reducible exact A0 _) | (simp [A5, A4, A1, A0]; done))) | ((with_reducible refine A8 108 ?_); (refine' CallP.sf ?_ (hpa) ?_); (focus first | (with_reducible exact A0 _) | (simp [A5, A4, A1, A0]; done))) | (with_reducible first | exact AI | refine AZ ?_ | intro _g _hg | refine A9 ?_ ?_ | intro _hc) | omega)
  all_goals exact Bi rfl (by omega) (fun q hq => by simp (disch := omega) only [upd_ne]; exact hsup q (by omega)) ⟨rfl, h.keep (by omega) (fun q hq => by simp (disch := omega) only [upd_ne]; exact hsup q (by omega)) (fun q hq => by simp (disch := omega) only [upd_ne]), by omega⟩
theorem ACalls.frzIn {n : Nat} {H : A3} {g e sz : Nat} {l : List AV} (hg : H g = some (.grow e (AG l))) (hz : BJ P e = sz) (h0 : 0 < sz) (hu : ∀ x ∈ l, x.cells.length = sz) (h : ACalls P f (Gv g sz l args) n (upd H g none) R) : ACalls P f args n H R := by
 intro hs w0 G w vs hl hr hv
 obtain ⟨us, c, hc, hLe, hrel, hrl, hsl, hcm, hcs, h1⟩ := hr.still hg
 have hlen : l.length ≤ c := by
  have e1 : (AG l).length = l.length * sz := by
   clear hg hrl hcs h1 h
   induction l with
   | nil => simp [AG]
   | cons x l ih =>
    have := ih fun y hy => hu y (List.mem_cons_of_mem _ hy)
    have h2 := hu x List.mem_cons_self
    simp only [AG, List.flatMap_cons, List.length_append] at this ⊢
    rw [this, h2, List.length_cons, Nat.succ_mul]; omega
  rw [e1, hz] at hcs
  exact Nat.le_of_mul_le_mul_right hcs h0
 have hv2 := RepL.frz hLe hc hrl hsl ⟨hlen, hcm, h0, hu, h1⟩ hv
 refine (h (fun k hk => ?_) w0 (G.still g us) w vs hl hrel hv2).mono ?_
 ·simp only [upd]; split
  ·rfl
  ·exact hs k hk
 ·rintro e' w' ⟨v, r, G', n', H', q1, q2, q3, q4, q5, q6⟩
  exact ⟨v, r, G', n', H', q1, q2, q3, hLe.tr q4, q5, q6⟩
theorem ACalls.shrIn {n : Nat} {H : A3} {g e : Nat} {a b : List AV} (hg : H g = some (.grow e (a ++ b))) (h : ACalls P f args n (upd H g (some (.grow e a))) R) : ACalls P f args n H R := by
 intro hs w0 G w vs hl hr hv
 have hgn := (hr.objs g _ hg).2.1
 have hlo := (hr.objs g _ hg).1
 refine h (fun k hk => by rw [upd_ne (by omega)]; exact hs k hk) w0 G w vs hl ⟨hr.ext, hr.lo, hr.hi, hr.seal_, hr.caps, hr.capLo, fun g' ob hob => ?_⟩ hv
 by_cases hgg : g' = g
 ·subst hgg
  rw [AN] at hob
  injection hob with hob
  subst hob
  obtain ⟨h1, vs', c, h2, h3, h4, h5, h6, h7, h8⟩ := (hr.objs g' _ hg).2.2
  refine ⟨hlo, hgn, h1, vs', c, h2, h3, h4, h5, by simp at h6; omega, ?_, fun x hx => h8 x (List.mem_append_left _ hx)⟩
  have := RepL.take h7 a.length
  rw [List.take_take, List.take_left' rfl] at this
  have e : min a.length (a ++ b).length = a.length := by simp
  rwa [e] at this
 ·rw [upd_ne hgg] at hob
  exact hr.objs g' ob hob
theorem Ih : ∀ (l : List Pt), ∀ x ∈ AB l, x.cells.length = 7
 | [], x, h => by simp [AB] at h
 | y :: r, x, h => by
  simp only [AB] at h
  rcases List.mem_cons.1 h with rfl | h
  ·obtain ⟨k, t, n, pa, fs, b, e⟩ := y
   rw [B7]; rfl
  ·exact Ih r x h
theorem A3u : BJ Tryz.prog 55 = 7 := by kernel_rfl
theorem Rh {g : Nat} {l : List Pt} (h : l ≠ []) : Dg g 7 (AB l) (Dc g l) = .sl 7 (AB l) .ro := by
 rw [Mr h]
 simp [Dg, B3]
theorem Zu {g g' : Nat} {l l' : List Pt} (h : g' ≠ g ∨ l' = []) : Dg g 7 (AB l) (Dc g' l') = Dc g' l' := by
 cases l' with
 | nil => rfl
 | cons x r =>
  rcases h with h | h
  ·simp only [Dc, Dg]; rw [if_neg (fun e => h e.2.1)]
  ·cases h
theorem Xc {n gp gb ge : Nat} {H : A3} {b e : List Pt} (hb : b ≠ [] → H gb = some (Db b)) (he : e ≠ [] → H ge = some (Db e)) (hne : b ≠ [] → e ≠ [] → gb ≠ ge)
  (h : ACalls Tryz.prog 70 [.ptr gp 0, agP k t nm pa fs b e] n (if e = [] then (if b = [] then H else upd H gb none) else upd (if b = [] then H else upd H gb none) ge none) R) : ACalls Tryz.prog 70 [.ptr gp 0, .agg [aI k, .str t, .str nm, CG pa, Aq fs, Dc gb b, Dc ge e]] n H R := by
 have he2 : ∀ {H2 : A3} {x : AV}, (e ≠ [] → H2 ge = some (Db e)) → (Dg ge 7 (AB e) x = x) → ACalls Tryz.prog 70 [.ptr gp 0, .agg [aI k, .str t, .str nm, CG pa, Aq fs, x, .sl 7 (AB e) .ro]] n (if e = [] then H2 else upd H2 ge none) R → ACalls Tryz.prog 70 [.ptr gp 0, .agg [aI k, .str t, .str nm, CG pa, Aq fs, x, Dc ge e]] n H2 R := by
  intro H2 x hH hx h
  by_cases h0 : e = []
  ·subst h0
   exact ACalls.sim h (A2 (A1 _) (A2 (Cp (A2 (A1 _) (A2 (A1 _) (A2 (A1 _) (A2 (A1 _) (A2 (A1 _) (A2 (A1 _) (A2 (Aa 7) rfl)))))))) rfl))
  ·rw [if_neg h0] at h
   refine ACalls.frzIn (hH h0) A3u (by omega) (Ih e) ?_
   simp only [Gv, Dg, hx, Rh h0]
   exact h
 by_cases h0 : b = []
 ·subst h0
  simp only [if_true] at h
  refine ACalls.sim (args' := [.ptr gp 0, .agg [aI k, .str t, .str nm, CG pa, Aq fs, .sl 7 [] .ro, Dc ge e]]) ?_ (A2 (A1 _) (A2 (Cp (A2 (A1 _) (A2 (A1 _) (A2 (A1 _) (A2 (A1 _) (A2 (A1 _) (A2 (Aa 7) (A2 (A1 _) rfl)))))))) rfl))
  exact he2 he rfl h
 ·rw [if_neg h0] at h
  refine ACalls.frzIn (hb h0) A3u (by omega) (Ih b) ?_
  have hx : Dg gb 7 (AB b) (Dc ge e) = Dc ge e := Zu (by
   by_cases h1 : e = []
   ·exact .inr h1
   ·exact .inl (fun e1 => hne h0 h1 e1.symm))
  simp only [Gv, Dg, hx, Rh h0]
  refine he2 (fun h1 => ?_) rfl h
  rw [upd_ne (fun e1 => hne h0 h1 e1.symm)]
  exact he h1
end Go.Proofs.YtnfjgphfaemjcaaGreatDoor
