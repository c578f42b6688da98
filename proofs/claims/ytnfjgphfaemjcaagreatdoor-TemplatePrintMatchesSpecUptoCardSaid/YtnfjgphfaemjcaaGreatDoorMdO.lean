/- Templates: the program's check of parts, one after the other; no condition. -/
import Derived.Test.YtnfjgphfaemjcaaGreatDoorMgH
import Derived.Test.YtnfjgphfaemjcaaGreatDoorMdN
import Derived.Test.YtnfjgphfaemjcaaGreatDoorMgI
import Derived.Test.YtnfjgphfaemjcaaGreatDoorAdE
set_option linter.all false
set_option linter.unusedSimpArgs false
set_option linter.unusedVariables false
set_option maxHeartbeats 8000000
namespace Go.Proofs.YtnfjgphfaemjcaaGreatDoor
theorem HI {α β : Type} {a : List α} {b : List β} (h : a.length = b.length) : BW a = BW b := by unfold BW; rw [h]
abbrev Ef (i : Nat) : AObj := .cells 64 [aI i]
def EU (R : Nat × Int) : AV := aF (if R.2 ≠ 0 then (R.2, (R.1 : Int)) else (0, 0))
def F6 (R : Nat × Int) : Nat := if R.2 ≠ 0 then R.1 + 1 else R.1
def Gk (l : List Pt) (el : List AV) : Prop := ∀ (i d gc n : Nat) (H : A3), i ≤ 200 → d ≤ 100 → H gc = some (Ef i) → AUpd Tryz.prog 33 [.ptr gc 0, .sl 7 el .ro, aI d] n H (EU (BC 0 i d l)) gc (Ef (F6 (BC 0 i d l)))
def QB (l : List Pt) (i : Nat) : Int := if i = 0 then 0 else match l[i - 1]? with | some y => y.k | none => 0
theorem PV {l : List Pt} {i : Nat} {x : Pt} (h : l[i]? = some x) : QB l (i + 1) = x.k := by
  unfold QB
  rw [if_neg (by omega)]
  have e : i + 1 - 1 = i := by omega
  rw [e, h]
theorem W4 {l : List Pt} {i : Nat} (hi : 0 < i) (hl : i < l.length) : ∃ (k : Int) (t n : AM) (pa : List AM) (fs : List (AM × Int)) (eb ee : List AV), QB l i = k ∧ (AN l)[i - 1]? = some (.agg [aI k, .str t, .str n, Gp pa, Ea fs, .sl 7 eb .ro, .sl 7 ee .ro]) := by
  obtain ⟨y, hy⟩ : ∃ y, l[i - 1]? = some y := ⟨_, List.getElem?_eq_getElem (by omega)⟩
  have := F7 hy
  have hk : QB l i = y.k := by unfold QB; rw [if_neg (by omega), hy]
  obtain ⟨k, t, n, pa, fs, b, e⟩ := y
  rw [CO] at this
  exact ⟨k, t, n, pa, fs, _, _, hk, this⟩
attribute [local simp] Jw E1 Dy JJ KF KK JB Dz E3 G3 Fv JL J3 JF Jr JK II Hu I5 JD K0 Jt JU KQ JC PM pe KD JH Iw Ka KN Jv K9 JQ JO KR Kc Jh KT Ft OG N9 OS NT Nu OV Na Mt OJ N3 O9 NV OF ND NN Mz MW OU NP OB N8 FZ Nn Fa Oh MY Mw N7 N4 Mv Oa OC OA O5 NH Nq OQ NG MU MX Md Oc Nz Ml Ns Mo Nf Mg Od Fj OX NI Nk Nh O3 NF OM Nm NU Nt MZ Mx Mq Ob Nj Mc Nw Of Mm JG Jz Je KU KA J9 Kf K8 Iy Ke Ix HO Jy List.mem_cons guardK DT Dv EA Fx Nc FQ FV Fo Fr Fh Fk Fd Ff FW NM Nx FX JS N2 Oe Oi Ng NY FM J0 Mi NS JE Ju Nd Hj FO FT FN Fb NW Nr Fq NE FP Jx FU FS Jo Fm Fu Ma NA OD KH Nb Mn Kh K7 Qs I7 IK GD I0 IT IF Dc FF Ep Jb Ei Ez Df DS Sq IV I6 FJ IW I8 DL D6 BU BR CJ D7 D4 ev get put Di AG DG JR KI JI KV IQ J2 Dr part Az G6 K6 FY isNil Ci Cw DK Cx CQ Jf K5 JY Kj KO KZ Jj Iz KB Ki KG KL JT Jp J8 JV AV.fits AV.cells ones AV.one DX Bm DZ D1 Dg Du KP EH EQ CM Bk Cn Fc DM Ay BG Sx G0 Jn Iu List.getElem?_cons_zero List.getElem?_cons_succ FL Fp Fg J6 K3 J4 G7 J5 Jl Jc Kb KE Ja KX Mr Jg Jd Jm Ji JA JP J7 Jk Kg J1 KY K4 Iv JM JZ Jq K2 KJ JX Kd
theorem O0 (l : List Pt) (hl : l.length ≤ 2000000) (hs : Ec l) (hp : ∀ x ∈ l, Gk x.b (AN x.b) ∧ Gk x.e (AN x.e)) : Gk l (AN l) := by
  intro i0 d gc n H hi0 hd hg
  have hel := BY l
  obtain ⟨R, hR⟩ : ∃ R, BC 0 i0 d l = R := ⟨_, rfl⟩
  rw [hR]
  refine Qh Tryz.func33 Xs rfl (hg) fun hH => ?_
  have hgn : gc < n := by
    rcases Nat.lt_or_ge gc n with h | h
    · exact h
    · rw [hH gc h] at hg; cases hg
  repeat' (first | (simp -implicitDefEqProofs [c33, -getElem?_pos, hel, hg]) | (simp (disch := omega) only [AF]) | (with_reducible first | refine A6 ?_ ?_ ?_ | exact AC | assumption | refine A2 ?_ | refine KM.of ?_ | refine AE ?_ | refine A5 ?_ | refine Aw ?_ | refine A8 ?_ | refine BT ?_ | refine Av ?_ | intro _g _hg | refine AD ?_ ?_ | intro _hc) | omega)
  refine LoopK.go (fun m st => ∃ (i c n2 : Nat) (H2 : A3), i + m = l.length ∧ st = ⟨[(0, .ptr gc 0), (1, Dx l), (2, aI d), (6, .ptr _g 0), (14, Dx l), (15, aI l.length), (16, aI i)], n2, H2⟩ ∧ _g < n2 ∧ H2 _g = some (.cells 24 [aI 0, aI 0]) ∧ SameB n (upd H gc (some (Ef c))) H2 ∧ (∀ q, n2 ≤ q → H2 q = none) ∧ c ≤ 200 ∧ BC (QB l i) c d (l.drop i) = R) l.length ⟨0, i0, _, _, by omega, rfl, by omega, Ay _ _ _, ?_, fun q hq => by rw [upd_ne (by omega)]; exact hH q (by omega), hi0, hR⟩ ?_
  · rw [TR hg]; exact (SameB.rfl_ n H).upd (by omega) _
  rintro m st ⟨i, c, n2, H2, him, rfl, hgn2, hg6, hS, hsup, hc, hE⟩ J hJ
  have hgc : H2 gc = some (Ef c) := by rw [hS gc hgn]; exact Ay _ _ _
  clear hR
  by_cases hi : i < l.length
  · obtain ⟨x, hx⟩ : ∃ x, l[i]? = some x := ⟨_, List.getElem?_eq_getElem hi⟩
    have hx2 := F7 hx
    have hi' : (i : Int) < l.length := by omega
    have hks := PV hx
    rw [drop_at hx] at hE
    have hsx := DO hs (List.mem_of_getElem? hx)
    obtain ⟨cb, ce⟩ := hp x (List.mem_of_getElem? hx)
    have hka := fun (h : 0 < i) => W4 h hi
    have hk0 : i = 0 → QB l i = 0 := fun h => by rw [h]; rfl
    obtain ⟨k, t, nm, pa, fs, b, e⟩ := x
    rw [CO] at hx2
    simp only [Me] at hsx
    obtain ⟨s1, s2, s3, s4, s5, s6, s7, s8, s9⟩ := hsx
    change Gk b (AN b) at cb
    change Gk e (AN e) at ce
    change QB l (i + 1) = k at hks
    have hlb := BY b
    have hle := BY e
    have hsh := VU c d k t nm pa fs (AN b) (AN e) ⟨s3, s5, by omega, by omega⟩
    have hnm := HJ k t nm pa fs (AN b) (AN e) s4 s3 s2 s5
    rw [HI hlb, HI hle] at hsh
    obtain ⟨fb, hfb⟩ : ∃ fb, Q4 k t nm (BW pa) (BW fs) (BW b) (BW e) = fb := ⟨_, rfl⟩
    rw [hfb] at hsh
    have hpc : Ee (QB l i) c d k t nm pa fs b e = _ := TB (pv := QB l i) (i := c) (d := d) hfb
    clear hfb hx hp
    rw [BC, ET] at hE
    generalize AN b = eb at *
    generalize AN e = ee at *
    generalize QB l i = pv at *
    generalize Np k nm pa fs = M at *
    generalize hSS : RC c d k fb = S at *
    have hcc : ((c + 1 : Nat) : Int) = (c : Int) + 1 := by omega
    by_cases hP : Ee pv c d k t nm pa fs b e = 0
    · have hcd : c < 200 ∧ d ≤ 16 := by
        unfold Ee at hP
        by_cases h1 : 200 ≤ c
        · rw [if_pos h1] at hP; cases hP
        · by_cases h2 : 16 < d
          · rw [if_neg h1, if_pos h2] at hP; cases hP
          · omega
      obtain ⟨hc2, hd2⟩ := hcd
      simp only [hP, ne_eq, not_true, if_false] at hE
      rw [hP] at hpc
      have hS0 : S = 0 := by
        by_cases h : S = 0
        · exact h
        · rw [if_pos h] at hpc; exact hpc.symm
      rw [if_neg (by simpa using hS0)] at hpc
      have hkp : ¬ (k = 1 ∧ pv = 1) := fun h => by rw [if_pos h] at hpc; cases hpc
      rw [if_neg hkp] at hpc
      subst hS0
      subst hpc
      have hB2 := EC b 0 (c + 1) (d + 1) (by omega)
      have cb1 := cb (c + 1) (d + 1) gc
      generalize BC 0 (c + 1) (d + 1) b = B at *
      have hE2 := EC e 0 B.1 (d + 1)
      have ce1 := ce B.1 (d + 1) gc
      generalize BC 0 B.1 (d + 1) e = E at *
      clear cb ce
      have hin : ∀ (g8 gr : Nat) (n3 : Nat) (H3 : A3), n2 ≤ g8 → g8 + 1 ≤ gr → n3 = gr + 1 → H3 = upd (upd (upd (upd H2 g8 (some (.cells 55 [.int .i64 0, .str [], .str [], .sl 0 [] .nil, .sl 0 [] .nil, .sl 0 [] .nil, .sl 0 [] .nil]))) g8 (some (.cells 55 [aI k, .str t, .str nm, Gp pa, Ea fs, .sl 7 eb .ro, .sl 7 ee .ro]))) gc (some (.cells 64 [.int .i64 ((c : Int) + 1)]))) gr (some (.row 22 2)) →
          LoopK (fun Q s => aw Tryz.prog c33_L5 Q s) (E5 2 (E5 1 (DY (aw Tryz.prog c33_k2 (La [0, 1, 2, 6, 14, 15, 16] (DY J (E5 0 (DY (aw Tryz.prog c33_k1 (ID (EU R) n (upd H gc (some (Ef (F6 R)))) [ARes.cell 6 (some 2)])) (ID (EU R) n (upd H gc (some (Ef (F6 R)))) [ARes.cell 6 (some 2)])))))) (La [0, 1, 2, 6, 14, 15, 16] (DY J (E5 0 (DY (aw Tryz.prog c33_k1 (ID (EU R) n (upd H gc (some (Ef (F6 R)))) [ARes.cell 6 (some 2)])) (ID (EU R) n (upd H gc (some (Ef (F6 R)))) [ARes.cell 6 (some 2)]))))))))
            ⟨[(0, .ptr gc 0), (1, Dx l), (2, aI d), (6, .ptr _g 0), (14, Dx l), (15, aI l.length), (16, aI i), (69, .sl 1 [.sl 7 eb .ro, .sl 7 ee .ro] (.own gr)), (70, .int .i64 2), (71, .int .i64 0)], n3, H3⟩ := by
        clear hsh hnm hka hk0
        intro g8 gr n3 H3 q1 q2 q3 q4
        have r1 : SameB n (upd H gc (some (Ef (c + 1)))) H3 := by
          rw [q4]
          intro q hq
          by_cases hqg : q = gc
          · subst hqg
            simp (disch := omega) only [upd_ne, Ay]
            rfl
          · simp (disch := omega) only [upd_ne]
            rw [hS q hq, upd_ne hqg]
        have r2 : ∀ q, n3 ≤ q → H3 q = none := fun q hq => by
          rw [q4]
          simp (disch := omega) only [upd_ne]
          exact hsup q (by omega)
        have r3 : H3 _g = some (.cells 24 [aI 0, aI 0]) := by
          rw [q4]
          simp (disch := omega) only [upd_ne]
          exact hg6
        have r4 : H3 gc = some (Ef (c + 1)) := by rw [r1 gc hgn, Ay]
        clear q4 hg6 hsup hS
        have hdd : ((d + 1 : Nat) : Int) = (d : Int) + 1 := by omega
        rw [hdd] at cb1 ce1
        have cb2 : ∀ n H, H gc = some (Ef (c + 1)) → AUpd Tryz.prog 33 [.ptr gc 0, .sl 7 eb .ro, .int .i64 ((d : Int) + 1)] n H (EU B) gc (Ef (F6 B)) := fun n H h => cb1 n H (by omega) (by omega) h
        clear cb1
        
        refine LoopK.round ?_
        by_cases hB0 : B.2 = 0
        · have v1 : EU B = aF (0, 0) := by unfold EU; rw [if_neg (by simpa using hB0)]
          have v2 : F6 B = B.1 := by unfold F6; rw [if_neg (by simpa using hB0)]
          rw [v1, v2] at cb2
          have hB3 := hB2 hB0
          have ce2 : ∀ n H, H gc = some (Ef B.1) → AUpd Tryz.prog 33 [.ptr gc 0, .sl 7 ee .ro, .int .i64 ((d : Int) + 1)] n H (EU E) gc (Ef (F6 E)) := fun n H h => ce1 n H (by omega) (by omega) h
          clear ce1 v1 v2
          simp only [hB0, ne_eq, not_true, if_false] at hE
          have r5 : ∀ g9, n3 ≤ g9 → ∀ o1 o2, upd (upd (upd H3 gc (some (Ef B.1))) g9 o1) g9 o2 gc = some (Ef B.1) := fun g9 hg9 o1 o2 => by simp (disch := omega) only [upd_ne, Ay]
          have r6 : ∀ g9, n3 ≤ g9 → ∀ o1 o2, upd (upd (upd H3 gc (some (Ef B.1))) g9 o1) g9 o2 _g = some (.cells 24 [aI 0, aI 0]) := fun g9 hg9 o1 o2 => by
            have : _g ≠ gc := by omega
            simp (disch := omega) only [upd_ne]; exact r3
          repeat' (first | (simp -implicitDefEqProofs [BH, BJ, BK, BO, BQ, BL, BM, BP, BI, Ax, c33, -getElem?_pos, splice, hel, r3]) | (simp (disch := omega) only [AF]) | ((with_reducible refine Bj 33 ?_); refine CallK.ofU (cb2 _ _ (r4)) (A0 _) ?_) | (with_reducible first | refine A6 ?_ ?_ ?_ | exact AC | assumption | refine A2 ?_ | refine KM.of ?_ | refine AE ?_ | refine A5 ?_ | refine Aw ?_ | refine A8 ?_ | refine BT ?_ | refine Av ?_ | intro _g _hg | refine AD ?_ ?_ | intro _hc) | omega)
          refine LoopK.round ?_
          by_cases hE0 : E.2 = 0
          · have v1 : EU E = aF (0, 0) := by unfold EU; rw [if_neg (by simpa using hE0)]
            have v2 : F6 E = E.1 := by unfold F6; rw [if_neg (by simpa using hE0)]
            rw [v1, v2] at ce2
            have hE3 := hE2 (by omega) hE0
            clear v1 v2
            simp only [hE0, ne_eq, not_true, if_false] at hE
            repeat' (first | (simp -implicitDefEqProofs [BH, BJ, BK, BO, BQ, BL, BM, BP, BI, Ax, c33, -getElem?_pos, splice, hel]) | (simp (disch := omega) only [AF]) | ((with_reducible refine Bj 33 ?_); refine CallK.ofU (ce2 _ _ (by simp (disch := omega) only [upd_ne, Ay])) (A0 _) ?_) | (with_reducible first | refine A6 ?_ ?_ ?_ | exact AC | assumption | refine A2 ?_ | refine KM.of ?_ | refine AE ?_ | refine A5 ?_ | refine Aw ?_ | refine A8 ?_ | refine BT ?_ | refine Av ?_ | intro _g _hg | refine AD ?_ ?_ | intro _hc) | omega)
            refine LoopK.round ?_
            repeat' (first | (simp -implicitDefEqProofs [BH, BJ, BK, BO, BQ, BL, BM, BP, BI, Ax, c33, -getElem?_pos, splice, hel]) | (simp (disch := omega) only [AF]) | (with_reducible first | refine A6 ?_ ?_ ?_ | exact AC | assumption | refine A2 ?_ | refine KM.of ?_ | refine AE ?_ | refine A5 ?_ | refine Aw ?_ | refine A8 ?_ | refine BT ?_ | refine Av ?_ | intro _g _hg | refine AD ?_ ?_ | intro _hc) | omega)
            all_goals (refine hJ (m - 1) _ (by omega) ⟨i + 1, E.1, _, _, by omega, rfl, by omega, ?_, ?_, fun q hq => ?_, by omega, by rw [hks]; exact hE⟩)
            all_goals first
              | (have : _g ≠ gc := by omega
                 simp (disch := omega) only [upd_ne]; exact r3)
              | (intro q hq
                 by_cases hqg : q = gc
                 · subst hqg
                   simp (disch := omega) only [upd_ne, Ay]
                 · simp (disch := omega) only [upd_ne]
                   rw [r1 q hq, upd_ne hqg])
              | (have : q ≠ gc := by omega
                 simp (disch := omega) only [upd_ne]; exact r2 q (by omega))
          · have v1 : EU E = aF (E.2, (E.1 : Int)) := by unfold EU; rw [if_pos hE0]
            have v2 : F6 E = E.1 + 1 := by unfold F6; rw [if_pos hE0]
            have eR : R = E := by rw [← hE, if_pos hE0]
            rw [eR, v1, v2]
            rw [v1, v2] at ce2
            generalize E.2 = E2 at *
            clear hE eR v1 v2 hJ
            repeat' (first | (simp -implicitDefEqProofs [BH, BJ, BK, BO, BQ, BL, BM, BP, BI, Ax, c33, -getElem?_pos, splice, hel, hE0, r3]) | (simp (disch := omega) only [AF]) | ((with_reducible refine Bj 33 ?_); refine CallK.ofU (ce2 _ _ (by simp (disch := omega) only [upd_ne, Ay])) (A0 _) ?_) | (with_reducible first | refine A6 ?_ ?_ ?_ | exact AC | assumption | refine A2 ?_ | refine KM.of ?_ | refine AE ?_ | refine A5 ?_ | refine Aw ?_ | refine A8 ?_ | refine BT ?_ | refine Av ?_ | intro _g _hg | refine AD ?_ ?_ | intro _hc) | omega)
            all_goals first
              | exact A1 _
              | (intro q hq
                 by_cases hqg : q = gc
                 · subst hqg
                   simp (disch := omega) only [upd_ne, Ay]
                 · simp (disch := omega) only [upd_ne]
                   rw [r1 q hq, upd_ne hqg])
        · have v1 : EU B = aF (B.2, (B.1 : Int)) := by unfold EU; rw [if_pos hB0]
          have v2 : F6 B = B.1 + 1 := by unfold F6; rw [if_pos hB0]
          have eR : R = B := by rw [← hE]; simp only [hB0, ne_eq, not_false_eq_true, if_true]
          rw [eR, v1, v2]
          rw [v1, v2] at cb2
          clear hE eR v1 v2 hJ ce1 hE2
          generalize B.2 = B2 at *
          repeat' (first | (simp -implicitDefEqProofs [BH, BJ, BK, BO, BQ, BL, BM, BP, BI, Ax, c33, -getElem?_pos, splice, hel, r3, hB0]) | (simp (disch := omega) only [AF]) | ((with_reducible refine Bj 33 ?_); refine CallK.ofU (cb2 _ _ (r4)) (A0 _) ?_) | (with_reducible first | refine A6 ?_ ?_ ?_ | exact AC | assumption | refine A2 ?_ | refine KM.of ?_ | refine AE ?_ | refine A5 ?_ | refine Aw ?_ | refine A8 ?_ | refine BT ?_ | refine Av ?_ | intro _g _hg | refine AD ?_ ?_ | intro _hc) | omega)
          all_goals first
              | exact A1 _
              | (intro q hq
                 by_cases hqg : q = gc
                 · subst hqg
                   simp (disch := omega) only [upd_ne, Ay]
                 · simp (disch := omega) only [upd_ne]
                   rw [r1 q hq, upd_ne hqg])
      by_cases hi0 : i = 0
      · subst hi0
        have hz1 : (0 : Int) < l.length := hi'
        have hz2 : ¬ l = [] := fun e => by rw [e] at hi; simp at hi
        
        repeat' (first | (simp -implicitDefEqProofs [BH, BJ, BK, BO, BQ, BL, BM, BP, BI, Ax, c33, -getElem?_pos, splice, hel, hx2, hi', hgc, hg6, hz1, hz2]) | (simp (disch := omega) only [AF]) | ((with_reducible refine AH 67 ?_); (refine' CallP.sf ?_ (hsh) ?_); (focus first | (with_reducible exact A0 _) | (simp [AA, A9, A1, A0]; done))) | ((with_reducible refine AH 68 ?_); (refine' CallP.sf ?_ (hnm) ?_); (focus first | (with_reducible exact A0 _) | (simp [AA, A9, A1, A0]; done))) | (with_reducible first | refine A6 ?_ ?_ ?_ | exact AC | assumption | refine A2 ?_ | refine KM.of ?_ | refine AE ?_ | refine A5 ?_ | refine Aw ?_ | refine A8 ?_ | refine BT ?_ | refine Av ?_ | intro _g _hg | refine AD ?_ ?_ | intro _hc) | omega)
        refine hin _ _ _ _ (by assumption) (by assumption) rfl rfl
      · obtain ⟨ky, ty, ny, pay, fsy, eby, eey, hyk, hy2⟩ := hka (by omega)
        have hip : (0 : Int) < i := by omega
        have hip1 : (1 : Int) ≤ i := by omega
        have hipn : 0 < i := by omega
        have hiw : ((i : Int) - 1).toNat = i - 1 := by omega
        subst hyk
        by_cases k1 : k = 1
        · subst k1
          have y1 : ¬ pv = 1 := fun h => hkp ⟨rfl, h⟩
          
          repeat' (first | (simp -implicitDefEqProofs [BH, BJ, BK, BO, BQ, BL, BM, BP, BI, Ax, c33, -getElem?_pos, splice, hel, hx2, hi', hgc, hg6, hip, hip1, hipn, hiw, hy2, y1]) | (simp (disch := omega) only [AF]) | ((with_reducible refine AH 67 ?_); (refine' CallP.sf ?_ (hsh) ?_); (focus first | (with_reducible exact A0 _) | (simp [AA, A9, A1, A0]; done))) | ((with_reducible refine AH 68 ?_); (refine' CallP.sf ?_ (hnm) ?_); (focus first | (with_reducible exact A0 _) | (simp [AA, A9, A1, A0]; done))) | (with_reducible first | refine A6 ?_ ?_ ?_ | exact AC | assumption | refine A2 ?_ | refine KM.of ?_ | refine AE ?_ | refine A5 ?_ | refine Aw ?_ | refine A8 ?_ | refine BT ?_ | refine Av ?_ | intro _g _hg | refine AD ?_ ?_ | intro _hc) | omega)
          refine hin _ _ _ _ (by assumption) (by assumption) rfl rfl
        · have hkb : (k == 1) = false := by simpa using k1
          
          repeat' (first | (simp -implicitDefEqProofs [BH, BJ, BK, BO, BQ, BL, BM, BP, BI, Ax, c33, -getElem?_pos, splice, hel, hx2, hi', hgc, hg6, hip, hip1, hipn, hiw, hy2, k1, hkb]) | (simp (disch := omega) only [AF]) | ((with_reducible refine AH 67 ?_); (refine' CallP.sf ?_ (hsh) ?_); (focus first | (with_reducible exact A0 _) | (simp [AA, A9, A1, A0]; done))) | ((with_reducible refine AH 68 ?_); (refine' CallP.sf ?_ (hnm) ?_); (focus first | (with_reducible exact A0 _) | (simp [AA, A9, A1, A0]; done))) | (with_reducible first | refine A6 ?_ ?_ ?_ | exact AC | assumption | refine A2 ?_ | refine KM.of ?_ | refine AE ?_ | refine A5 ?_ | refine Aw ?_ | refine A8 ?_ | refine BT ?_ | refine Av ?_ | intro _g _hg | refine AD ?_ ?_ | intro _hc) | omega)
          refine hin _ _ _ _ (by assumption) (by assumption) rfl rfl
    · have eR : R = (c, Ee pv c d k t nm pa fs b e) := by
        rw [← hE, if_pos hP, if_pos (by exact hP)]
      have eV : EU R = aF (Ee pv c d k t nm pa fs b e, (c : Int)) := by rw [eR]; unfold EU; rw [if_pos hP]
      have eN : F6 R = c + 1 := by rw [eR]; unfold F6; rw [if_pos hP]
      rw [eV, eN]
      clear hE eR eV eN hJ cb ce
      generalize Ee pv c d k t nm pa fs b e = P at *
      by_cases hS0 : S = 0
      · rw [if_neg (by simpa using hS0)] at hpc
        subst hS0
        by_cases hi0 : i = 0
        · have hpv := hk0 hi0
          have : ¬ (k = 1 ∧ pv = 1) := fun h => by omega
          rw [if_neg this] at hpc
          subst hi0
          subst hpc
          have hz1 : (0 : Int) < l.length := hi'
          have hz2 : ¬ l = [] := fun e => by rw [e] at hi; simp at hi
          
          repeat' (first | (simp -implicitDefEqProofs [BH, BJ, BK, BO, BQ, BL, BM, BP, BI, Ax, c33, -getElem?_pos, splice, hel, hx2, hi', hgc, hg6, hP, hz1, hz2]) | (simp (disch := omega) only [AF]) | ((with_reducible refine AH 67 ?_); (refine' CallP.sf ?_ (hsh) ?_); (focus first | (with_reducible exact A0 _) | (simp [AA, A9, A1, A0]; done))) | ((with_reducible refine AH 68 ?_); (refine' CallP.sf ?_ (hnm) ?_); (focus first | (with_reducible exact A0 _) | (simp [AA, A9, A1, A0]; done))) | (with_reducible first | refine A6 ?_ ?_ ?_ | exact AC | assumption | refine A2 ?_ | refine KM.of ?_ | refine AE ?_ | refine A5 ?_ | refine Aw ?_ | refine A8 ?_ | refine BT ?_ | refine Av ?_ | intro _g _hg | refine AD ?_ ?_ | intro _hc) | omega)
          all_goals first
            | exact A1 _
            | (intro q hq
               by_cases hqg : q = gc
               · subst hqg
                 simp (disch := omega) only [upd_ne, Ay]
                 first | rfl | (rw [hcc])
               · simp (disch := omega) only [upd_ne]
                 rw [hS q hq, upd_ne hqg])
        · obtain ⟨ky, ty, ny, pay, fsy, eby, eey, hyk, hy2⟩ := hka (by omega)
          have hip : (0 : Int) < i := by omega
          have hip1 : (1 : Int) ≤ i := by omega
          have hipn : 0 < i := by omega
          have hiw : ((i : Int) - 1).toNat = i - 1 := by omega
          subst hyk
          by_cases k1 : k = 1
          · subst k1
            by_cases y1 : pv = 1
            · rw [if_pos ⟨rfl, y1⟩] at hpc
              subst hpc
              subst y1
              
              repeat' (first | (simp -implicitDefEqProofs [BH, BJ, BK, BO, BQ, BL, BM, BP, BI, Ax, c33, -getElem?_pos, splice, hel, hx2, hi', hgc, hg6, hip, hip1, hipn, hiw, hy2]) | (simp (disch := omega) only [AF]) | ((with_reducible refine AH 67 ?_); (refine' CallP.sf ?_ (hsh) ?_); (focus first | (with_reducible exact A0 _) | (simp [AA, A9, A1, A0]; done))) | ((with_reducible refine AH 68 ?_); (refine' CallP.sf ?_ (hnm) ?_); (focus first | (with_reducible exact A0 _) | (simp [AA, A9, A1, A0]; done))) | (with_reducible first | refine A6 ?_ ?_ ?_ | exact AC | assumption | refine A2 ?_ | refine KM.of ?_ | refine AE ?_ | refine A5 ?_ | refine Aw ?_ | refine A8 ?_ | refine BT ?_ | refine Av ?_ | intro _g _hg | refine AD ?_ ?_ | intro _hc) | omega)
              all_goals first
            | exact A1 _
            | (intro q hq
               by_cases hqg : q = gc
               · subst hqg
                 simp (disch := omega) only [upd_ne, Ay]
                 first | rfl | (rw [hcc])
               · simp (disch := omega) only [upd_ne]
                 rw [hS q hq, upd_ne hqg])
            · rw [if_neg (fun h => y1 h.2)] at hpc
              subst hpc
              have hPb : (P == 0) = false := by simpa using hP
              
              repeat' (first | (simp -implicitDefEqProofs [BH, BJ, BK, BO, BQ, BL, BM, BP, BI, Ax, c33, -getElem?_pos, splice, hel, hx2, hi', hgc, hg6, hP, hPb, hip, hip1, hipn, hiw, hy2, y1]) | (simp (disch := omega) only [AF]) | ((with_reducible refine AH 67 ?_); (refine' CallP.sf ?_ (hsh) ?_); (focus first | (with_reducible exact A0 _) | (simp [AA, A9, A1, A0]; done))) | ((with_reducible refine AH 68 ?_); (refine' CallP.sf ?_ (hnm) ?_); (focus first | (with_reducible exact A0 _) | (simp [AA, A9, A1, A0]; done))) | (with_reducible first | refine A6 ?_ ?_ ?_ | exact AC | assumption | refine A2 ?_ | refine KM.of ?_ | refine AE ?_ | refine A5 ?_ | refine Aw ?_ | refine A8 ?_ | refine BT ?_ | refine Av ?_ | intro _g _hg | refine AD ?_ ?_ | intro _hc) | omega)
              all_goals first
            | exact A1 _
            | (intro q hq
               by_cases hqg : q = gc
               · subst hqg
                 simp (disch := omega) only [upd_ne, Ay]
                 first | rfl | (rw [hcc])
               · simp (disch := omega) only [upd_ne]
                 rw [hS q hq, upd_ne hqg])
          · rw [if_neg (fun h => k1 h.1)] at hpc
            subst hpc
            have hPb : (P == 0) = false := by simpa using hP
            have hkb : (k == 1) = false := by simpa using k1
            
            repeat' (first | (simp -implicitDefEqProofs [BH, BJ, BK, BO, BQ, BL, BM, BP, BI, Ax, c33, -getElem?_pos, splice, hel, hx2, hi', hgc, hg6, hP, hPb, hip, hip1, hipn, hiw, hy2, k1, hkb]) | (simp (disch := omega) only [AF]) | ((with_reducible refine AH 67 ?_); (refine' CallP.sf ?_ (hsh) ?_); (focus first | (with_reducible exact A0 _) | (simp [AA, A9, A1, A0]; done))) | ((with_reducible refine AH 68 ?_); (refine' CallP.sf ?_ (hnm) ?_); (focus first | (with_reducible exact A0 _) | (simp [AA, A9, A1, A0]; done))) | (with_reducible first | refine A6 ?_ ?_ ?_ | exact AC | assumption | refine A2 ?_ | refine KM.of ?_ | refine AE ?_ | refine A5 ?_ | refine Aw ?_ | refine A8 ?_ | refine BT ?_ | refine Av ?_ | intro _g _hg | refine AD ?_ ?_ | intro _hc) | omega)
            all_goals first
            | exact A1 _
            | (intro q hq
               by_cases hqg : q = gc
               · subst hqg
                 simp (disch := omega) only [upd_ne, Ay]
                 first | rfl | (rw [hcc])
               · simp (disch := omega) only [upd_ne]
                 rw [hS q hq, upd_ne hqg])
      · rw [if_pos hS0] at hpc
        subst hpc
        have hPb : (P == 0) = false := by simpa using hP
        by_cases hi0 : i = 0
        · subst hi0
          have hz1 : (0 : Int) < l.length := hi'
          have hz2 : ¬ l = [] := fun e => by rw [e] at hi; simp at hi
          
          repeat' (first | (simp -implicitDefEqProofs [BH, BJ, BK, BO, BQ, BL, BM, BP, BI, Ax, c33, -getElem?_pos, splice, hel, hx2, hi', hgc, hg6, hP, hPb, hz1, hz2]) | (simp (disch := omega) only [AF]) | ((with_reducible refine AH 67 ?_); (refine' CallP.sf ?_ (hsh) ?_); (focus first | (with_reducible exact A0 _) | (simp [AA, A9, A1, A0]; done))) | ((with_reducible refine AH 68 ?_); (refine' CallP.sf ?_ (hnm) ?_); (focus first | (with_reducible exact A0 _) | (simp [AA, A9, A1, A0]; done))) | (with_reducible first | refine A6 ?_ ?_ ?_ | exact AC | assumption | refine A2 ?_ | refine KM.of ?_ | refine AE ?_ | refine A5 ?_ | refine Aw ?_ | refine A8 ?_ | refine BT ?_ | refine Av ?_ | intro _g _hg | refine AD ?_ ?_ | intro _hc) | omega)
          all_goals first
            | exact A1 _
            | (intro q hq
               by_cases hqg : q = gc
               · subst hqg
                 simp (disch := omega) only [upd_ne, Ay]
                 first | rfl | (rw [hcc])
               · simp (disch := omega) only [upd_ne]
                 rw [hS q hq, upd_ne hqg])
        · obtain ⟨ky, ty, ny, pay, fsy, eby, eey, hyk, hy2⟩ := hka (by omega)
          have hip : (0 : Int) < i := by omega
          have hip1 : (1 : Int) ≤ i := by omega
          have hipn : 0 < i := by omega
          have hiw : ((i : Int) - 1).toNat = i - 1 := by omega
          
          repeat' (first | (simp -implicitDefEqProofs [BH, BJ, BK, BO, BQ, BL, BM, BP, BI, Ax, c33, -getElem?_pos, splice, hel, hx2, hi', hgc, hg6, hP, hPb, hip, hip1, hipn, hiw, hy2]) | (simp (disch := omega) only [AF]) | ((with_reducible refine AH 67 ?_); (refine' CallP.sf ?_ (hsh) ?_); (focus first | (with_reducible exact A0 _) | (simp [AA, A9, A1, A0]; done))) | ((with_reducible refine AH 68 ?_); (refine' CallP.sf ?_ (hnm) ?_); (focus first | (with_reducible exact A0 _) | (simp [AA, A9, A1, A0]; done))) | (with_reducible first | refine A6 ?_ ?_ ?_ | exact AC | assumption | refine A2 ?_ | refine KM.of ?_ | refine AE ?_ | refine A5 ?_ | refine Aw ?_ | refine A8 ?_ | refine BT ?_ | refine Av ?_ | intro _g _hg | refine AD ?_ ?_ | intro _hc) | omega)
          all_goals first
            | exact A1 _
            | (intro q hq
               by_cases hqg : q = gc
               · subst hqg
                 simp (disch := omega) only [upd_ne, Ay]
                 first | rfl | (rw [hcc])
               · simp (disch := omega) only [upd_ne]
                 rw [hS q hq, upd_ne hqg])
  · have hi0 : i = l.length := by omega
    subst hi0
    have hi' : ¬ (l.length : Int) < l.length := by omega
    rw [List.drop_length, BC] at hE
    subst hE
    have e1 : EU (c, 0) = aF (0, 0) := rfl
    have e2 : F6 (c, 0) = c := rfl
    rw [e1, e2]
    clear hJ hp
    
    repeat' (first | (simp -implicitDefEqProofs [BH, BJ, BK, BO, BQ, BL, BM, BP, BI, Ax, c33, -getElem?_pos, splice, hel, hi', hg6, hgc]) | (simp (disch := omega) only [AF]) | (with_reducible first | refine A6 ?_ ?_ ?_ | exact AC | assumption | refine A2 ?_ | refine KM.of ?_ | refine AE ?_ | refine A5 ?_ | refine Aw ?_ | refine A8 ?_ | refine BT ?_ | refine Av ?_ | intro _g _hg | refine AD ?_ ?_ | intro _hc) | omega)
    all_goals first | exact A1 _ | (exact hS.upd (by omega) _)
theorem XC (p : Pt) : Me p → Gk p.b (AN p.b) ∧ Gk p.e (AN p.e) := by
  refine Pt.ind (Q := fun p => Me p → Gk p.b (AN p.b) ∧ Gk p.e (AN p.e)) ?_ p
  intro k t nm pa fs b e hb he h
  simp only [Me] at h
  obtain ⟨_, _, _, _, _, h6, h7, h8, h9⟩ := h
  exact ⟨O0 b h6 h8 fun x hx => hb x hx (DO h8 hx), O0 e h7 h9 fun x hx => he x hx (DO h9 hx)⟩
theorem Wq (l : List Pt) (hl : l.length ≤ 2000000) (hs : Ec l) : Gk l (AN l) := O0 l hl hs fun x hx => XC x (DO hs hx)
theorem Xc (p : Pt) : ∀ pv i d, Me p → (ET pv i d p).2 = 0 → MJ p := by
  refine Pt.ind (Q := fun p => ∀ pv i d, Me p → (ET pv i d p).2 = 0 → MJ p) ?_ p
  intro k t n pa fs b e hb he pv i d hs h
  have hl : ∀ l : List Pt, (∀ x ∈ l, ∀ pv i d, Me x → (ET pv i d x).2 = 0 → MJ x) → ∀ pv i d, Ec l → (BC pv i d l).2 = 0 → Gt l := by
    intro l
    induction l with
    | nil => intro _ _ _ _ _ _; trivial
    | cons x r ih =>
      intro h pv i d hs h2
      simp only [Ec] at hs
      unfold BC at h2
      by_cases hx : (ET pv i d x).2 = 0
      · rw [if_neg (by simpa using hx)] at h2
        exact ⟨h x (by simp) pv i d hs.1 hx, ih (fun y hy => h y (List.mem_cons_of_mem _ hy)) _ _ _ hs.2 h2⟩
      · rw [if_pos hx] at h2; exact absurd h2 hx
  simp only [Me] at hs
  obtain ⟨s1, _, _, _, _, _, _, s8, s9⟩ := hs
  unfold ET at h
  split at h
  · rename_i hc; exact absurd h hc
  · rename_i hc
    have hpo := Wt (by simpa using hc)
    have h5 : fs.length ≤ 8 := by
      have hc' : Ee pv i d k t n pa fs b e = 0 := by simpa using hc
      unfold Ee at hc'
      (repeat' split at hc') <;> first | omega | skip
      unfold Np at hc'
      (repeat' split at hc') <;> first | omega | skip
    split at h
    · rename_i hb2; exact absurd h hb2
    · rename_i hb2
      simp only [MJ]
      refine ⟨s1, fun e => hpo.tx.1 e, ?_, ?_, ?_, h5, fun f hf => ⟨Wh (hpo.fo f hf).k, (hpo.fo f hf).lo, (hpo.fo f hf).hi⟩, hl b hb _ _ _ s8 (by simpa using hb2), hl e he _ _ _ s9 h⟩
      · by_cases k4 : k = 4
        · exact Qe (hpo.id_ k4)
        · rw [hpo.nm k4]; simp
      · by_cases k1 : k = 1
        · rw [hpo.pt k1]; simp
        · exact (Ou (hpo.path k1)).1
      · by_cases k1 : k = 1
        · rw [hpo.pt k1]; simp
        · exact (Ou (hpo.path k1)).2
theorem I2 : ∀ (l : List Pt) (pv : Int) (i d : Nat), Ec l → (BC pv i d l).2 = 0 → Gt l
  | [], _, _, _, _, _ => trivial
  | x :: r, pv, i, d, hs, h2 => by
    simp only [Ec] at hs
    unfold BC at h2
    by_cases hx : (ET pv i d x).2 = 0
    · rw [if_neg (by simpa using hx)] at h2
      exact ⟨Xc x pv i d hs.1 hx, I2 r _ _ _ hs.2 h2⟩
    · rw [if_pos hx] at h2; exact absurd h2 hx
theorem Lc (l : List Pt) (hl : l.length ≤ 2000000) (hs : Ec l) : APure Tryz.prog 13 [Dx l] (aF (ER l)) := by
  have hla := Wq l hl hs 0 0
  have hel := BY l
  by_cases h0 : (BC 0 0 0 l).2 = 0
  · have hok := I2 l 0 0 0 hs h0
    have hsz := EC l 0 0 0 (by omega) h0
    have htx := Qm l hok (by omega)
    have hlen := EV l hok
    have e1 : EU (BC 0 0 0 l) = aF (0, 0) := by unfold EU; rw [if_neg (by simpa using h0)]
    have e2 : ER l = if (4000 : Int) < (CL l).length then (14, -1) else (0, 0) := by
      unfold ER
      rw [if_neg (by simpa using h0)]
      by_cases h : 4000 < (CL l).length
      · rw [if_pos h, if_pos (by omega)]
      · rw [if_neg h, if_neg (by omega)]
    rw [e1] at hla
    rw [e2]
    generalize F6 (BC 0 0 0 l) = N1 at *
    generalize CL l = tl at *
    have hla2 : ∀ gc n H, H gc = some (Ef 0) → AUpd Tryz.prog 33 [.ptr gc 0, Dx l, .int .i64 0] n H (aF (0, 0)) gc (Ef N1) := fun gc n H h => hla gc n H (by omega) (by omega) h
    clear hla e1 e2 hok
    by_cases h4 : (4000 : Int) < tl.length
    · rw [if_pos h4]
      refine A7 Tryz.func13 TI rfl fun n H hH => ?_
      repeat' (first | (simp -implicitDefEqProofs [I4, Hy, c13, -getElem?_pos, splice, hel, h4]) | (simp (disch := omega) only [AF]) | ((with_reducible refine Bj 33 ?_); refine CallK.ofU (hla2 _ _ _ (by simp (disch := omega) only [upd_ne, Ay]; rfl)) (A0 _) ?_) | ((with_reducible refine AH 31 ?_); (refine' CallP.sf ?_ (htx) ?_); (focus first | (with_reducible exact A0 _) | (simp [AA, A9, A1, A0]; done))) | (with_reducible first | refine A6 ?_ ?_ ?_ | exact AC | assumption | refine A2 ?_ | refine KM.of ?_ | refine AE ?_ | refine A5 ?_ | refine A8 ?_ | intro _g _hg | refine AD ?_ ?_ | intro _hc) | omega)
      all_goals first | exact A1 _ | (intro q hq; simp (disch := omega) only [upd_ne]; done)
    · rw [if_neg h4]
      refine A7 Tryz.func13 TI rfl fun n H hH => ?_
      repeat' (first | (simp -implicitDefEqProofs [I4, Hy, c13, -getElem?_pos, splice, hel, h4]) | (simp (disch := omega) only [AF]) | ((with_reducible refine Bj 33 ?_); refine CallK.ofU (hla2 _ _ _ (by simp (disch := omega) only [upd_ne, Ay]; rfl)) (A0 _) ?_) | ((with_reducible refine AH 31 ?_); (refine' CallP.sf ?_ (htx) ?_); (focus first | (with_reducible exact A0 _) | (simp [AA, A9, A1, A0]; done))) | (with_reducible first | refine A6 ?_ ?_ ?_ | exact AC | assumption | refine A2 ?_ | refine KM.of ?_ | refine AE ?_ | refine A5 ?_ | refine A8 ?_ | intro _g _hg | refine AD ?_ ?_ | intro _hc) | omega)
      all_goals first | exact A1 _ | (intro q hq; simp (disch := omega) only [upd_ne]; done)
  · have e1 : EU (BC 0 0 0 l) = aF ((BC 0 0 0 l).2, ((BC 0 0 0 l).1 : Int)) := by unfold EU; rw [if_pos h0]
    have e2 : ER l = ((BC 0 0 0 l).2, ((BC 0 0 0 l).1 : Int)) := by unfold ER; rw [if_pos h0]
    rw [e1] at hla
    rw [e2]
    generalize F6 (BC 0 0 0 l) = N1 at *
    generalize (BC 0 0 0 l).2 = R2 at *
    generalize (BC 0 0 0 l).1 = R1 at *
    have hla2 : ∀ gc n H, H gc = some (Ef 0) → AUpd Tryz.prog 33 [.ptr gc 0, Dx l, .int .i64 0] n H (aF (R2, R1)) gc (Ef N1) := fun gc n H h => hla gc n H (by omega) (by omega) h
    clear hla e1 e2
    refine A7 Tryz.func13 TI rfl fun n H hH => ?_
    repeat' (first | (simp -implicitDefEqProofs [I4, Hy, c13, -getElem?_pos, splice, hel, h0]) | (simp (disch := omega) only [AF]) | ((with_reducible refine Bj 33 ?_); refine CallK.ofU (hla2 _ _ _ (by simp (disch := omega) only [upd_ne, Ay]; rfl)) (A0 _) ?_) | (with_reducible first | refine A6 ?_ ?_ ?_ | exact AC | assumption | refine A2 ?_ | refine KM.of ?_ | refine AE ?_ | refine A5 ?_ | refine A8 ?_ | intro _g _hg | refine AD ?_ ?_ | intro _hc) | omega)
    all_goals first | exact A1 _ | (intro q hq; simp (disch := omega) only [upd_ne]; done)
def Lm (l : List Pt) : AM × (Int × Int) := if (ER l).1 ≠ 0 then ([], ER l) else (CL l, (0, 0))
theorem V2 (l : List Pt) (hl : l.length ≤ 2000000) (hs : Ec l) : APure Tryz.prog 11 [Dx l] (.tup [.str (Lm l).1, aF (Lm l).2]) := by
  have hv := Lc l hl hs
  by_cases h0 : (ER l).1 = 0
  · have h1 : (BC 0 0 0 l).2 = 0 := by
      unfold ER at h0
      by_cases h : (BC 0 0 0 l).2 = 0
      · exact h
      · rw [if_pos h] at h0; exact absurd h0 h
    have htx := Qm l (I2 l 0 0 0 hs h1) (by have := EC l 0 0 0 (by omega) h1; omega)
    have e : Lm l = (CL l, (0, 0)) := by unfold Lm; rw [if_neg (by simpa using h0)]
    rw [e]
    generalize CL l = tl at *
    have h02 : ER l = (0, (ER l).2) := by rw [← h0]
    rw [h02] at hv
    generalize (ER l).2 = f2 at *
    simp only
    refine A7 Tryz.func11 Vp rfl fun n H hH => ?_
    repeat' (first | (simp -implicitDefEqProofs [MH, c11, -getElem?_pos, splice]) | (simp (disch := omega) only [AF]) | ((with_reducible refine AH 13 ?_); (refine' CallP.sf ?_ (hv) ?_); (focus first | (with_reducible exact A0 _) | (simp [AA, A9, A1, A0]; done))) | ((with_reducible refine AH 31 ?_); (refine' CallP.sf ?_ (htx) ?_); (focus first | (with_reducible exact A0 _) | (simp [AA, A9, A1, A0]; done))) | (with_reducible first | refine A6 ?_ ?_ ?_ | exact AC | refine SameB.upd ?_ ?_ _ | assumption | refine A2 ?_ | refine KM.of ?_ | refine AE ?_ | refine A5 ?_ | refine A8 ?_ | intro _g _hg | refine AD ?_ ?_ | intro _hc) | omega)
    all_goals exact A1 _
  · have e : Lm l = ([], ER l) := by unfold Lm; rw [if_pos h0]
    rw [e]
    generalize hf : ER l = f at *
    obtain ⟨f1, f2⟩ := f
    simp only at h0 ⊢
    refine A7 Tryz.func11 Vp rfl fun n H hH => ?_
    repeat' (first | (simp -implicitDefEqProofs [MH, c11, -getElem?_pos, splice, h0]) | (simp (disch := omega) only [AF]) | ((with_reducible refine AH 13 ?_); (refine' CallP.sf ?_ (hv) ?_); (focus first | (with_reducible exact A0 _) | (simp [AA, A9, A1, A0]; done))) | (with_reducible first | refine A6 ?_ ?_ ?_ | exact AC | refine SameB.upd ?_ ?_ _ | assumption | refine A2 ?_ | refine KM.of ?_ | refine AE ?_ | refine A5 ?_ | refine A8 ?_ | intro _g _hg | refine AD ?_ ?_ | intro _hc) | omega)
    all_goals exact A1 _
theorem RE {P : Program} {l2 : List Seg} {K : AS → Prop} : ∀ (l1 : List Seg) {s : AS}, AR P (l1 ++ l2) K s = AR P l1 (AR P l2 K) s := by
  intro l1
  induction l1 with
  | nil => intro s; rfl
  | cons o os ih =>
    intro s
    have e : AR P (os ++ l2) K = AR P os (AR P l2 K) := funext fun s => ih
    obtain ⟨g, ops, pk⟩ := o
    cases g with
    | none => show awOps P ops (AR P (os ++ l2) K) s = awOps P ops (AR P os (AR P l2 K)) s; rw [e]
    | some gw =>
      obtain ⟨t, want⟩ := gw
      cases pk with
      | none =>
        show guardK want (awOps P ops (AR P (os ++ l2) K) s) (AR P (os ++ l2) K ⟨EA s.e ops, s.n, s.H⟩) (get s.e t) = guardK want (awOps P ops (AR P os (AR P l2 K)) s) (AR P os (AR P l2 K) ⟨EA s.e ops, s.n, s.H⟩) (get s.e t)
        rw [e]
      | some dx =>
        obtain ⟨d, x⟩ := dx
        show K1 (PM want x (get s.e t) (CW ops s.e s.H)) (fun v => AR P (os ++ l2) K ⟨put (Dv s.e ops) d v, s.n, s.H⟩) = K1 (PM want x (get s.e t) (CW ops s.e s.H)) fun v => AR P os (AR P l2 K) ⟨put (Dv s.e ops) d v, s.n, s.H⟩
        rw [e]
theorem Hi {P : Program} {l : List Seg} {K : AS → Prop} {s : AS} (k : Nat) (Inv : AS → Prop) (h1 : AR P (l.take k) Inv s) (h2 : ∀ s', Inv s' → AR P (l.drop k) K s') : AR P l K s := by
  rw [← List.take_append_drop k l, RE]
  exact Iq h1 h2
def Slots (n : Nat) (H : A3) (l : List (Nat × AV)) (s : AS) : Prop := s.n = n ∧ s.H = H ∧ ∀ x ∈ l, get s.e x.1 = x.2
theorem Slots.cut {n : Nat} {H : A3} {l : List (Nat × AV)} {K : AS → Prop} (h : ∀ e, (∀ x ∈ l, get e x.1 = x.2) → K ⟨e, n, H⟩) : ∀ s, Slots n H l s → K s := by
  rintro ⟨e, n', H'⟩ ⟨h1, h2, h3⟩
  simp only at h1 h2 h3
  subst h1; subst h2
  exact h e h3
theorem AX (v : AV) (t k : Nat) : ∀ e : AK, get (Di e t v) k = if t = k then v else get e k
  | [] => by simp only [Di, get]
  | (a, u) :: r => by
    unfold Di
    by_cases h : a = t
    · subst h
      simp only [if_true, get]
      split <;> rfl
    · simp only [if_neg h, get, AX v t k r]
      by_cases h2 : a = k
      · subst h2; simp only [if_true]; rw [if_neg (fun e => h e.symm)]
      · simp only [if_neg h2]
set_option maxRecDepth 20000 in
theorem VK (k pv : Int) (t nm : AM) (pa : List AM) (fs : List (AM × Int)) (eb ee : List AV) (g n : Nat) (Hc : A3) (hgc : Hc g = some (.cells 55 [aI k, .str t, .str nm, Gp pa, Ea fs, .sl 7 eb .ro, .sl 7 ee .ro])) (en : AK) (e1 : get en 1 = aI pv) (h4 : get en 4 = .ptr g 0) (h9 : get en 9 = aI k) (Q : AExit → AS → Prop) (b : Bool)
    (hb : b = (((((decide (k = 1) == decide (t = [])) || (decide (k = 1) && BW pa)) || (decide (k ≠ 4) && decide (nm ≠ []))) || (decide (k ≠ 2) && BW fs)) || (decide (k < 3) && (BW eb || BW ee)) || (decide (k = 1) && decide (pv = k))))
    (hT : b = true → ∀ e, Q .ret ⟨(8, aI 6) :: e, n, Hc⟩) (hF : b = false → ∀ e, get e 4 = .ptr g 0 → get e 9 = aI k → get e 10 = .bool (k == 1) → aw Tryz.prog c66_k9 Q ⟨e, n, Hc⟩) : aw Tryz.prog c66_k10 Q ⟨en, n, Hc⟩ := by
  
  have hk10 : ∀ {b : Bool}, (k == 1) = b → decide (k = 1) = b := fun h => h
  obtain ⟨b10, hb10⟩ : ∃ b10, (k == 1) = b10 := ⟨_, rfl⟩
  rw [hb10] at hF
  simp -implicitDefEqProofs [c66, BN, -getElem?_pos, -II, -Hu, -I5, e1, h4, h9, hb10]
  obtain ⟨b1, hb1⟩ : ∃ b1, ((decide (k = 1) == decide (t = [])) || (decide (k = 1) && BW pa)) = b1 := ⟨_, rfl⟩
  rw [hb1] at hb
  obtain ⟨b2, hb2⟩ : ∃ b2, (b1 || (decide (k ≠ 4) && decide (nm ≠ []))) = b2 := ⟨_, rfl⟩
  rw [hb2] at hb
  obtain ⟨b3, hb3⟩ : ∃ b3, (b2 || (decide (k ≠ 2) && BW fs)) = b3 := ⟨_, rfl⟩
  rw [hb3] at hb
  obtain ⟨b4, hb4⟩ : ∃ b4, (b3 || (decide (k < 3) && (BW eb || BW ee))) = b4 := ⟨_, rfl⟩
  rw [hb4] at hb
  have hd : decide (k = 1) = b10 := by rw [← hb10]; rfl
  rw [hd] at hb hb1
  have pz : BW ([] : List AM) = false := rfl
  have pz2 : BW ([] : List (AM × Int)) = false := rfl
  have pz3 : BW ([] : List AV) = false := rfl
  have pq : ∀ {α : Type} {l : List α}, l ≠ [] → BW l = true ∧ (0 : Int) < l.length ∧ 0 < l.length := fun h => by
    have := List.length_pos_iff.2 h
    exact ⟨by unfold BW; exact decide_eq_true (by omega), by omega, this⟩
  refine Hi 5 (Slots n Hc [(1, aI pv), (4, .ptr g 0), (9, aI k), (10, .bool b10), (38, .bool b1)]) ?_ (Slots.cut fun e he => ?_)
  · simp only [List.take_succ_cons, List.take_zero]
    clear hT hF hb hb2 hb3 hb4
    cases b10
    · by_cases ht : t = []
      · simp [ht] at hb1; subst hb1; subst ht
        simp -implicitDefEqProofs [-getElem?_pos, hgc, Slots]
      · simp [ht] at hb1; subst hb1
        simp -implicitDefEqProofs [-getElem?_pos, hgc, Slots, ht]
    · by_cases ht : t = []
      · simp [ht] at hb1; subst hb1; subst ht
        simp -implicitDefEqProofs [-getElem?_pos, hgc, Slots]
      · by_cases hp : pa = []
        · subst hp; rw [pz] at hb1; simp [ht] at hb1; subst hb1
          simp -implicitDefEqProofs [-getElem?_pos, hgc, Slots, ht]
        · obtain ⟨p1, p2, p3⟩ := pq hp
          rw [p1] at hb1; simp [ht] at hb1; subst hb1
          simp -implicitDefEqProofs [-getElem?_pos, hgc, Slots, ht, p2, p3]
  clear e1 h4 h9 hb1
  have e1 : get e 1 = aI pv := he (1, _) (by simp)
  have h4 : get e 4 = .ptr g 0 := he (4, _) (by simp)
  have h9 : get e 9 = aI k := he (9, _) (by simp)
  have h10 : get e 10 = .bool b10 := he (10, _) (by simp)
  have hs : get e 38 = .bool b1 := he (38, _) (by simp)
  clear he
  simp only [List.drop_succ_cons, List.drop_zero]
  refine Hi 4 (Slots n Hc [(1, aI pv), (4, .ptr g 0), (9, aI k), (10, .bool b10), (47, .bool b2)]) ?_ (Slots.cut fun e he => ?_)
  · simp only [List.take_succ_cons, List.take_zero]
    clear hT hF hb hb3 hb4
    cases b1
    · by_cases k4 : k = 4
      · subst k4; simp at hb2; subst hb2
        simp -implicitDefEqProofs [-getElem?_pos, hgc, Slots, e1, h4, h9, h10, hs, AX]
      · by_cases hn : nm = []
        · subst hn; simp at hb2; subst hb2
          simp -implicitDefEqProofs [-getElem?_pos, hgc, Slots, e1, h4, h9, h10, hs, AX, k4]
        · simp [k4, hn] at hb2; subst hb2
          simp -implicitDefEqProofs [-getElem?_pos, hgc, Slots, e1, h4, h9, h10, hs, AX, k4, hn]
    · simp at hb2; subst hb2
      simp -implicitDefEqProofs [-getElem?_pos, hgc, Slots, e1, h4, h9, h10, hs, AX]
  clear e1 h4 h9 h10 hs hb2
  have e1 : get e 1 = aI pv := he (1, _) (by simp)
  have h4 : get e 4 = .ptr g 0 := he (4, _) (by simp)
  have h9 : get e 9 = aI k := he (9, _) (by simp)
  have h10 : get e 10 = .bool b10 := he (10, _) (by simp)
  have hs : get e 47 = .bool b2 := he (47, _) (by simp)
  clear he
  simp only [List.drop_succ_cons, List.drop_zero]
  refine Hi 4 (Slots n Hc [(1, aI pv), (4, .ptr g 0), (9, aI k), (10, .bool b10), (57, .bool b3)]) ?_ (Slots.cut fun e he => ?_)
  · simp only [List.take_succ_cons, List.take_zero]
    clear hT hF hb hb4
    cases b2
    · by_cases k2 : k = 2
      · subst k2; simp at hb3; subst hb3
        simp -implicitDefEqProofs [-getElem?_pos, hgc, Slots, e1, h4, h9, h10, hs, AX]
      · by_cases hf : fs = []
        · subst hf; rw [pz2] at hb3; simp at hb3; subst hb3
          simp -implicitDefEqProofs [-getElem?_pos, hgc, Slots, e1, h4, h9, h10, hs, AX, k2]
        · obtain ⟨p1, p2, p3⟩ := pq hf
          rw [p1] at hb3; simp [k2] at hb3; subst hb3
          simp -implicitDefEqProofs [-getElem?_pos, hgc, Slots, e1, h4, h9, h10, hs, AX, k2, p2, p3]
    · simp at hb3; subst hb3
      simp -implicitDefEqProofs [-getElem?_pos, hgc, Slots, e1, h4, h9, h10, hs, AX]
  clear e1 h4 h9 h10 hs hb3
  have e1 : get e 1 = aI pv := he (1, _) (by simp)
  have h4 : get e 4 = .ptr g 0 := he (4, _) (by simp)
  have h9 : get e 9 = aI k := he (9, _) (by simp)
  have h10 : get e 10 = .bool b10 := he (10, _) (by simp)
  have hs : get e 57 = .bool b3 := he (57, _) (by simp)
  clear he
  simp only [List.drop_succ_cons, List.drop_zero]
  refine Hi 6 (Slots n Hc [(1, aI pv), (4, .ptr g 0), (9, aI k), (10, .bool b10), (73, .bool b4)]) ?_ (Slots.cut fun e he => ?_)
  · simp only [List.take_succ_cons, List.take_zero]
    clear hT hF hb
    cases b3
    · by_cases k3 : k < 3
      · by_cases he1 : eb = []
        · subst he1; rw [pz3] at hb4
          by_cases he2 : ee = []
          · subst he2; rw [pz3] at hb4; simp at hb4; subst hb4
            simp -implicitDefEqProofs [-getElem?_pos, hgc, Slots, e1, h4, h9, h10, hs, AX, k3]
          · obtain ⟨p1, p2, p3⟩ := pq he2
            rw [p1] at hb4; simp [k3] at hb4; subst hb4
            simp -implicitDefEqProofs [-getElem?_pos, hgc, Slots, e1, h4, h9, h10, hs, AX, k3, p2, p3]
        · obtain ⟨p1, p2, p3⟩ := pq he1
          rw [p1] at hb4; simp [k3] at hb4; subst hb4
          simp -implicitDefEqProofs [-getElem?_pos, hgc, Slots, e1, h4, h9, h10, hs, AX, k3, p2, p3]
      · simp [k3] at hb4; subst hb4
        simp -implicitDefEqProofs [-getElem?_pos, hgc, Slots, e1, h4, h9, h10, hs, AX, k3]
    · simp at hb4; subst hb4
      simp -implicitDefEqProofs [-getElem?_pos, hgc, Slots, e1, h4, h9, h10, hs, AX]
  clear e1 h4 h9 h10 hs hb4
  have e1 : get e 1 = aI pv := he (1, _) (by simp)
  have h4 : get e 4 = .ptr g 0 := he (4, _) (by simp)
  have h9 : get e 9 = aI k := he (9, _) (by simp)
  have h10 : get e 10 = .bool b10 := he (10, _) (by simp)
  have hs : get e 73 = .bool b4 := he (73, _) (by simp)
  clear he
  simp only [List.drop_succ_cons, List.drop_zero]
  cases b4
  · cases b10
    · simp at hb
      subst hb
      simp -implicitDefEqProofs [-getElem?_pos, hgc, Slots, e1, h4, h9, h10, hs, AX]
      exact hF rfl _ (by simp [get, h4, AX]) (by simp [get, h9, AX]) (by simp [get, h10, AX])
    · by_cases hp : pv = k
      · simp [hp] at hb
        subst hb
        simp -implicitDefEqProofs [-getElem?_pos, hgc, Slots, e1, h4, h9, h10, hs, AX, hp]
        exact hT rfl _
      · simp [hp] at hb
        subst hb
        simp -implicitDefEqProofs [-getElem?_pos, hgc, Slots, e1, h4, h9, h10, hs, AX, hp]
        exact hF rfl _ (by simp [get, h4, AX]) (by simp [get, h9, AX]) (by simp [get, h10, AX])
  · simp at hb
    subst hb
    simp -implicitDefEqProofs [-getElem?_pos, hgc, Slots, e1, h4, h9, h10, hs, AX]
    exact hT rfl _
set_option maxRecDepth 20000 in
theorem Wp (pv : Int) (i d : Nat) (k : Int) (t nm : AM) (pa : List AM) (fs : List (AM × Int)) (b e : List Pt) (hpa : ∀ s ∈ pa, s.length ≤ 2000000) (hpl : pa.length ≤ 2000000) (hn : nm.length ≤ 2000000) (hf : fs.length ≤ 2000000) (hb : b.length ≤ 2000000) (he : e.length ≤ 2000000) :
    APure Tryz.prog 66 [Dw (.mk k t nm pa fs b e), aI pv, aI i, aI d] (aI (Ee pv i d k t nm pa fs b e)) := by
  have h1 := Kr nm hn
  have h2 := VH pa hpa (by omega)
  have hlb := BY b
  have hle := BY e
  have hF := Pg pv k t nm pa fs b e
  have hM : Np k nm pa fs = if (k = 4 ∧ HS nm = false) ∨ (k ≠ 1 ∧ DN pa = false) then 7 else if 8 < fs.length then 2 else H6 0 fs := rfl
  rw [CO]
  unfold Ee
  rw [← HI hlb, ← HI hle] at hF
  generalize AN b = eb at *
  generalize AN e = ee at *
  obtain ⟨z8, hz8⟩ : ∃ z, (if 8 < fs.length then 2 else H6 0 fs) = z := ⟨_, rfl⟩
  rw [hz8] at hM
  generalize HS nm = b1 at *
  generalize DN pa = b2 at *
  generalize Np k nm pa fs = M at *
  generalize M7 pv k t nm pa fs b e = ff at *
  obtain ⟨z, hz⟩ : ∃ z, (if 200 ≤ i then 2 else if 16 < d then 25 else if k < 1 ∨ 4 < k then 5 else if ff = true then 6 else M) = z := ⟨_, rfl⟩
  rw [hz]
  refine A7 Tryz.func66 XY rfl fun n H hH => ?_
  have fin8 : ∀ g en, n ≤ g → get en 4 = .ptr g 0 → aw Tryz.prog c66_k8 (ID (aI z8) n H c66.res) ⟨en, g + 1, upd H g (some (.cells 55 [aI k, .str t, .str nm, Gp pa, Ea fs, .sl 7 eb .ro, .sl 7 ee .ro]))⟩ := by
    clear h1 h2 hF hM hz
    intro g en hg hen
    by_cases h8 : (8 : Int) < fs.length
    · rw [if_pos (by omega)] at hz8
      subst hz8
      
      repeat' (first | (simp -implicitDefEqProofs [C6, Br, C1, CD, Bo, Bu, C4, CB, As, BN, BF, Aj, c66, -getElem?_pos, hen, h8]) | (simp (disch := omega) only [AF]) | (with_reducible first | refine A6 ?_ ?_ ?_ | exact AC | refine SameB.upd ?_ ?_ _ | assumption | refine A2 ?_ | refine KM.of ?_ | refine AE ?_ | refine A5 ?_ | refine A8 ?_ | intro _g _hg | refine AD ?_ ?_ | intro _hc) | omega)
      all_goals exact A1 _
    · rw [if_neg (by omega)] at hz8
      
      repeat' (first | (simp -implicitDefEqProofs [C6, Br, C1, CD, Bo, Bu, C4, CB, As, BN, BF, Aj, c66, -getElem?_pos, hen, h8]) | (simp (disch := omega) only [AF]) | (with_reducible first | refine A6 ?_ ?_ ?_ | exact AC | refine SameB.upd ?_ ?_ _ | assumption | refine A2 ?_ | refine KM.of ?_ | refine AE ?_ | refine A5 ?_ | refine A8 ?_ | intro _g _hg | refine AD ?_ ?_ | intro _hc) | omega)
      refine LoopK.go (fun m st => ∃ (j : Nat), j + m = fs.length ∧ st = ⟨[(4, .ptr g 0), (11, aI j)], g + 1, upd H g (some (.cells 55 [aI k, .str t, .str nm, Gp pa, Ea fs, .sl 7 eb .ro, .sl 7 ee .ro]))⟩ ∧ z8 = H6 j (fs.drop j)) fs.length ⟨0, by omega, rfl, hz8.symm⟩ ?_
      rintro m st ⟨j, hjm, rfl, hE⟩ J hJ
      clear hz8 hen
      by_cases hj : j < fs.length
      · obtain ⟨x, hx⟩ : ∃ x, fs[j]? = some x := ⟨_, List.getElem?_eq_getElem hj⟩
        have hx2 := NO hx
        have hj' : (j : Int) < fs.length := by omega
        rw [drop_at hx, H6] at hE
        have hk3 := HR x.1
        have hfk := Re x.1
        have hin := YC x.2 0 200
        obtain ⟨a, v⟩ := x
        simp only at hk3 hfk hin
        change z8 = if HV a = 0 then 5 else if (v < 0 ∨ 200 < v) ∨ HV a = 1 ∧ v ≠ 0 then 4 else if 0 < j ∧ a = [106, 115, 111, 110] then 11 else H6 (j + 1) (fs.drop (j + 1)) at hE
        generalize HV a = c at *
        by_cases hc0 : c = 0
        · subst hc0
          simp only [if_true] at hE
          
          repeat' (first | (simp -implicitDefEqProofs [C6, Br, C1, CD, Bo, Bu, C4, CB, As, BN, BF, Aj, c66, -getElem?_pos, hx2, hj']) | (simp (disch := omega) only [AF]) | ((with_reducible refine AH 37 ?_); (refine' CallP.sf ?_ (hfk) ?_); (focus first | (with_reducible exact A0 _) | (simp [AA, A9, A1, A0]; done))) | ((with_reducible refine AH 104 ?_); (refine' CallP.sf ?_ (hin) ?_); (focus first | (with_reducible exact A0 _) | (simp [AA, A9, A1, A0]; done))) | (with_reducible first | refine A6 ?_ ?_ ?_ | exact AC | refine SameB.upd ?_ ?_ _ | assumption | refine A2 ?_ | refine KM.of ?_ | refine AE ?_ | refine A5 ?_ | refine A8 ?_ | intro _g _hg | refine AD ?_ ?_ | intro _hc) | omega)
          all_goals (refine AY ?_; rw [hE])
        · rw [if_neg hc0] at hE
          by_cases hv : 0 ≤ v ∧ v ≤ 200
          · have hvb : (decide (0 ≤ v) && decide (v ≤ 200)) = true := by simp [hv]
            rw [hvb] at hin
            by_cases hc1 : c = 1
            · subst hc1
              by_cases v0 : v = 0
              · subst v0
                rw [if_neg (by omega)] at hE
                by_cases hjn : 0 < j ∧ a = [106, 115, 111, 110]
                · obtain ⟨j1, j2⟩ := hjn
                  have j1' : (0 : Int) < j := by omega
                  subst j2
                  have hE : z8 = 11 := by rw [hE, if_pos ⟨j1, rfl⟩]
                  
                  repeat' (first | (simp -implicitDefEqProofs [C6, Br, C1, CD, Bo, Bu, C4, CB, As, BN, BF, Aj, c66, -getElem?_pos, hx2, hj', j1, j1']) | (simp (disch := omega) only [AF]) | ((with_reducible refine AH 37 ?_); (refine' CallP.sf ?_ (hfk) ?_); (focus first | (with_reducible exact A0 _) | (simp [AA, A9, A1, A0]; done))) | ((with_reducible refine AH 104 ?_); (refine' CallP.sf ?_ (hin) ?_); (focus first | (with_reducible exact A0 _) | (simp [AA, A9, A1, A0]; done))) | (with_reducible first | refine A6 ?_ ?_ ?_ | exact AC | refine SameB.upd ?_ ?_ _ | assumption | refine A2 ?_ | refine KM.of ?_ | refine AE ?_ | refine A5 ?_ | refine A8 ?_ | intro _g _hg | refine AD ?_ ?_ | intro _hc) | omega)
                  all_goals (refine AY ?_; rw [hE])
                · rw [if_neg hjn] at hE
                  by_cases j2 : a = [106, 115, 111, 110]
                  · have j1 : ¬ 0 < j := fun h => hjn ⟨h, j2⟩
                    have j1' : ¬ (0 : Int) < j := by omega
                    have j0 : j = 0 := by omega
                    subst j2
                    subst j0
                    have hz1 : (0 : Int) < fs.length := hj'
                    have hz2 : ¬ fs = [] := fun e => by rw [e] at hj; simp at hj
                    
                    repeat' (first | (simp -implicitDefEqProofs [C6, Br, C1, CD, Bo, Bu, C4, CB, As, BN, BF, Aj, c66, -getElem?_pos, hx2, hj', hz1, hz2]) | (simp (disch := omega) only [AF]) | ((with_reducible refine AH 37 ?_); (refine' CallP.sf ?_ (hfk) ?_); (focus first | (with_reducible exact A0 _) | (simp [AA, A9, A1, A0]; done))) | ((with_reducible refine AH 104 ?_); (refine' CallP.sf ?_ (hin) ?_); (focus first | (with_reducible exact A0 _) | (simp [AA, A9, A1, A0]; done))) | (with_reducible first | refine A6 ?_ ?_ ?_ | exact AC | refine SameB.upd ?_ ?_ _ | assumption | refine A2 ?_ | refine KM.of ?_ | refine AE ?_ | refine A5 ?_ | refine A8 ?_ | intro _g _hg | refine AD ?_ ?_ | intro _hc) | omega)
                    exact hJ (m - 1) _ (by omega) ⟨1, by omega, rfl, hE⟩
                  · 
                    repeat' (first | (simp -implicitDefEqProofs [C6, Br, C1, CD, Bo, Bu, C4, CB, As, BN, BF, Aj, c66, -getElem?_pos, hx2, hj', j2]) | (simp (disch := omega) only [AF]) | ((with_reducible refine AH 37 ?_); (refine' CallP.sf ?_ (hfk) ?_); (focus first | (with_reducible exact A0 _) | (simp [AA, A9, A1, A0]; done))) | ((with_reducible refine AH 104 ?_); (refine' CallP.sf ?_ (hin) ?_); (focus first | (with_reducible exact A0 _) | (simp [AA, A9, A1, A0]; done))) | (with_reducible first | refine A6 ?_ ?_ ?_ | exact AC | refine SameB.upd ?_ ?_ _ | assumption | refine A2 ?_ | refine KM.of ?_ | refine AE ?_ | refine A5 ?_ | refine A8 ?_ | intro _g _hg | refine AD ?_ ?_ | intro _hc) | omega)
                    all_goals exact hJ (m - 1) _ (by omega) ⟨j + 1, by omega, rfl, hE⟩
              · rw [if_pos (by omega)] at hE
                
                repeat' (first | (simp -implicitDefEqProofs [C6, Br, C1, CD, Bo, Bu, C4, CB, As, BN, BF, Aj, c66, -getElem?_pos, hx2, hj', v0]) | (simp (disch := omega) only [AF]) | ((with_reducible refine AH 37 ?_); (refine' CallP.sf ?_ (hfk) ?_); (focus first | (with_reducible exact A0 _) | (simp [AA, A9, A1, A0]; done))) | ((with_reducible refine AH 104 ?_); (refine' CallP.sf ?_ (hin) ?_); (focus first | (with_reducible exact A0 _) | (simp [AA, A9, A1, A0]; done))) | (with_reducible first | refine A6 ?_ ?_ ?_ | exact AC | refine SameB.upd ?_ ?_ _ | assumption | refine A2 ?_ | refine KM.of ?_ | refine AE ?_ | refine A5 ?_ | refine A8 ?_ | intro _g _hg | refine AD ?_ ?_ | intro _hc) | omega)
                all_goals (refine AY ?_; rw [hE])
            · have hc2 : c = 2 := by omega
              subst hc2
              rw [if_neg (by omega)] at hE
              by_cases hjn : 0 < j ∧ a = [106, 115, 111, 110]
              · obtain ⟨j1, j2⟩ := hjn
                have j1' : (0 : Int) < j := by omega
                subst j2
                have hE : z8 = 11 := by rw [hE, if_pos ⟨j1, rfl⟩]
                
                repeat' (first | (simp -implicitDefEqProofs [C6, Br, C1, CD, Bo, Bu, C4, CB, As, BN, BF, Aj, c66, -getElem?_pos, hx2, hj', j1, j1']) | (simp (disch := omega) only [AF]) | ((with_reducible refine AH 37 ?_); (refine' CallP.sf ?_ (hfk) ?_); (focus first | (with_reducible exact A0 _) | (simp [AA, A9, A1, A0]; done))) | ((with_reducible refine AH 104 ?_); (refine' CallP.sf ?_ (hin) ?_); (focus first | (with_reducible exact A0 _) | (simp [AA, A9, A1, A0]; done))) | (with_reducible first | refine A6 ?_ ?_ ?_ | exact AC | refine SameB.upd ?_ ?_ _ | assumption | refine A2 ?_ | refine KM.of ?_ | refine AE ?_ | refine A5 ?_ | refine A8 ?_ | intro _g _hg | refine AD ?_ ?_ | intro _hc) | omega)
                all_goals (refine AY ?_; rw [hE])
              · rw [if_neg hjn] at hE
                by_cases j2 : a = [106, 115, 111, 110]
                · have j1 : ¬ 0 < j := fun h => hjn ⟨h, j2⟩
                  have j1' : ¬ (0 : Int) < j := by omega
                  have j0 : j = 0 := by omega
                  subst j2
                  subst j0
                  have hz1 : (0 : Int) < fs.length := hj'
                  have hz2 : ¬ fs = [] := fun e => by rw [e] at hj; simp at hj
                  
                  repeat' (first | (simp -implicitDefEqProofs [C6, Br, C1, CD, Bo, Bu, C4, CB, As, BN, BF, Aj, c66, -getElem?_pos, hx2, hj', hz1, hz2]) | (simp (disch := omega) only [AF]) | ((with_reducible refine AH 37 ?_); (refine' CallP.sf ?_ (hfk) ?_); (focus first | (with_reducible exact A0 _) | (simp [AA, A9, A1, A0]; done))) | ((with_reducible refine AH 104 ?_); (refine' CallP.sf ?_ (hin) ?_); (focus first | (with_reducible exact A0 _) | (simp [AA, A9, A1, A0]; done))) | (with_reducible first | refine A6 ?_ ?_ ?_ | exact AC | refine SameB.upd ?_ ?_ _ | assumption | refine A2 ?_ | refine KM.of ?_ | refine AE ?_ | refine A5 ?_ | refine A8 ?_ | intro _g _hg | refine AD ?_ ?_ | intro _hc) | omega)
                  exact hJ (m - 1) _ (by omega) ⟨1, by omega, rfl, hE⟩
                · 
                  repeat' (first | (simp -implicitDefEqProofs [C6, Br, C1, CD, Bo, Bu, C4, CB, As, BN, BF, Aj, c66, -getElem?_pos, hx2, hj', j2]) | (simp (disch := omega) only [AF]) | ((with_reducible refine AH 37 ?_); (refine' CallP.sf ?_ (hfk) ?_); (focus first | (with_reducible exact A0 _) | (simp [AA, A9, A1, A0]; done))) | ((with_reducible refine AH 104 ?_); (refine' CallP.sf ?_ (hin) ?_); (focus first | (with_reducible exact A0 _) | (simp [AA, A9, A1, A0]; done))) | (with_reducible first | refine A6 ?_ ?_ ?_ | exact AC | refine SameB.upd ?_ ?_ _ | assumption | refine A2 ?_ | refine KM.of ?_ | refine AE ?_ | refine A5 ?_ | refine A8 ?_ | intro _g _hg | refine AD ?_ ?_ | intro _hc) | omega)
                  all_goals exact hJ (m - 1) _ (by omega) ⟨j + 1, by omega, rfl, hE⟩
          · have hvb : (decide (0 ≤ v) && decide (v ≤ 200)) = false := by
              simp only [Bool.and_eq_false_iff, decide_eq_false_iff_not]; omega
            rw [hvb] at hin
            rw [if_pos (by omega)] at hE
            have hcb : ((c : Int) == 0) = false := by simpa using hc0
            
            repeat' (first | (simp -implicitDefEqProofs [C6, Br, C1, CD, Bo, Bu, C4, CB, As, BN, BF, Aj, c66, -getElem?_pos, hx2, hj', hc0, hcb]) | (simp (disch := omega) only [AF]) | ((with_reducible refine AH 37 ?_); (refine' CallP.sf ?_ (hfk) ?_); (focus first | (with_reducible exact A0 _) | (simp [AA, A9, A1, A0]; done))) | ((with_reducible refine AH 104 ?_); (refine' CallP.sf ?_ (hin) ?_); (focus first | (with_reducible exact A0 _) | (simp [AA, A9, A1, A0]; done))) | (with_reducible first | refine A6 ?_ ?_ ?_ | exact AC | refine SameB.upd ?_ ?_ _ | assumption | refine A2 ?_ | refine KM.of ?_ | refine AE ?_ | refine A5 ?_ | refine A8 ?_ | intro _g _hg | refine AD ?_ ?_ | intro _hc) | omega)
            all_goals (refine AY ?_; rw [hE])
      · have hj0 : j = fs.length := by omega
        subst hj0
        have hj' : ¬ (fs.length : Int) < fs.length := by omega
        rw [List.drop_length] at hE
        rw [hE]
        
        repeat' (first | (simp -implicitDefEqProofs [C6, Br, C1, CD, Bo, Bu, C4, CB, As, BN, BF, Aj, c66, -getElem?_pos, hj', H6]) | (simp (disch := omega) only [AF]) | (with_reducible first | refine A6 ?_ ?_ ?_ | exact AC | refine SameB.upd ?_ ?_ _ | assumption | refine A2 ?_ | refine KM.of ?_ | refine AE ?_ | refine A5 ?_ | refine A8 ?_ | intro _g _hg | refine AD ?_ ?_ | intro _hc) | omega)
        all_goals exact A1 _
  have fin9 : ∀ g en, n ≤ g → get en 4 = .ptr g 0 → get en 9 = aI k → get en 10 = .bool (k == 1) → aw Tryz.prog c66_k9 (ID (aI M) n H c66.res) ⟨en, g + 1, upd H g (some (.cells 55 [aI k, .str t, .str nm, Gp pa, Ea fs, .sl 7 eb .ro, .sl 7 ee .ro]))⟩ := by
    clear hF hz
    intro g en hg h4 h9 h10
    by_cases k4 : k = 4
    · subst k4
      have e10 : get en 10 = .bool false := h10
      cases b1
      · rw [if_pos (.inl ⟨rfl, rfl⟩)] at hM
        subst hM
        
        repeat' (first | (simp -implicitDefEqProofs [c66, As, -getElem?_pos, h4, h9, e10]) | (simp (disch := omega) only [AF]) | ((with_reducible refine AH 105 ?_); (refine' CallP.sf ?_ (h1) ?_); (focus first | (with_reducible exact A0 _) | (simp [AA, A9, A1, A0]; done))) | ((with_reducible refine AH 106 ?_); (refine' CallP.sf ?_ (h2) ?_); (focus first | (with_reducible exact A0 _) | (simp [AA, A9, A1, A0]; done))) | (with_reducible first | refine A6 ?_ ?_ ?_ | exact AC | refine SameB.upd ?_ ?_ _ | assumption | refine A2 ?_ | refine KM.of ?_ | refine AE ?_ | refine A5 ?_ | refine A8 ?_ | intro _g _hg | refine AD ?_ ?_ | intro _hc) | omega)
        all_goals exact A1 _
      · cases b2
        · rw [if_pos (.inr ⟨by decide, rfl⟩)] at hM
          subst hM
          
          repeat' (first | (simp -implicitDefEqProofs [c66, As, -getElem?_pos, h4, h9, e10]) | (simp (disch := omega) only [AF]) | ((with_reducible refine AH 105 ?_); (refine' CallP.sf ?_ (h1) ?_); (focus first | (with_reducible exact A0 _) | (simp [AA, A9, A1, A0]; done))) | ((with_reducible refine AH 106 ?_); (refine' CallP.sf ?_ (h2) ?_); (focus first | (with_reducible exact A0 _) | (simp [AA, A9, A1, A0]; done))) | (with_reducible first | refine A6 ?_ ?_ ?_ | exact AC | refine SameB.upd ?_ ?_ _ | assumption | refine A2 ?_ | refine KM.of ?_ | refine AE ?_ | refine A5 ?_ | refine A8 ?_ | intro _g _hg | refine AD ?_ ?_ | intro _hc) | omega)
          all_goals exact A1 _
        · rw [if_neg (by simp)] at hM
          subst hM
          
          repeat' (first | (simp -implicitDefEqProofs [c66, As, -getElem?_pos, h4, h9, e10]) | (simp (disch := omega) only [AF]) | ((with_reducible refine AH 105 ?_); (refine' CallP.sf ?_ (h1) ?_); (focus first | (with_reducible exact A0 _) | (simp [AA, A9, A1, A0]; done))) | ((with_reducible refine AH 106 ?_); (refine' CallP.sf ?_ (h2) ?_); (focus first | (with_reducible exact A0 _) | (simp [AA, A9, A1, A0]; done))) | (with_reducible first | refine A6 ?_ ?_ ?_ | exact AC | refine SameB.upd ?_ ?_ _ | assumption | refine A2 ?_ | refine KM.of ?_ | refine AE ?_ | refine A5 ?_ | refine A8 ?_ | intro _g _hg | refine AD ?_ ?_ | intro _hc) | omega)
          exact fin8 _ _ hg (by simp [get, h4])
    · by_cases k1 : k = 1
      · subst k1
        have e10 : get en 10 = .bool true := h10
        rw [if_neg (by simp)] at hM
        subst hM
        
        repeat' (first | (simp -implicitDefEqProofs [c66, As, -getElem?_pos, h4, h9, e10]) | (simp (disch := omega) only [AF]) | ((with_reducible refine AH 105 ?_); (refine' CallP.sf ?_ (h1) ?_); (focus first | (with_reducible exact A0 _) | (simp [AA, A9, A1, A0]; done))) | ((with_reducible refine AH 106 ?_); (refine' CallP.sf ?_ (h2) ?_); (focus first | (with_reducible exact A0 _) | (simp [AA, A9, A1, A0]; done))) | (with_reducible first | refine A6 ?_ ?_ ?_ | exact AC | refine SameB.upd ?_ ?_ _ | assumption | refine A2 ?_ | refine KM.of ?_ | refine AE ?_ | refine A5 ?_ | refine A8 ?_ | intro _g _hg | refine AD ?_ ?_ | intro _hc) | omega)
        exact fin8 _ _ hg (by simp [get, h4])
      · have hkb : (k == 1) = false := by simpa using k1
        have e10 : get en 10 = .bool false := by rw [h10, hkb]
        cases b2
        · rw [if_pos (.inr ⟨k1, rfl⟩)] at hM
          subst hM
          
          repeat' (first | (simp -implicitDefEqProofs [c66, As, -getElem?_pos, h4, h9, e10, k4]) | (simp (disch := omega) only [AF]) | ((with_reducible refine AH 105 ?_); (refine' CallP.sf ?_ (h1) ?_); (focus first | (with_reducible exact A0 _) | (simp [AA, A9, A1, A0]; done))) | ((with_reducible refine AH 106 ?_); (refine' CallP.sf ?_ (h2) ?_); (focus first | (with_reducible exact A0 _) | (simp [AA, A9, A1, A0]; done))) | (with_reducible first | refine A6 ?_ ?_ ?_ | exact AC | refine SameB.upd ?_ ?_ _ | assumption | refine A2 ?_ | refine KM.of ?_ | refine AE ?_ | refine A5 ?_ | refine A8 ?_ | intro _g _hg | refine AD ?_ ?_ | intro _hc) | omega)
          all_goals exact A1 _
        · rw [if_neg (by simp [k4])] at hM
          subst hM
          
          repeat' (first | (simp -implicitDefEqProofs [c66, As, -getElem?_pos, h4, h9, e10, k4]) | (simp (disch := omega) only [AF]) | ((with_reducible refine AH 105 ?_); (refine' CallP.sf ?_ (h1) ?_); (focus first | (with_reducible exact A0 _) | (simp [AA, A9, A1, A0]; done))) | ((with_reducible refine AH 106 ?_); (refine' CallP.sf ?_ (h2) ?_); (focus first | (with_reducible exact A0 _) | (simp [AA, A9, A1, A0]; done))) | (with_reducible first | refine A6 ?_ ?_ ?_ | exact AC | refine SameB.upd ?_ ?_ _ | assumption | refine A2 ?_ | refine KM.of ?_ | refine AE ?_ | refine A5 ?_ | refine A8 ?_ | intro _g _hg | refine AD ?_ ?_ | intro _hc) | omega)
          exact fin8 _ _ hg (by simp [get, h4])
  clear fin8
  have fin10 : 1 ≤ k ∧ k ≤ 4 → ∀ g en, n ≤ g → get en 1 = aI pv → get en 4 = .ptr g 0 → get en 9 = aI k → aw Tryz.prog c66_k10 (ID (aI (if ff = true then 6 else M)) n H c66.res) ⟨en, g + 1, upd H g (some (.cells 55 [aI k, .str t, .str nm, Gp pa, Ea fs, .sl 7 eb .ro, .sl 7 ee .ro]))⟩ := by
    clear hz h1 h2 hM
    intro hk14 g en hg e1 h4 h9
    have hb : ff = (((((decide (k = 1) == decide (t = [])) || (decide (k = 1) && BW pa)) || (decide (k ≠ 4) && decide (nm ≠ []))) || (decide (k ≠ 2) && BW fs)) || (decide (k < 3) && (BW eb || BW ee)) || (decide (k = 1) && decide (pv = k))) := by
      rw [hF]
      unfold Q4
      by_cases k1 : k = 1
      · subst k1
        generalize decide (t = []) = x1
        generalize decide (nm ≠ []) = x2
        generalize BW pa = x3
        generalize BW fs = x4
        generalize BW eb = x5
        generalize BW ee = x6
        generalize decide (pv = 1) = x7
        revert x1 x2 x3 x4 x5 x6 x7
        decide
      · simp only [k1, decide_false, Bool.false_and, Bool.or_false]
    refine VK k pv t nm pa fs eb ee g (g + 1) _ (Ay _ _ _) en e1 h4 h9 _ ff hb (fun h e => ?_) (fun h e q1 q2 q3 => ?_)
    · rw [if_pos h]
      exact ⟨⟨_, rfl, A1 _⟩, by simp only; omega, (SameB.rfl_ n H).upd hg _⟩
    · rw [if_neg (by rw [h]; simp)]
      exact fin9 _ _ hg q1 q2 q3
  clear fin9
  have hin := YC k 1 4
  by_cases g1 : (200 : Int) ≤ i
  · rw [if_pos (by omega)] at hz
    subst hz
    repeat' (first | (simp -implicitDefEqProofs [c66, Aj, -getElem?_pos, g1]) | (simp (disch := omega) only [AF]) | ((with_reducible refine AH 104 ?_); (refine' CallP.sf ?_ (hin) ?_); (focus first | (with_reducible exact A0 _) | (simp [AA, A9, A1, A0]; done))) | (with_reducible first | refine A6 ?_ ?_ ?_ | exact AC | refine SameB.upd ?_ ?_ _ | assumption | refine A2 ?_ | refine KM.of ?_ | refine AE ?_ | refine A5 ?_ | refine A8 ?_ | intro _g _hg | refine AD ?_ ?_ | intro _hc) | omega)
    all_goals exact A1 _
  · rw [if_neg (by omega)] at hz
    by_cases g2 : (16 : Int) < d
    · rw [if_pos (by omega)] at hz
      subst hz
      repeat' (first | (simp -implicitDefEqProofs [c66, Aj, -getElem?_pos, g1, g2]) | (simp (disch := omega) only [AF]) | ((with_reducible refine AH 104 ?_); (refine' CallP.sf ?_ (hin) ?_); (focus first | (with_reducible exact A0 _) | (simp [AA, A9, A1, A0]; done))) | (with_reducible first | refine A6 ?_ ?_ ?_ | exact AC | refine SameB.upd ?_ ?_ _ | assumption | refine A2 ?_ | refine KM.of ?_ | refine AE ?_ | refine A5 ?_ | refine A8 ?_ | intro _g _hg | refine AD ?_ ?_ | intro _hc) | omega)
      all_goals exact A1 _
    · rw [if_neg (by omega)] at hz
      by_cases g3 : k < 1 ∨ 4 < k
      · rw [if_pos g3] at hz
        subst hz
        have hib : (decide (1 ≤ k) && decide (k ≤ 4)) = false := by
          simp only [Bool.and_eq_false_iff, decide_eq_false_iff_not]; omega
        rw [hib] at hin
        repeat' (first | (simp -implicitDefEqProofs [c66, Aj, BF, -getElem?_pos, g1, g2]) | (simp (disch := omega) only [AF]) | ((with_reducible refine AH 104 ?_); (refine' CallP.sf ?_ (hin) ?_); (focus first | (with_reducible exact A0 _) | (simp [AA, A9, A1, A0]; done))) | (with_reducible first | refine A6 ?_ ?_ ?_ | exact AC | refine SameB.upd ?_ ?_ _ | assumption | refine A2 ?_ | refine KM.of ?_ | refine AE ?_ | refine A5 ?_ | refine A8 ?_ | intro _g _hg | refine AD ?_ ?_ | intro _hc) | omega)
        all_goals exact A1 _
      · rw [if_neg g3] at hz
        have hib : (decide (1 ≤ k) && decide (k ≤ 4)) = true := by
          simp only [Bool.and_eq_true, decide_eq_true_eq]; omega
        rw [hib] at hin
        subst hz
        repeat' (first | (simp -implicitDefEqProofs [c66, Aj, BF, -getElem?_pos, g1, g2]) | (simp (disch := omega) only [AF]) | ((with_reducible refine AH 104 ?_); (refine' CallP.sf ?_ (hin) ?_); (focus first | (with_reducible exact A0 _) | (simp [AA, A9, A1, A0]; done))) | (with_reducible first | refine A6 ?_ ?_ ?_ | exact AC | refine SameB.upd ?_ ?_ _ | assumption | refine A2 ?_ | refine KM.of ?_ | refine AE ?_ | refine A5 ?_ | refine A8 ?_ | intro _g _hg | refine AD ?_ ?_ | intro _hc) | omega)
        exact fin10 (by omega) _ _ (by assumption) rfl rfl rfl
def UX (l : List Pt) (el : List AV) : Prop := ∀ (i d : Nat), i ≤ 200 → d ≤ 100 → APure Tryz.prog 32 [.sl 7 el .ro, aI i, aI d] (.tup [aI ((BC 0 i d l).1 : Nat), aI (BC 0 i d l).2])
theorem QL (l : List Pt) (hl : l.length ≤ 2000000) (hs : Ec l) (hp : ∀ x ∈ l, UX x.b (AN x.b) ∧ UX x.e (AN x.e)) : UX l (AN l) := by
  intro i0 d hi0 hd
  have hel := BY l
  obtain ⟨R, hR⟩ : ∃ R, BC 0 i0 d l = R := ⟨_, rfl⟩
  rw [hR]
  refine A7 Tryz.func32 YF rfl fun n H hH => ?_
  repeat' (first | (simp -implicitDefEqProofs [c32, -getElem?_pos, hel]) | (simp (disch := omega) only [AF]) | (with_reducible first | refine A6 ?_ ?_ ?_ | exact AC | refine SameB.upd ?_ ?_ _ | assumption | refine A2 ?_ | refine KM.of ?_ | refine AE ?_ | intro _g _hg | refine AD ?_ ?_ | intro _hc) | omega)
  refine LoopK.go (fun m st => ∃ (i c : Nat), i + m = l.length ∧ st = ⟨[(0, Dx l), (1, aI c), (2, aI d), (8, aI (QB l i)), (9, aI i)], n, H⟩ ∧ c ≤ 200 ∧ BC (QB l i) c d (l.drop i) = R) l.length ⟨0, i0, by omega, rfl, hi0, hR⟩ ?_
  rintro m st ⟨i, c, him, rfl, hc, hE⟩ J hJ
  clear hR
  by_cases hi : i < l.length
  · obtain ⟨x, hx⟩ : ∃ x, l[i]? = some x := ⟨_, List.getElem?_eq_getElem hi⟩
    have hx2 := F7 hx
    have hi' : (i : Int) < l.length := by omega
    have hks := PV hx
    rw [drop_at hx] at hE
    have hsx := DO hs (List.mem_of_getElem? hx)
    obtain ⟨cb, ce⟩ := hp x (List.mem_of_getElem? hx)
    obtain ⟨k, t, nm, pa, fs, b, e⟩ := x
    simp only [Me] at hsx
    obtain ⟨s1, s2, s3, s4, s5, s6, s7, s8, s9⟩ := hsx
    change UX b (AN b) at cb
    change UX e (AN e) at ce
    change QB l (i + 1) = k at hks
    have hpf := Wp (QB l i) c d k t nm pa fs b e s4 s3 s2 s5 s6 s7
    rw [CO] at hx2 hpf
    clear hx hp
    rw [BC, ET] at hE
    generalize AN b = eb at *
    generalize AN e = ee at *
    generalize QB l i = pv at *
    by_cases hP : Ee pv c d k t nm pa fs b e = 0
    · have hcd : c < 200 ∧ d ≤ 16 := by
        unfold Ee at hP
        by_cases h1 : 200 ≤ c
        · rw [if_pos h1] at hP; cases hP
        · by_cases h2 : 16 < d
          · rw [if_neg h1, if_pos h2] at hP; cases hP
          · omega
      obtain ⟨hc2, hd2⟩ := hcd
      simp only [hP, ne_eq, not_true, if_false] at hE
      rw [hP] at hpf
      have hB2 := EC b 0 (c + 1) (d + 1) (by omega)
      have cb1 := cb (c + 1) (d + 1) (by omega) (by omega)
      generalize BC 0 (c + 1) (d + 1) b = B at *
      have hcc : ((c + 1 : Nat) : Int) = (c : Int) + 1 := by omega
      have hdd : ((d + 1 : Nat) : Int) = (d : Int) + 1 := by omega
      rw [hcc, hdd] at cb1
      by_cases hB0 : B.2 = 0
      · have hB3 := hB2 hB0
        have hE2 := EC e 0 B.1 (d + 1) (by omega)
        have ce1 := ce B.1 (d + 1) (by omega) (by omega)
        rw [hdd] at ce1
        rw [hB0] at cb1
        simp only [hB0, ne_eq, not_true, if_false] at hE
        generalize BC 0 B.1 (d + 1) e = E at *
        by_cases hE0 : E.2 = 0
        · have hE3 := hE2 hE0
          simp only [hE0, ne_eq, not_true, if_false] at hE
          rw [hE0] at ce1
          
          repeat' (first | (simp -implicitDefEqProofs [Ej, F8, F0, Eh, Eu, Et, FA, c32, -getElem?_pos, splice, hel, hx2, hi']) | (simp (disch := omega) only [AF]) | ((with_reducible refine AH 66 ?_); (refine' CallP.sf ?_ (hpf) ?_); (focus first | (with_reducible exact A0 _) | (simp [AA, A9, A1, A0]; done))) | ((with_reducible refine AH 32 ?_); (refine' CallP.sf ?_ (cb1) ?_); (focus first | (with_reducible exact A0 _) | (simp [AA, A9, A1, A0]; done))) | ((with_reducible refine AH 32 ?_); (refine' CallP.sf ?_ (ce1) ?_); (focus first | (with_reducible exact A0 _) | (simp [AA, A9, A1, A0]; done))) | (with_reducible first | refine A6 ?_ ?_ ?_ | exact AC | refine SameB.upd ?_ ?_ _ | assumption | refine A2 ?_ | refine KM.of ?_ | refine AE ?_ | intro _g _hg | refine AD ?_ ?_ | intro _hc) | omega)
          all_goals exact hJ (m - 1) _ (by omega) ⟨i + 1, E.1, by omega, by rw [hks]; rfl, by omega, by rw [hks]; exact hE⟩
        · have eR : R = E := by rw [← hE, if_pos hE0]
          rw [eR]
          generalize E.2 = E2 at *
          clear hE eR hJ
          
          repeat' (first | (simp -implicitDefEqProofs [Ej, F8, F0, Eh, Eu, Et, FA, c32, -getElem?_pos, splice, hel, hx2, hi', hE0]) | (simp (disch := omega) only [AF]) | ((with_reducible refine AH 66 ?_); (refine' CallP.sf ?_ (hpf) ?_); (focus first | (with_reducible exact A0 _) | (simp [AA, A9, A1, A0]; done))) | ((with_reducible refine AH 32 ?_); (refine' CallP.sf ?_ (cb1) ?_); (focus first | (with_reducible exact A0 _) | (simp [AA, A9, A1, A0]; done))) | ((with_reducible refine AH 32 ?_); (refine' CallP.sf ?_ (ce1) ?_); (focus first | (with_reducible exact A0 _) | (simp [AA, A9, A1, A0]; done))) | (with_reducible first | refine A6 ?_ ?_ ?_ | exact AC | refine SameB.upd ?_ ?_ _ | assumption | refine A2 ?_ | refine KM.of ?_ | refine AE ?_ | intro _g _hg | refine AD ?_ ?_ | intro _hc) | omega)
          all_goals exact A1 _
      · have eR : R = B := by rw [← hE]; simp only [hB0, ne_eq, not_false_eq_true, if_true]
        rw [eR]
        clear hE eR hJ hB2 ce
        generalize B.2 = B2 at *
        
        repeat' (first | (simp -implicitDefEqProofs [Ej, F8, F0, Eh, Eu, Et, FA, c32, -getElem?_pos, splice, hel, hx2, hi', hB0]) | (simp (disch := omega) only [AF]) | ((with_reducible refine AH 66 ?_); (refine' CallP.sf ?_ (hpf) ?_); (focus first | (with_reducible exact A0 _) | (simp [AA, A9, A1, A0]; done))) | ((with_reducible refine AH 32 ?_); (refine' CallP.sf ?_ (cb1) ?_); (focus first | (with_reducible exact A0 _) | (simp [AA, A9, A1, A0]; done))) | (with_reducible first | refine A6 ?_ ?_ ?_ | exact AC | refine SameB.upd ?_ ?_ _ | assumption | refine A2 ?_ | refine KM.of ?_ | refine AE ?_ | intro _g _hg | refine AD ?_ ?_ | intro _hc) | omega)
        all_goals exact A1 _
    · have eR : R = (c, Ee pv c d k t nm pa fs b e) := by
        rw [← hE, if_pos hP, if_pos (by exact hP)]
      rw [eR]
      clear hE eR hJ cb ce
      generalize Ee pv c d k t nm pa fs b e = P at *
      
      repeat' (first | (simp -implicitDefEqProofs [Ej, F8, F0, Eh, Eu, Et, FA, c32, -getElem?_pos, splice, hel, hx2, hi', hP]) | (simp (disch := omega) only [AF]) | ((with_reducible refine AH 66 ?_); (refine' CallP.sf ?_ (hpf) ?_); (focus first | (with_reducible exact A0 _) | (simp [AA, A9, A1, A0]; done))) | (with_reducible first | refine A6 ?_ ?_ ?_ | exact AC | refine SameB.upd ?_ ?_ _ | assumption | refine A2 ?_ | refine KM.of ?_ | refine AE ?_ | intro _g _hg | refine AD ?_ ?_ | intro _hc) | omega)
      all_goals exact A1 _
  · have hi0 : i = l.length := by omega
    subst hi0
    have hi' : ¬ (l.length : Int) < l.length := by omega
    rw [List.drop_length, BC] at hE
    subst hE
    clear hJ hp
    
    repeat' (first | (simp -implicitDefEqProofs [Ej, F8, F0, Eh, Eu, Et, FA, c32, -getElem?_pos, splice, hel, hi']) | (simp (disch := omega) only [AF]) | (with_reducible first | refine A6 ?_ ?_ ?_ | exact AC | refine SameB.upd ?_ ?_ _ | assumption | refine A2 ?_ | refine KM.of ?_ | refine AE ?_ | intro _g _hg | refine AD ?_ ?_ | intro _hc) | omega)
    all_goals exact A1 _
theorem YA (p : Pt) : Me p → UX p.b (AN p.b) ∧ UX p.e (AN p.e) := by
  refine Pt.ind (Q := fun p => Me p → UX p.b (AN p.b) ∧ UX p.e (AN p.e)) ?_ p
  intro k t nm pa fs b e hb he h
  simp only [Me] at h
  obtain ⟨_, _, _, _, _, h6, h7, h8, h9⟩ := h
  exact ⟨QL b h6 h8 fun x hx => hb x hx (DO h8 hx), QL e h7 h9 fun x hx => he x hx (DO h9 hx)⟩
theorem Xb (l : List Pt) (hl : l.length ≤ 2000000) (hs : Ec l) : UX l (AN l) := QL l hl hs fun x hx => YA x (DO hs hx)
theorem Vz (c : UInt8) (m : Nat) (hm : m < 256) : c = UInt8.ofNat m ↔ (c.toNat : Int) = m := by
  constructor
  · rintro rfl; simp; omega
  · intro h; apply UInt8.toNat_inj.1; simp; omega
theorem TE (g n n0 : Nat) (H : A3) (k : Int) (t nm : AM) (vp vf vb ve : AV) (hg : H g = some (.cells 55 [aI k, .str t, .str nm, vp, vf, vb, ve])) (ht : t.length ≤ 1048576) (acc : AM) (hacc : acc.length ≤ 950000000) (v0 v4 : AV) (Q : AExit → AS → Prop)
    (hQ : Q (.exit 2) ⟨[(0, v0), (3, .str (acc ++ D5 t)), (4, v4), (5, .ptr g 0), (7, aI t.length), (29, .bool false)], n, H⟩) :
    LoopK (fun Q s => aw Tryz.prog c15_L15 Q s) Q ⟨[(0, v0), (3, .str acc), (4, v4), (5, .ptr g 0), (7, aI 0)], n, H⟩ := by
  
  refine LoopK.go (fun m st => ∃ (j : Nat) (dn : AM), j + m = t.length ∧ st = ⟨[(0, v0), (3, .str (acc ++ dn)), (4, v4), (5, .ptr g 0), (7, aI j)], n, H⟩ ∧ D5 t = dn ++ D5 (t.drop j) ∧ dn.length ≤ 4 * j) t.length ⟨0, [], by omega, by simp, by simp, by simp⟩ ?_
  rintro m st ⟨j, dn, hjm, rfl, hE, hdn⟩ J hJ
  by_cases hj : j < t.length
  · obtain ⟨a, ha⟩ : ∃ a, t[j]? = some a := ⟨_, List.getElem?_eq_getElem hj⟩
    have hj' : (j : Int) < t.length := by omega
    have hda := drop_at ha
    rw [hda] at hE
    have hcut : List.drop j (List.take (j + 1) t) = [a] := by
      rw [List.take_add_one, ha, List.drop_append_of_le_length (by simp; omega), List.drop_of_length_le (by simp; omega)]; rfl
    have hal : acc.length + dn.length ≤ 960000000 := by omega
    have hal2 : (acc ++ dn).length = acc.length + dn.length := by simp
    have hk1 : ((j + 1 : Nat) : Int) = (j : Int) + 1 := by omega
    have ht1 : ((j : Int) + 1).toNat = j + 1 := by omega
    by_cases hj1 : j + 1 < t.length
    · obtain ⟨b, hb⟩ : ∃ b, t[j + 1]? = some b := ⟨_, List.getElem?_eq_getElem hj1⟩
      have hj1' : (j : Int) + 1 < t.length := by omega
      have hj1'' : (j : Int) + 1 ≤ t.length := by omega
      rw [drop_at hb] at hE
      rw [D5] at hE
      by_cases hop : a = 60 ∧ b = 37
      · rw [if_pos hop] at hE
        obtain ⟨rfl, rfl⟩ := hop
        repeat' (first | (simp -implicitDefEqProofs [B5, B3, B4, B8, B9, B6, B7, BA, B0, Ac, Ab, Ad, AZ, Ag, Ah, Ae, Ai, Aa, c15, -getElem?_pos, hg, ha, hb, hj', hj1', ht1]) | (simp (disch := omega) only [AF]) | (with_reducible first | refine A6 ?_ ?_ ?_ | exact AC | refine SameB.upd ?_ ?_ _ | assumption | refine A2 ?_ | refine KM.of ?_ | refine AE ?_ | refine A5 ?_ | refine A8 ?_ | intro _g _hg | refine AD ?_ ?_ | intro _hc) | omega)
        all_goals exact hJ (m - 2) _ (by omega) ⟨j + 2, dn ++ LW, by omega, by simp [LW]; omega, by rw [hE]; simp, by simp [LW]; omega⟩
      · rw [if_neg hop, ← drop_at hb] at hE
        by_cases ha60 : a = 60
        · have hb37 : ¬ b = 37 := fun h => hop ⟨ha60, h⟩
          have hb37' : ¬ (b.toNat : Int) = 37 := fun h => hb37 ((Vz b 37 (by omega)).2 h)
          subst ha60
          repeat' (first | (simp -implicitDefEqProofs [B5, B3, B4, B8, B9, B6, B7, BA, B0, Ac, Ab, Ad, AZ, Ag, Ah, Ae, Ai, Aa, c15, -getElem?_pos, hg, ha, hb, hj', hj1', hj1'', ht1, hb37, hb37', hcut]) | (simp (disch := omega) only [AF]) | (with_reducible first | refine A6 ?_ ?_ ?_ | exact AC | refine SameB.upd ?_ ?_ _ | assumption | refine A2 ?_ | refine KM.of ?_ | refine AE ?_ | refine A5 ?_ | refine A8 ?_ | intro _g _hg | refine AD ?_ ?_ | intro _hc) | omega)
          all_goals exact hJ (m - 1) _ (by omega) ⟨j + 1, dn ++ [60], by omega, by simp, by rw [hE]; simp, by simp; omega⟩
        · have ha60' : ¬ (a.toNat : Int) = 60 := fun h => ha60 ((Vz a 60 (by omega)).2 h)
          repeat' (first | (simp -implicitDefEqProofs [B5, B3, B4, B8, B9, B6, B7, BA, B0, Ac, Ab, Ad, AZ, Ag, Ah, Ae, Ai, Aa, c15, -getElem?_pos, hg, ha, hb, hj', hj1', hj1'', ht1, ha60, ha60', hcut]) | (simp (disch := omega) only [AF]) | (with_reducible first | refine A6 ?_ ?_ ?_ | exact AC | refine SameB.upd ?_ ?_ _ | assumption | refine A2 ?_ | refine KM.of ?_ | refine AE ?_ | refine A5 ?_ | refine A8 ?_ | intro _g _hg | refine AD ?_ ?_ | intro _hc) | omega)
          all_goals exact hJ (m - 1) _ (by omega) ⟨j + 1, dn ++ [a], by omega, by simp, by rw [hE]; simp, by simp; omega⟩
    · have hj1' : ¬ (j : Int) + 1 < t.length := by omega
      have hj1'' : (j : Int) + 1 ≤ t.length := by omega
      rw [List.drop_of_length_le (by omega)] at hE
      have e2 : D5 [a] = [a] := by simp [D5]
      rw [e2] at hE
      have hno : t[j + 1]? = none := List.getElem?_eq_none (by omega)
      repeat' (first | (simp -implicitDefEqProofs [B5, B3, B4, B8, B9, B6, B7, BA, B0, Ac, Ab, Ad, AZ, Ag, Ah, Ae, Ai, Aa, c15, -getElem?_pos, hg, ha, hno, hj', hj1', hj1'', ht1, hcut]) | (simp (disch := omega) only [AF]) | (with_reducible first | refine A6 ?_ ?_ ?_ | exact AC | refine SameB.upd ?_ ?_ _ | assumption | refine A2 ?_ | refine KM.of ?_ | refine AE ?_ | refine A5 ?_ | refine A8 ?_ | intro _g _hg | refine AD ?_ ?_ | intro _hc) | omega)
      all_goals exact hJ (m - 1) _ (by omega) ⟨j + 1, dn ++ [a], by omega, by simp, by rw [hE, List.drop_of_length_le (by omega)]; simp [D5], by simp; omega⟩
  · have hj0 : j = t.length := by omega
    subst hj0
    have hj' : ¬ (t.length : Int) < t.length := by omega
    have e0 : D5 t = dn := by rw [hE]; simp [D5]
    rw [e0] at hQ
    clear hE
    repeat' (first | (simp -implicitDefEqProofs [B5, B3, B4, B8, B9, B6, B7, BA, B0, Ac, Ab, Ad, AZ, Ag, Ah, Ae, Ai, Aa, c15, -getElem?_pos, hg, hj', hQ]) | (simp (disch := omega) only [AF]) | (with_reducible first | refine A6 ?_ ?_ ?_ | exact AC | refine SameB.upd ?_ ?_ _ | assumption | refine A2 ?_ | refine KM.of ?_ | refine AE ?_ | refine A5 ?_ | refine A8 ?_ | intro _g _hg | refine AD ?_ ?_ | intro _hc) | omega)
    all_goals exact hQ
end Go.Proofs.YtnfjgphfaemjcaaGreatDoor
