/- Templates: the program's check of parts, one after the other; no condition. -/
import Derived.Test.YtnfjgphfaemjcaaGreatDoorMgI
import Derived.Test.YtnfjgphfaemjcaaGreatDoorMdO
import Derived.Test.YtnfjgphfaemjcaaGreatDoorMgJ
import Derived.Test.YtnfjgphfaemjcaaGreatDoorMdN
import Derived.Test.YtnfjgphfaemjcaaGreatDoorAdF
set_option linter.all false
set_option linter.unusedSimpArgs false
set_option linter.unusedVariables false
set_option maxHeartbeats 8000000
namespace Go.Proofs.YtnfjgphfaemjcaaGreatDoor
theorem Q0 {α β : Type} {a : List α} {b : List β} (h : a.length = b.length) : Cn a = Cn b := by unfold Cn; rw [h]
abbrev Em (i : Nat) : AObj := .cells 64 [aI i]
def ET (R : Nat × Int) : AV := aF (if R.2 ≠ 0 then (R.2, (R.1 : Int)) else (0, 0))
def FI (R : Nat × Int) : Nat := if R.2 ≠ 0 then R.1 + 1 else R.1
def Gr (l : List Pt) (el : List AV) : Prop := ∀ (i d gc n : Nat) (H : A2), i ≤ 200 → d ≤ 100 → H gc = some (Em i) → AUpd Tryz.prog 33 [.ptr gc 0, .sl 7 el .ro, aI d] n H (ET (BW 0 i d l)) gc (Em (FI (BW 0 i d l)))
def Uo (l : List Pt) (i : Nat) : Int := if i = 0 then 0 else match l[i - 1]? with | some y => y.k | none => 0
theorem UX {l : List Pt} {i : Nat} {x : Pt} (h : l[i]? = some x) : Uo l (i + 1) = x.k := by
  unfold Uo
  rw [if_neg (by omega)]
  have e : i + 1 - 1 = i := by omega
  rw [e, h]
theorem Xi {l : List Pt} {i : Nat} (hi : 0 < i) (hl : i < l.length) : ∃ (k : Int) (t n : AF) (pa : List AF) (fs : List (AF × Int)) (eb ee : List AV), Uo l i = k ∧ (AH l)[i - 1]? = some (.agg [aI k, .str t, .str n, DN pa, Bz fs, .sl 7 eb .ro, .sl 7 ee .ro]) := by
  obtain ⟨y, hy⟩ : ∃ y, l[i - 1]? = some y := ⟨_, List.getElem?_eq_getElem (by omega)⟩
  have := GD hy
  have hk : Uo l i = y.k := by unfold Uo; rw [if_neg (by omega), hy]
  obtain ⟨k, t, n, pa, fs, b, e⟩ := y
  rw [BZ] at this
  exact ⟨k, t, n, pa, fs, _, _, hk, this⟩
attribute [local simp] Jm Dg Dj KG JZ J0 KK DQ DZ EU FW I7 Id IP KJ IM IT KR JD K4 IH Ix J2 Ju KD R5 pe Jg J3 JV K7 KF Jn Ip J9 KQ Jw KT ID J8 F0 Nd NU MY Mh MU Mj MN ML Nf MK M9 MQ NP Nn Mn Ms Np MB Mi M8 NA F2 NG FC MA NB No NL NF NX N2 NK Mp MH MC Nh MF N6 NC NM MG NN NZ MO Mm ND Nk NR NI Eu NJ Mv MX NE Me Mb NT MI NS Md Mt ME MJ N8 Nm MV NQ NO Mo I6 K5 Jv Ji Jb JQ I5 IZ IL Ig JA HM K9 List.mem_cons guardK Cs E6 EM Fd Ng Ew F1 Ez Es Ep F8 Eq F7 Ef MS MR Er Jq Ml NV Nl MM Mx El JG N3 Mc JT Jp Nc Gp F5 Ey Et FA Ni N5 F9 N4 Ej KI En Ek JE Ev FB My MT Mr IX Mu Nq J4 Jo Qz I0 Hd G4 HQ Hu Hx DC Ea EW JB Eb Ee DG Cv Su Hc HS Ec Hq Hs Cl Ch B1 Au Ba Ci Cb ev get put Dx AB CS K8 I4 Io Jh Hy Ib DP part Am Fo IF Fb isNil CI CP Cp CQ CR Im JM IC Ia Jx JO JS JN IA It KA IU Jt IK Is K0 AV.fits AV.cells ones AV.one D7 BY DB CY DK DM KO E5 EG C5 BB CD ER Cw AY Ao TZ FO K3 I9 List.getElem?_cons_zero List.getElem?_cons_succ Ei Eg Eh JC K2 Jy Fp Ih IQ IR Jz JP Iu J7 Mg Ij Ii JF IE KN JY IB JI Ie KH KP JW Je IG Jl JK Jk Jd J6 Jj
theorem Oh (l : List Pt) (hl : l.length ≤ 2000000) (hs : E4 l) (hp : ∀ x ∈ l, Gr x.b (AH x.b) ∧ Gr x.e (AH x.e)) : Gr l (AH l) := by
  intro i0 d gc n H hi0 hd hg
  have hel := C7 l
  obtain ⟨R, hR⟩ : ∃ R, BW 0 i0 d l = R := ⟨_, rfl⟩
  rw [hR]
  refine S8 Tryz.func33 ZJ rfl (hg) fun hH => ?_
  have hgn : gc < n := by
    rcases Nat.lt_or_ge gc n with h | h
    · exact h
    · rw [hH gc h] at hg; cases hg
  repeat' (first | (simp -implicitDefEqProofs [c33, -getElem?_pos, hel, hg]) | (simp (disch := omega) only [AJ]) | (with_reducible first | refine A8 ?_ ?_ ?_ | exact AG | assumption | refine A3 ?_ | refine KM.of ?_ | refine AI ?_ | refine A5 ?_ | refine AR ?_ | refine A7 ?_ | refine AW ?_ | refine AQ ?_ | intro _g _hg | refine AK ?_ ?_ | intro _hc) | omega)
  refine LoopK.go (fun m st => ∃ (i c n2 : Nat) (H2 : A2), i + m = l.length ∧ st = ⟨[(0, .ptr gc 0), (1, E1 l), (2, aI d), (6, .ptr _g 0), (14, E1 l), (15, aI l.length), (16, aI i)], n2, H2⟩ ∧ _g < n2 ∧ H2 _g = some (.cells 24 [aI 0, aI 0]) ∧ SameB n (upd H gc (some (Em c))) H2 ∧ (∀ q, n2 ≤ q → H2 q = none) ∧ c ≤ 200 ∧ BW (Uo l i) c d (l.drop i) = R) l.length ⟨0, i0, _, _, by omega, rfl, by omega, AY _ _ _, ?_, fun q hq => by rw [upd_ne (by omega)]; exact hH q (by omega), hi0, hR⟩ ?_
  · rw [UM hg]; exact (SameB.rfl_ n H).upd (by omega) _
  rintro m st ⟨i, c, n2, H2, him, rfl, hgn2, hg6, hS, hsup, hc, hE⟩ J hJ
  have hgc : H2 gc = some (Em c) := by rw [hS gc hgn]; exact AY _ _ _
  clear hR
  by_cases hi : i < l.length
  · obtain ⟨x, hx⟩ : ∃ x, l[i]? = some x := ⟨_, List.getElem?_eq_getElem hi⟩
    have hx2 := GD hx
    have hi' : (i : Int) < l.length := by omega
    have hks := UX hx
    rw [drop_at hx] at hE
    have hsx := D9 hs (List.mem_of_getElem? hx)
    obtain ⟨cb, ce⟩ := hp x (List.mem_of_getElem? hx)
    have hka := fun (h : 0 < i) => Xi h hi
    have hk0 : i = 0 → Uo l i = 0 := fun h => by rw [h]; rfl
    obtain ⟨k, t, nm, pa, fs, b, e⟩ := x
    rw [BZ] at hx2
    simp only [Lb] at hsx
    obtain ⟨s1, s2, s3, s4, s5, s6, s7, s8, s9⟩ := hsx
    change Gr b (AH b) at cb
    change Gr e (AH e) at ce
    change Uo l (i + 1) = k at hks
    have hlb := C7 b
    have hle := C7 e
    have hsh := X7 c d k t nm pa fs (AH b) (AH e) ⟨s3, s5, by omega, by omega⟩
    have hnm := GR k t nm pa fs (AH b) (AH e) s4 s3 s2 s5
    rw [Q0 hlb, Q0 hle] at hsh
    obtain ⟨fb, hfb⟩ : ∃ fb, S9 k t nm (Cn pa) (Cn fs) (Cn b) (Cn e) = fb := ⟨_, rfl⟩
    rw [hfb] at hsh
    have hpc : HA (Uo l i) c d k t nm pa fs b e = _ := Ud (pv := Uo l i) (i := c) (d := d) hfb
    clear hfb hx hp
    rw [BW, DI] at hE
    generalize AH b = eb at *
    generalize AH e = ee at *
    generalize Uo l i = pv at *
    generalize Fn k nm pa fs = M at *
    generalize hSS : RB c d k fb = S at *
    have hcc : ((c + 1 : Nat) : Int) = (c : Int) + 1 := by omega
    by_cases hP : HA pv c d k t nm pa fs b e = 0
    · have hcd : c < 200 ∧ d ≤ 16 := by
        unfold HA at hP
        by_cases h1 : 200 ≤ c
        · rw [if_pos h1] at hP; cases hP
        · by_cases h2 : 16 < d
          · rw [if_neg h1, if_pos h2] at hP; cases hP
          · omega
      obtain ⟨hc2, hd2⟩ := hcd
      simp only [hP, ne_eq, not_true, if_false] at hE
      rw [hP] at hpc
      have hS0 : S = 0 := by
        by_cases h : S = 0
        · exact h
        · rw [if_pos h] at hpc; exact hpc.symm
      rw [if_neg (by simpa using hS0)] at hpc
      have hkp : ¬ (k = 1 ∧ pv = 1) := fun h => by rw [if_pos h] at hpc; cases hpc
      rw [if_neg hkp] at hpc
      subst hS0
      subst hpc
      have hB2 := Hv b 0 (c + 1) (d + 1) (by omega)
      have cb1 := cb (c + 1) (d + 1) gc
      generalize BW 0 (c + 1) (d + 1) b = B at *
      have hE2 := Hv e 0 B.1 (d + 1)
      have ce1 := ce B.1 (d + 1) gc
      generalize BW 0 B.1 (d + 1) e = E at *
      clear cb ce
      have hin : ∀ (g8 gr : Nat) (n3 : Nat) (H3 : A2), n2 ≤ g8 → g8 + 1 ≤ gr → n3 = gr + 1 → H3 = upd (upd (upd (upd H2 g8 (some (.cells 55 [.int .i64 0, .str [], .str [], .sl 0 [] .nil, .sl 0 [] .nil, .sl 0 [] .nil, .sl 0 [] .nil]))) g8 (some (.cells 55 [aI k, .str t, .str nm, DN pa, Bz fs, .sl 7 eb .ro, .sl 7 ee .ro]))) gc (some (.cells 64 [.int .i64 ((c : Int) + 1)]))) gr (some (.row 22 2)) →
          LoopK (fun Q s => aw Tryz.prog c33_L5 Q s) (Dv 2 (Dv 1 (DO (aw Tryz.prog c33_k2 (Lh [0, 1, 2, 6, 14, 15, 16] (DO J (Dv 0 (DO (aw Tryz.prog c33_k1 (Lo (ET R) n (upd H gc (some (Em (FI R)))) [ARes.cell 6 (some 2)])) (Lo (ET R) n (upd H gc (some (Em (FI R)))) [ARes.cell 6 (some 2)])))))) (Lh [0, 1, 2, 6, 14, 15, 16] (DO J (Dv 0 (DO (aw Tryz.prog c33_k1 (Lo (ET R) n (upd H gc (some (Em (FI R)))) [ARes.cell 6 (some 2)])) (Lo (ET R) n (upd H gc (some (Em (FI R)))) [ARes.cell 6 (some 2)]))))))))
            ⟨[(0, .ptr gc 0), (1, E1 l), (2, aI d), (6, .ptr _g 0), (14, E1 l), (15, aI l.length), (16, aI i), (69, .sl 1 [.sl 7 eb .ro, .sl 7 ee .ro] (.own gr)), (70, .int .i64 2), (71, .int .i64 0)], n3, H3⟩ := by
        clear hsh hnm hka hk0
        intro g8 gr n3 H3 q1 q2 q3 q4
        have r1 : SameB n (upd H gc (some (Em (c + 1)))) H3 := by
          rw [q4]
          intro q hq
          by_cases hqg : q = gc
          · subst hqg
            simp (disch := omega) only [upd_ne, AY]
            rfl
          · simp (disch := omega) only [upd_ne]
            rw [hS q hq, upd_ne hqg]
        have r2 : ∀ q, n3 ≤ q → H3 q = none := fun q hq => by
          rw [q4]
          simp (disch := omega) only [upd_ne]
          exact hsup q (by omega)
        have r3 : H3 _g = some (.cells 24 [aI 0, aI 0]) := by
          rw [q4]
          simp (disch := omega) only [upd_ne]
          exact hg6
        have r4 : H3 gc = some (Em (c + 1)) := by rw [r1 gc hgn, AY]
        clear q4 hg6 hsup hS
        have hdd : ((d + 1 : Nat) : Int) = (d : Int) + 1 := by omega
        rw [hdd] at cb1 ce1
        have cb2 : ∀ n H, H gc = some (Em (c + 1)) → AUpd Tryz.prog 33 [.ptr gc 0, .sl 7 eb .ro, .int .i64 ((d : Int) + 1)] n H (ET B) gc (Em (FI B)) := fun n H h => cb1 n H (by omega) (by omega) h
        clear cb1
        
        refine LoopK.round ?_
        by_cases hB0 : B.2 = 0
        · have v1 : ET B = aF (0, 0) := by unfold ET; rw [if_neg (by simpa using hB0)]
          have v2 : FI B = B.1 := by unfold FI; rw [if_neg (by simpa using hB0)]
          rw [v1, v2] at cb2
          have hB3 := hB2 hB0
          have ce2 : ∀ n H, H gc = some (Em B.1) → AUpd Tryz.prog 33 [.ptr gc 0, .sl 7 ee .ro, .int .i64 ((d : Int) + 1)] n H (ET E) gc (Em (FI E)) := fun n H h => ce1 n H (by omega) (by omega) h
          clear ce1 v1 v2
          simp only [hB0, ne_eq, not_true, if_false] at hE
          have r5 : ∀ g9, n3 ≤ g9 → ∀ o1 o2, upd (upd (upd H3 gc (some (Em B.1))) g9 o1) g9 o2 gc = some (Em B.1) := fun g9 hg9 o1 o2 => by simp (disch := omega) only [upd_ne, AY]
          have r6 : ∀ g9, n3 ≤ g9 → ∀ o1 o2, upd (upd (upd H3 gc (some (Em B.1))) g9 o1) g9 o2 _g = some (.cells 24 [aI 0, aI 0]) := fun g9 hg9 o1 o2 => by
            have : _g ≠ gc := by omega
            simp (disch := omega) only [upd_ne]; exact r3
          repeat' (first | (simp -implicitDefEqProofs [B4, B6, B3, B5, Av, Ax, Aw, B7, Az, An, c33, -getElem?_pos, splice, hel, r3]) | (simp (disch := omega) only [AJ]) | ((with_reducible refine Ad 33 ?_); refine CallK.ofU (cb2 _ _ (r4)) (A0 _) ?_) | (with_reducible first | refine A8 ?_ ?_ ?_ | exact AG | assumption | refine A3 ?_ | refine KM.of ?_ | refine AI ?_ | refine A5 ?_ | refine AR ?_ | refine A7 ?_ | refine AW ?_ | refine AQ ?_ | intro _g _hg | refine AK ?_ ?_ | intro _hc) | omega)
          refine LoopK.round ?_
          by_cases hE0 : E.2 = 0
          · have v1 : ET E = aF (0, 0) := by unfold ET; rw [if_neg (by simpa using hE0)]
            have v2 : FI E = E.1 := by unfold FI; rw [if_neg (by simpa using hE0)]
            rw [v1, v2] at ce2
            have hE3 := hE2 (by omega) hE0
            clear v1 v2
            simp only [hE0, ne_eq, not_true, if_false] at hE
            repeat' (first | (simp -implicitDefEqProofs [B4, B6, B3, B5, Av, Ax, Aw, B7, Az, An, c33, -getElem?_pos, splice, hel]) | (simp (disch := omega) only [AJ]) | ((with_reducible refine Ad 33 ?_); refine CallK.ofU (ce2 _ _ (by simp (disch := omega) only [upd_ne, AY])) (A0 _) ?_) | (with_reducible first | refine A8 ?_ ?_ ?_ | exact AG | assumption | refine A3 ?_ | refine KM.of ?_ | refine AI ?_ | refine A5 ?_ | refine AR ?_ | refine A7 ?_ | refine AW ?_ | refine AQ ?_ | intro _g _hg | refine AK ?_ ?_ | intro _hc) | omega)
            refine LoopK.round ?_
            repeat' (first | (simp -implicitDefEqProofs [B4, B6, B3, B5, Av, Ax, Aw, B7, Az, An, c33, -getElem?_pos, splice, hel]) | (simp (disch := omega) only [AJ]) | (with_reducible first | refine A8 ?_ ?_ ?_ | exact AG | assumption | refine A3 ?_ | refine KM.of ?_ | refine AI ?_ | refine A5 ?_ | refine AR ?_ | refine A7 ?_ | refine AW ?_ | refine AQ ?_ | intro _g _hg | refine AK ?_ ?_ | intro _hc) | omega)
            all_goals (refine hJ (m - 1) _ (by omega) ⟨i + 1, E.1, _, _, by omega, rfl, by omega, ?_, ?_, fun q hq => ?_, by omega, by rw [hks]; exact hE⟩)
            all_goals first
              | (have : _g ≠ gc := by omega
                 simp (disch := omega) only [upd_ne]; exact r3)
              | (intro q hq
                 by_cases hqg : q = gc
                 · subst hqg
                   simp (disch := omega) only [upd_ne, AY]
                 · simp (disch := omega) only [upd_ne]
                   rw [r1 q hq, upd_ne hqg])
              | (have : q ≠ gc := by omega
                 simp (disch := omega) only [upd_ne]; exact r2 q (by omega))
          · have v1 : ET E = aF (E.2, (E.1 : Int)) := by unfold ET; rw [if_pos hE0]
            have v2 : FI E = E.1 + 1 := by unfold FI; rw [if_pos hE0]
            have eR : R = E := by rw [← hE, if_pos hE0]
            rw [eR, v1, v2]
            rw [v1, v2] at ce2
            generalize E.2 = E2 at *
            clear hE eR v1 v2 hJ
            repeat' (first | (simp -implicitDefEqProofs [B4, B6, B3, B5, Av, Ax, Aw, B7, Az, An, c33, -getElem?_pos, splice, hel, hE0, r3]) | (simp (disch := omega) only [AJ]) | ((with_reducible refine Ad 33 ?_); refine CallK.ofU (ce2 _ _ (by simp (disch := omega) only [upd_ne, AY])) (A0 _) ?_) | (with_reducible first | refine A8 ?_ ?_ ?_ | exact AG | assumption | refine A3 ?_ | refine KM.of ?_ | refine AI ?_ | refine A5 ?_ | refine AR ?_ | refine A7 ?_ | refine AW ?_ | refine AQ ?_ | intro _g _hg | refine AK ?_ ?_ | intro _hc) | omega)
            all_goals first
              | exact A1 _
              | (intro q hq
                 by_cases hqg : q = gc
                 · subst hqg
                   simp (disch := omega) only [upd_ne, AY]
                 · simp (disch := omega) only [upd_ne]
                   rw [r1 q hq, upd_ne hqg])
        · have v1 : ET B = aF (B.2, (B.1 : Int)) := by unfold ET; rw [if_pos hB0]
          have v2 : FI B = B.1 + 1 := by unfold FI; rw [if_pos hB0]
          have eR : R = B := by rw [← hE]; simp only [hB0, ne_eq, not_false_eq_true, if_true]
          rw [eR, v1, v2]
          rw [v1, v2] at cb2
          clear hE eR v1 v2 hJ ce1 hE2
          generalize B.2 = B2 at *
          repeat' (first | (simp -implicitDefEqProofs [B4, B6, B3, B5, Av, Ax, Aw, B7, Az, An, c33, -getElem?_pos, splice, hel, r3, hB0]) | (simp (disch := omega) only [AJ]) | ((with_reducible refine Ad 33 ?_); refine CallK.ofU (cb2 _ _ (r4)) (A0 _) ?_) | (with_reducible first | refine A8 ?_ ?_ ?_ | exact AG | assumption | refine A3 ?_ | refine KM.of ?_ | refine AI ?_ | refine A5 ?_ | refine AR ?_ | refine A7 ?_ | refine AW ?_ | refine AQ ?_ | intro _g _hg | refine AK ?_ ?_ | intro _hc) | omega)
          all_goals first
              | exact A1 _
              | (intro q hq
                 by_cases hqg : q = gc
                 · subst hqg
                   simp (disch := omega) only [upd_ne, AY]
                 · simp (disch := omega) only [upd_ne]
                   rw [r1 q hq, upd_ne hqg])
      by_cases hi0 : i = 0
      · subst hi0
        have hz1 : (0 : Int) < l.length := hi'
        have hz2 : ¬ l = [] := fun e => by rw [e] at hi; simp at hi
        
        repeat' (first | (simp -implicitDefEqProofs [B4, B6, B3, B5, Av, Ax, Aw, B7, Az, An, c33, -getElem?_pos, splice, hel, hx2, hi', hgc, hg6, hz1, hz2]) | (simp (disch := omega) only [AJ]) | ((with_reducible refine AP 67 ?_); (refine' CallP.sf ?_ (hsh) ?_); (focus first | (with_reducible exact A0 _) | (simp [AC, AA, A1, A0]; done))) | ((with_reducible refine AP 68 ?_); (refine' CallP.sf ?_ (hnm) ?_); (focus first | (with_reducible exact A0 _) | (simp [AC, AA, A1, A0]; done))) | (with_reducible first | refine A8 ?_ ?_ ?_ | exact AG | assumption | refine A3 ?_ | refine KM.of ?_ | refine AI ?_ | refine A5 ?_ | refine AR ?_ | refine A7 ?_ | refine AW ?_ | refine AQ ?_ | intro _g _hg | refine AK ?_ ?_ | intro _hc) | omega)
        refine hin _ _ _ _ (by assumption) (by assumption) rfl rfl
      · obtain ⟨ky, ty, ny, pay, fsy, eby, eey, hyk, hy2⟩ := hka (by omega)
        have hip : (0 : Int) < i := by omega
        have hip1 : (1 : Int) ≤ i := by omega
        have hipn : 0 < i := by omega
        have hiw : ((i : Int) - 1).toNat = i - 1 := by omega
        subst hyk
        by_cases k1 : k = 1
        · subst k1
          have y1 : ¬ pv = 1 := fun h => hkp ⟨rfl, h⟩
          
          repeat' (first | (simp -implicitDefEqProofs [B4, B6, B3, B5, Av, Ax, Aw, B7, Az, An, c33, -getElem?_pos, splice, hel, hx2, hi', hgc, hg6, hip, hip1, hipn, hiw, hy2, y1]) | (simp (disch := omega) only [AJ]) | ((with_reducible refine AP 67 ?_); (refine' CallP.sf ?_ (hsh) ?_); (focus first | (with_reducible exact A0 _) | (simp [AC, AA, A1, A0]; done))) | ((with_reducible refine AP 68 ?_); (refine' CallP.sf ?_ (hnm) ?_); (focus first | (with_reducible exact A0 _) | (simp [AC, AA, A1, A0]; done))) | (with_reducible first | refine A8 ?_ ?_ ?_ | exact AG | assumption | refine A3 ?_ | refine KM.of ?_ | refine AI ?_ | refine A5 ?_ | refine AR ?_ | refine A7 ?_ | refine AW ?_ | refine AQ ?_ | intro _g _hg | refine AK ?_ ?_ | intro _hc) | omega)
          refine hin _ _ _ _ (by assumption) (by assumption) rfl rfl
        · have hkb : (k == 1) = false := by simpa using k1
          
          repeat' (first | (simp -implicitDefEqProofs [B4, B6, B3, B5, Av, Ax, Aw, B7, Az, An, c33, -getElem?_pos, splice, hel, hx2, hi', hgc, hg6, hip, hip1, hipn, hiw, hy2, k1, hkb]) | (simp (disch := omega) only [AJ]) | ((with_reducible refine AP 67 ?_); (refine' CallP.sf ?_ (hsh) ?_); (focus first | (with_reducible exact A0 _) | (simp [AC, AA, A1, A0]; done))) | ((with_reducible refine AP 68 ?_); (refine' CallP.sf ?_ (hnm) ?_); (focus first | (with_reducible exact A0 _) | (simp [AC, AA, A1, A0]; done))) | (with_reducible first | refine A8 ?_ ?_ ?_ | exact AG | assumption | refine A3 ?_ | refine KM.of ?_ | refine AI ?_ | refine A5 ?_ | refine AR ?_ | refine A7 ?_ | refine AW ?_ | refine AQ ?_ | intro _g _hg | refine AK ?_ ?_ | intro _hc) | omega)
          refine hin _ _ _ _ (by assumption) (by assumption) rfl rfl
    · have eR : R = (c, HA pv c d k t nm pa fs b e) := by
        rw [← hE, if_pos hP, if_pos (by exact hP)]
      have eV : ET R = aF (HA pv c d k t nm pa fs b e, (c : Int)) := by rw [eR]; unfold ET; rw [if_pos hP]
      have eN : FI R = c + 1 := by rw [eR]; unfold FI; rw [if_pos hP]
      rw [eV, eN]
      clear hE eR eV eN hJ cb ce
      generalize HA pv c d k t nm pa fs b e = P at *
      by_cases hS0 : S = 0
      · rw [if_neg (by simpa using hS0)] at hpc
        subst hS0
        by_cases hi0 : i = 0
        · have hpv := hk0 hi0
          have : ¬ (k = 1 ∧ pv = 1) := fun h => by omega
          rw [if_neg this] at hpc
          subst hi0
          subst hpc
          have hz1 : (0 : Int) < l.length := hi'
          have hz2 : ¬ l = [] := fun e => by rw [e] at hi; simp at hi
          
          repeat' (first | (simp -implicitDefEqProofs [B4, B6, B3, B5, Av, Ax, Aw, B7, Az, An, c33, -getElem?_pos, splice, hel, hx2, hi', hgc, hg6, hP, hz1, hz2]) | (simp (disch := omega) only [AJ]) | ((with_reducible refine AP 67 ?_); (refine' CallP.sf ?_ (hsh) ?_); (focus first | (with_reducible exact A0 _) | (simp [AC, AA, A1, A0]; done))) | ((with_reducible refine AP 68 ?_); (refine' CallP.sf ?_ (hnm) ?_); (focus first | (with_reducible exact A0 _) | (simp [AC, AA, A1, A0]; done))) | (with_reducible first | refine A8 ?_ ?_ ?_ | exact AG | assumption | refine A3 ?_ | refine KM.of ?_ | refine AI ?_ | refine A5 ?_ | refine AR ?_ | refine A7 ?_ | refine AW ?_ | refine AQ ?_ | intro _g _hg | refine AK ?_ ?_ | intro _hc) | omega)
          all_goals first
            | exact A1 _
            | (intro q hq
               by_cases hqg : q = gc
               · subst hqg
                 simp (disch := omega) only [upd_ne, AY]
                 first | rfl | (rw [hcc])
               · simp (disch := omega) only [upd_ne]
                 rw [hS q hq, upd_ne hqg])
        · obtain ⟨ky, ty, ny, pay, fsy, eby, eey, hyk, hy2⟩ := hka (by omega)
          have hip : (0 : Int) < i := by omega
          have hip1 : (1 : Int) ≤ i := by omega
          have hipn : 0 < i := by omega
          have hiw : ((i : Int) - 1).toNat = i - 1 := by omega
          subst hyk
          by_cases k1 : k = 1
          · subst k1
            by_cases y1 : pv = 1
            · rw [if_pos ⟨rfl, y1⟩] at hpc
              subst hpc
              subst y1
              
              repeat' (first | (simp -implicitDefEqProofs [B4, B6, B3, B5, Av, Ax, Aw, B7, Az, An, c33, -getElem?_pos, splice, hel, hx2, hi', hgc, hg6, hip, hip1, hipn, hiw, hy2]) | (simp (disch := omega) only [AJ]) | ((with_reducible refine AP 67 ?_); (refine' CallP.sf ?_ (hsh) ?_); (focus first | (with_reducible exact A0 _) | (simp [AC, AA, A1, A0]; done))) | ((with_reducible refine AP 68 ?_); (refine' CallP.sf ?_ (hnm) ?_); (focus first | (with_reducible exact A0 _) | (simp [AC, AA, A1, A0]; done))) | (with_reducible first | refine A8 ?_ ?_ ?_ | exact AG | assumption | refine A3 ?_ | refine KM.of ?_ | refine AI ?_ | refine A5 ?_ | refine AR ?_ | refine A7 ?_ | refine AW ?_ | refine AQ ?_ | intro _g _hg | refine AK ?_ ?_ | intro _hc) | omega)
              all_goals first
            | exact A1 _
            | (intro q hq
               by_cases hqg : q = gc
               · subst hqg
                 simp (disch := omega) only [upd_ne, AY]
                 first | rfl | (rw [hcc])
               · simp (disch := omega) only [upd_ne]
                 rw [hS q hq, upd_ne hqg])
            · rw [if_neg (fun h => y1 h.2)] at hpc
              subst hpc
              have hPb : (P == 0) = false := by simpa using hP
              
              repeat' (first | (simp -implicitDefEqProofs [B4, B6, B3, B5, Av, Ax, Aw, B7, Az, An, c33, -getElem?_pos, splice, hel, hx2, hi', hgc, hg6, hP, hPb, hip, hip1, hipn, hiw, hy2, y1]) | (simp (disch := omega) only [AJ]) | ((with_reducible refine AP 67 ?_); (refine' CallP.sf ?_ (hsh) ?_); (focus first | (with_reducible exact A0 _) | (simp [AC, AA, A1, A0]; done))) | ((with_reducible refine AP 68 ?_); (refine' CallP.sf ?_ (hnm) ?_); (focus first | (with_reducible exact A0 _) | (simp [AC, AA, A1, A0]; done))) | (with_reducible first | refine A8 ?_ ?_ ?_ | exact AG | assumption | refine A3 ?_ | refine KM.of ?_ | refine AI ?_ | refine A5 ?_ | refine AR ?_ | refine A7 ?_ | refine AW ?_ | refine AQ ?_ | intro _g _hg | refine AK ?_ ?_ | intro _hc) | omega)
              all_goals first
            | exact A1 _
            | (intro q hq
               by_cases hqg : q = gc
               · subst hqg
                 simp (disch := omega) only [upd_ne, AY]
                 first | rfl | (rw [hcc])
               · simp (disch := omega) only [upd_ne]
                 rw [hS q hq, upd_ne hqg])
          · rw [if_neg (fun h => k1 h.1)] at hpc
            subst hpc
            have hPb : (P == 0) = false := by simpa using hP
            have hkb : (k == 1) = false := by simpa using k1
            
            repeat' (first | (simp -implicitDefEqProofs [B4, B6, B3, B5, Av, Ax, Aw, B7, Az, An, c33, -getElem?_pos, splice, hel, hx2, hi', hgc, hg6, hP, hPb, hip, hip1, hipn, hiw, hy2, k1, hkb]) | (simp (disch := omega) only [AJ]) | ((with_reducible refine AP 67 ?_); (refine' CallP.sf ?_ (hsh) ?_); (focus first | (with_reducible exact A0 _) | (simp [AC, AA, A1, A0]; done))) | ((with_reducible refine AP 68 ?_); (refine' CallP.sf ?_ (hnm) ?_); (focus first | (with_reducible exact A0 _) | (simp [AC, AA, A1, A0]; done))) | (with_reducible first | refine A8 ?_ ?_ ?_ | exact AG | assumption | refine A3 ?_ | refine KM.of ?_ | refine AI ?_ | refine A5 ?_ | refine AR ?_ | refine A7 ?_ | refine AW ?_ | refine AQ ?_ | intro _g _hg | refine AK ?_ ?_ | intro _hc) | omega)
            all_goals first
            | exact A1 _
            | (intro q hq
               by_cases hqg : q = gc
               · subst hqg
                 simp (disch := omega) only [upd_ne, AY]
                 first | rfl | (rw [hcc])
               · simp (disch := omega) only [upd_ne]
                 rw [hS q hq, upd_ne hqg])
      · rw [if_pos hS0] at hpc
        subst hpc
        have hPb : (P == 0) = false := by simpa using hP
        by_cases hi0 : i = 0
        · subst hi0
          have hz1 : (0 : Int) < l.length := hi'
          have hz2 : ¬ l = [] := fun e => by rw [e] at hi; simp at hi
          
          repeat' (first | (simp -implicitDefEqProofs [B4, B6, B3, B5, Av, Ax, Aw, B7, Az, An, c33, -getElem?_pos, splice, hel, hx2, hi', hgc, hg6, hP, hPb, hz1, hz2]) | (simp (disch := omega) only [AJ]) | ((with_reducible refine AP 67 ?_); (refine' CallP.sf ?_ (hsh) ?_); (focus first | (with_reducible exact A0 _) | (simp [AC, AA, A1, A0]; done))) | ((with_reducible refine AP 68 ?_); (refine' CallP.sf ?_ (hnm) ?_); (focus first | (with_reducible exact A0 _) | (simp [AC, AA, A1, A0]; done))) | (with_reducible first | refine A8 ?_ ?_ ?_ | exact AG | assumption | refine A3 ?_ | refine KM.of ?_ | refine AI ?_ | refine A5 ?_ | refine AR ?_ | refine A7 ?_ | refine AW ?_ | refine AQ ?_ | intro _g _hg | refine AK ?_ ?_ | intro _hc) | omega)
          all_goals first
            | exact A1 _
            | (intro q hq
               by_cases hqg : q = gc
               · subst hqg
                 simp (disch := omega) only [upd_ne, AY]
                 first | rfl | (rw [hcc])
               · simp (disch := omega) only [upd_ne]
                 rw [hS q hq, upd_ne hqg])
        · obtain ⟨ky, ty, ny, pay, fsy, eby, eey, hyk, hy2⟩ := hka (by omega)
          have hip : (0 : Int) < i := by omega
          have hip1 : (1 : Int) ≤ i := by omega
          have hipn : 0 < i := by omega
          have hiw : ((i : Int) - 1).toNat = i - 1 := by omega
          
          repeat' (first | (simp -implicitDefEqProofs [B4, B6, B3, B5, Av, Ax, Aw, B7, Az, An, c33, -getElem?_pos, splice, hel, hx2, hi', hgc, hg6, hP, hPb, hip, hip1, hipn, hiw, hy2]) | (simp (disch := omega) only [AJ]) | ((with_reducible refine AP 67 ?_); (refine' CallP.sf ?_ (hsh) ?_); (focus first | (with_reducible exact A0 _) | (simp [AC, AA, A1, A0]; done))) | ((with_reducible refine AP 68 ?_); (refine' CallP.sf ?_ (hnm) ?_); (focus first | (with_reducible exact A0 _) | (simp [AC, AA, A1, A0]; done))) | (with_reducible first | refine A8 ?_ ?_ ?_ | exact AG | assumption | refine A3 ?_ | refine KM.of ?_ | refine AI ?_ | refine A5 ?_ | refine AR ?_ | refine A7 ?_ | refine AW ?_ | refine AQ ?_ | intro _g _hg | refine AK ?_ ?_ | intro _hc) | omega)
          all_goals first
            | exact A1 _
            | (intro q hq
               by_cases hqg : q = gc
               · subst hqg
                 simp (disch := omega) only [upd_ne, AY]
                 first | rfl | (rw [hcc])
               · simp (disch := omega) only [upd_ne]
                 rw [hS q hq, upd_ne hqg])
  · have hi0 : i = l.length := by omega
    subst hi0
    have hi' : ¬ (l.length : Int) < l.length := by omega
    rw [List.drop_length, BW] at hE
    subst hE
    have e1 : ET (c, 0) = aF (0, 0) := rfl
    have e2 : FI (c, 0) = c := rfl
    rw [e1, e2]
    clear hJ hp
    
    repeat' (first | (simp -implicitDefEqProofs [B4, B6, B3, B5, Av, Ax, Aw, B7, Az, An, c33, -getElem?_pos, splice, hel, hi', hg6, hgc]) | (simp (disch := omega) only [AJ]) | (with_reducible first | refine A8 ?_ ?_ ?_ | exact AG | assumption | refine A3 ?_ | refine KM.of ?_ | refine AI ?_ | refine A5 ?_ | refine AR ?_ | refine A7 ?_ | refine AW ?_ | refine AQ ?_ | intro _g _hg | refine AK ?_ ?_ | intro _hc) | omega)
    all_goals first | exact A1 _ | (exact hS.upd (by omega) _)
theorem YC (p : Pt) : Lb p → Gr p.b (AH p.b) ∧ Gr p.e (AH p.e) := by
  refine Pt.ind (Q := fun p => Lb p → Gr p.b (AH p.b) ∧ Gr p.e (AH p.e)) ?_ p
  intro k t nm pa fs b e hb he h
  simp only [Lb] at h
  obtain ⟨_, _, _, _, _, h6, h7, h8, h9⟩ := h
  exact ⟨Oh b h6 h8 fun x hx => hb x hx (D9 h8 hx), Oh e h7 h9 fun x hx => he x hx (D9 h9 hx)⟩
theorem YB (l : List Pt) (hl : l.length ≤ 2000000) (hs : E4 l) : Gr l (AH l) := Oh l hl hs fun x hx => YC x (D9 hs hx)
theorem ZQ (p : Pt) : ∀ pv i d, Lb p → (DI pv i d p).2 = 0 → RL p := by
  refine Pt.ind (Q := fun p => ∀ pv i d, Lb p → (DI pv i d p).2 = 0 → RL p) ?_ p
  intro k t n pa fs b e hb he pv i d hs h
  have hl : ∀ l : List Pt, (∀ x ∈ l, ∀ pv i d, Lb x → (DI pv i d x).2 = 0 → RL x) → ∀ pv i d, E4 l → (BW pv i d l).2 = 0 → Ic l := by
    intro l
    induction l with
    | nil => intro _ _ _ _ _ _; trivial
    | cons x r ih =>
      intro h pv i d hs h2
      simp only [E4] at hs
      unfold BW at h2
      by_cases hx : (DI pv i d x).2 = 0
      · rw [if_neg (by simpa using hx)] at h2
        exact ⟨h x (by simp) pv i d hs.1 hx, ih (fun y hy => h y (List.mem_cons_of_mem _ hy)) _ _ _ hs.2 h2⟩
      · rw [if_pos hx] at h2; exact absurd h2 hx
  simp only [Lb] at hs
  obtain ⟨s1, _, _, _, _, _, _, s8, s9⟩ := hs
  unfold DI at h
  split at h
  · rename_i hc; exact absurd h hc
  · rename_i hc
    have hpo := Rq (by simpa using hc)
    have h5 : fs.length ≤ 8 := by
      have hc' : HA pv i d k t n pa fs b e = 0 := by simpa using hc
      unfold HA at hc'
      (repeat' split at hc') <;> first | omega | skip
      unfold Fn at hc'
      (repeat' split at hc') <;> first | omega | skip
    split at h
    · rename_i hb2; exact absurd h hb2
    · rename_i hb2
      simp only [RL]
      refine ⟨s1, fun e => hpo.tx.1 e, ?_, ?_, ?_, h5, fun f hf => ⟨Xp (hpo.fo f hf).k, (hpo.fo f hf).lo, (hpo.fo f hf).hi⟩, hl b hb _ _ _ s8 (by simpa using hb2), hl e he _ _ _ s9 h⟩
      · by_cases k4 : k = 4
        · exact Oc (hpo.id_ k4)
        · rw [hpo.nm k4]; simp
      · by_cases k1 : k = 1
        · rw [hpo.pt k1]; simp
        · exact (Lx (hpo.path k1)).1
      · by_cases k1 : k = 1
        · rw [hpo.pt k1]; simp
        · exact (Lx (hpo.path k1)).2
theorem PI : ∀ (l : List Pt) (pv : Int) (i d : Nat), E4 l → (BW pv i d l).2 = 0 → Ic l
  | [], _, _, _, _, _ => trivial
  | x :: r, pv, i, d, hs, h2 => by
    simp only [E4] at hs
    unfold BW at h2
    by_cases hx : (DI pv i d x).2 = 0
    · rw [if_neg (by simpa using hx)] at h2
      exact ⟨ZQ x pv i d hs.1 hx, PI r _ _ _ hs.2 h2⟩
    · rw [if_pos hx] at h2; exact absurd h2 hx
theorem Lr (l : List Pt) (hl : l.length ≤ 2000000) (hs : E4 l) : APure Tryz.prog 13 [E1 l] (aF (CO l)) := by
  have hla := YB l hl hs 0 0
  have hel := C7 l
  by_cases h0 : (BW 0 0 0 l).2 = 0
  · have hok := PI l 0 0 0 hs h0
    have hsz := Hv l 0 0 0 (by omega) h0
    have htx := RK l hok (by omega)
    have hlen := Hr l hok
    have e1 : ET (BW 0 0 0 l) = aF (0, 0) := by unfold ET; rw [if_neg (by simpa using h0)]
    have e2 : CO l = if (4000 : Int) < (CJ l).length then (14, -1) else (0, 0) := by
      unfold CO
      rw [if_neg (by simpa using h0)]
      by_cases h : 4000 < (CJ l).length
      · rw [if_pos h, if_pos (by omega)]
      · rw [if_neg h, if_neg (by omega)]
    rw [e1] at hla
    rw [e2]
    generalize FI (BW 0 0 0 l) = N1 at *
    generalize CJ l = tl at *
    have hla2 : ∀ gc n H, H gc = some (Em 0) → AUpd Tryz.prog 33 [.ptr gc 0, E1 l, .int .i64 0] n H (aF (0, 0)) gc (Em N1) := fun gc n H h => hla gc n H (by omega) (by omega) h
    clear hla e1 e2 hok
    by_cases h4 : (4000 : Int) < tl.length
    · rw [if_pos h4]
      refine AM Tryz.func13 VP rfl fun n H hH => ?_
      repeat' (first | (simp -implicitDefEqProofs [J1, Jr, c13, -getElem?_pos, splice, hel, h4]) | (simp (disch := omega) only [AJ]) | ((with_reducible refine Ad 33 ?_); refine CallK.ofU (hla2 _ _ _ (by simp (disch := omega) only [upd_ne, AY]; rfl)) (A0 _) ?_) | ((with_reducible refine AP 31 ?_); (refine' CallP.sf ?_ (htx) ?_); (focus first | (with_reducible exact A0 _) | (simp [AC, AA, A1, A0]; done))) | (with_reducible first | refine A8 ?_ ?_ ?_ | exact AG | assumption | refine A3 ?_ | refine KM.of ?_ | refine AI ?_ | refine A5 ?_ | refine A7 ?_ | intro _g _hg | refine AK ?_ ?_ | intro _hc) | omega)
      all_goals first | exact A1 _ | (intro q hq; simp (disch := omega) only [upd_ne]; done)
    · rw [if_neg h4]
      refine AM Tryz.func13 VP rfl fun n H hH => ?_
      repeat' (first | (simp -implicitDefEqProofs [J1, Jr, c13, -getElem?_pos, splice, hel, h4]) | (simp (disch := omega) only [AJ]) | ((with_reducible refine Ad 33 ?_); refine CallK.ofU (hla2 _ _ _ (by simp (disch := omega) only [upd_ne, AY]; rfl)) (A0 _) ?_) | ((with_reducible refine AP 31 ?_); (refine' CallP.sf ?_ (htx) ?_); (focus first | (with_reducible exact A0 _) | (simp [AC, AA, A1, A0]; done))) | (with_reducible first | refine A8 ?_ ?_ ?_ | exact AG | assumption | refine A3 ?_ | refine KM.of ?_ | refine AI ?_ | refine A5 ?_ | refine A7 ?_ | intro _g _hg | refine AK ?_ ?_ | intro _hc) | omega)
      all_goals first | exact A1 _ | (intro q hq; simp (disch := omega) only [upd_ne]; done)
  · have e1 : ET (BW 0 0 0 l) = aF ((BW 0 0 0 l).2, ((BW 0 0 0 l).1 : Int)) := by unfold ET; rw [if_pos h0]
    have e2 : CO l = ((BW 0 0 0 l).2, ((BW 0 0 0 l).1 : Int)) := by unfold CO; rw [if_pos h0]
    rw [e1] at hla
    rw [e2]
    generalize FI (BW 0 0 0 l) = N1 at *
    generalize (BW 0 0 0 l).2 = R2 at *
    generalize (BW 0 0 0 l).1 = R1 at *
    have hla2 : ∀ gc n H, H gc = some (Em 0) → AUpd Tryz.prog 33 [.ptr gc 0, E1 l, .int .i64 0] n H (aF (R2, R1)) gc (Em N1) := fun gc n H h => hla gc n H (by omega) (by omega) h
    clear hla e1 e2
    refine AM Tryz.func13 VP rfl fun n H hH => ?_
    repeat' (first | (simp -implicitDefEqProofs [J1, Jr, c13, -getElem?_pos, splice, hel, h0]) | (simp (disch := omega) only [AJ]) | ((with_reducible refine Ad 33 ?_); refine CallK.ofU (hla2 _ _ _ (by simp (disch := omega) only [upd_ne, AY]; rfl)) (A0 _) ?_) | (with_reducible first | refine A8 ?_ ?_ ?_ | exact AG | assumption | refine A3 ?_ | refine KM.of ?_ | refine AI ?_ | refine A5 ?_ | refine A7 ?_ | intro _g _hg | refine AK ?_ ?_ | intro _hc) | omega)
    all_goals first | exact A1 _ | (intro q hq; simp (disch := omega) only [upd_ne]; done)
structure Own (n0 : Nat) (H0 : A2) (bs : List (Nat × AObj)) (n : Nat) (H : A2) : Prop where
  le : n0 ≤ n
  sup : ∀ q, n ≤ q → H q = none
  same : SameB n0 H0 H
  box : ∀ x ∈ bs, H x.1 = some x.2 ∧ n0 ≤ x.1
  nd : (bs.map (·.1)).Nodup
section
variable {n0 n n' : Nat} {H0 H H' : A2}
theorem Own.lt {bs : List (Nat × AObj)} (h : Own n0 H0 bs n H) {x : Nat × AObj} (hx : x ∈ bs) : x.1 < n := by
  rcases Nat.lt_or_ge x.1 n with h1 | h1
  · exact h1
  · have := (h.box x hx).1; rw [h.sup _ h1] at this; cases this
theorem Own.perm {bs bs' : List (Nat × AObj)} (h : Own n0 H0 bs n H) (hp : bs.Perm bs') : Own n0 H0 bs' n H :=
  ⟨h.le, h.sup, h.same, fun x hx => h.box x (hp.mem_iff.2 hx), (hp.map _).nodup_iff.1 h.nd⟩
theorem Own.re {xs ys rest : List (Nat × AObj)} (h : Own n0 H0 (xs ++ rest) n H) (hle : n ≤ n') (hsup : ∀ q, n' ≤ q → H' q = none) (hfr : ∀ q, q < n → q ∉ xs.map (·.1) → H' q = H q) (hb : ∀ y ∈ ys, H' y.1 = some y.2 ∧ (y.1 ∈ xs.map (·.1) ∨ n ≤ y.1)) (hnd : (ys.map (·.1)).Nodup) : Own n0 H0 (ys ++ rest) n' H' := by
  have hnd0 := h.nd
  rw [List.map_append, List.nodup_append] at hnd0
  obtain ⟨d1, d2, d3⟩ := hnd0
  have hx0 : ∀ q ∈ xs.map (·.1), n0 ≤ q := by
    intro q hq
    obtain ⟨x, hx, rfl⟩ := List.mem_map.1 hq
    exact (h.box x (List.mem_append_left _ hx)).2
  refine ⟨Nat.le_trans h.le hle, hsup, fun q hq => ?_, fun x hx => ?_, ?_⟩
  · rw [hfr q (by have := h.le; omega) (fun hm => by have := hx0 q hm; omega)]
    exact h.same q hq
  · rcases List.mem_append.1 hx with hx | hx
    · obtain ⟨a, b⟩ := hb x hx
      refine ⟨a, ?_⟩
      rcases b with b | b
      · exact hx0 _ b
      · have := h.le; omega
    · have hl := h.lt (List.mem_append_right _ hx)
      obtain ⟨a, b⟩ := h.box x (List.mem_append_right _ hx)
      refine ⟨?_, b⟩
      rw [hfr _ hl (fun hm => d3 _ hm _ (List.mem_map_of_mem hx) rfl)]
      exact a
  · rw [List.map_append, List.nodup_append]
    refine ⟨hnd, d2, fun a ha b hb2 he => ?_⟩
    subst he
    obtain ⟨y, hy, rfl⟩ := List.mem_map.1 ha
    obtain ⟨z, hz, e⟩ := List.mem_map.1 hb2
    rcases (hb y hy).2 with b | b
    · exact d3 _ b _ hb2 rfl
    · have := h.lt (List.mem_append_right xs hz)
      have e : z.1 = y.1 := e
      omega
theorem Own.new {bs : List (Nat × AObj)} (h : Own n0 H0 bs n H) {g : Nat} (hg : n ≤ g) (ob : Option AObj) : Own n0 H0 bs (g + 1) (upd H g ob) := by
  have := h.re (xs := []) (ys := []) (rest := bs) (n' := g + 1) (H' := upd H g ob) (by omega) (fun q hq => by rw [upd_ne (by omega)]; exact h.sup q (by omega)) (fun q hq _ => upd_ne (by omega)) (by simp) (by simp)
  exact this
theorem Own.fst {g : Nat} {ob : AObj} {bs : List (Nat × AObj)} (h : Own n0 H0 ((g, ob) :: bs) n H) : H g = some ob ∧ n0 ≤ g ∧ g < n := ⟨(h.box _ List.mem_cons_self).1, (h.box _ List.mem_cons_self).2, h.lt List.mem_cons_self⟩
theorem Own.at_ {g : Nat} {ob : AObj} {bs : List (Nat × AObj)} (h : Own n0 H0 bs n H) (hm : (g, ob) ∈ bs) : H g = some ob ∧ n0 ≤ g ∧ g < n := ⟨(h.box _ hm).1, (h.box _ hm).2, h.lt hm⟩
theorem Own.less {bs bs' : List (Nat × AObj)} (h : Own n0 H0 (bs ++ bs') n H) : Own n0 H0 bs n H :=
  ⟨h.le, h.sup, h.same, fun x hx => h.box x (List.mem_append_left _ hx), by have := h.nd; rw [List.map_append, List.nodup_append] at this; exact this.1⟩
end
/-! ### parts, as they lie -/
abbrev CT (l : List Pt) : AObj := .grow 55 (AD (AH l))
def CW (g : Nat) : List Pt → AV
  | [] => .sl 0 [] .nil
  | x :: r => .slg 7 g (r.length + 1)
def Gm (g : Nat) : List Pt → List (Nat × AObj)
  | [] => []
  | x :: r => [(g, CT (x :: r))]
theorem JH {g : Nat} {l : List Pt} (h : l ≠ []) : CW g l = .slg 7 g l.length := by cases l with | nil => exact absurd rfl h | cons x r => rfl
theorem EP {g : Nat} {l : List Pt} (h : l ≠ []) : Gm g l = [(g, CT l)] := by cases l with | nil => exact absurd rfl h | cons x r => rfl
theorem L1 (g : Nat) (l : List Pt) : (CW g l).one = true ∧ (CW g l).fits none = true ∧ (CW g l).cells = [CW g l] := by cases l <;> exact ⟨rfl, rfl, rfl⟩
theorem Ur (a b : List AV) : AD (a ++ b) = AD a ++ AD b := by simp [AD]
theorem GV : ∀ l : List Pt, (AD (AH l)).length = l.length * 7
  | [] => by simp [AH, AD]
  | x :: r => by
    have h := GV r
    obtain ⟨k, t, n, pa, fs, b, e⟩ := x
    have e : AD (AH (.mk k t n pa fs b e :: r)) = (E8 (.mk k t n pa fs b e)).cells ++ AD (AH r) := by simp [AH, AD]
    rw [e, List.length_append, h, BZ]
    simp [AV.cells]; omega
theorem RN {cs z v : List AV} (h : v.length = z.length) : splice (cs ++ z) cs.length v = cs ++ v := by
  unfold splice
  rw [List.take_left' rfl, List.drop_eq_nil_of_le (by simp; omega), List.append_nil]
theorem Tb {cs z v : List AV} {k : Nat} : splice (cs ++ z) (cs.length + k) v = cs ++ splice z k v := by
  unfold splice
  rw [List.take_length_add_append, Nat.add_assoc, List.drop_length_add_append, List.append_assoc, List.append_assoc, List.append_assoc]
theorem DR {z g k : Nat} : BA none (.slg z g k) = True := by simp [BA, AV.fits, ones, AV.cells, AV.one]
theorem P6 {a0 a1 a2 a3 a4 a5 a6 b0 b1 b2 b3 b4 b5 b6 : AV} : splice [a0, a1, a2, a3, a4, a5, a6] 0 [b0, b1, b2, b3, b4, b5, b6] = [b0, b1, b2, b3, b4, b5, b6] := rfl
structure CellT (T off e : Nat) (ct : AV → List AV) : Prop where
  get : ∀ v, (ct v)[off]? = some v
  put : ∀ v w, splice (ct v) off [w] = ct w
  len : ∀ v, off + 1 ≤ (ct v).length
def Rk (Q : AExit → AS → Prop) (T e g n1 : Nat) (H1 : A2) (ct : AV → List AV) (l : List Pt) (x : Pt) : Prop :=
  ∀ (en : AL) (n' : Nat) (H' : A2) (g' : Nat) (ex : AExit), (ex = .normal ∨ ex = .ret) → n1 ≤ n' → (∀ q, n' ≤ q → H' q = none) → (g' = g ∧ l ≠ [] ∨ n1 ≤ g') → g' < n' → H' T = some (.cells e (ct (CW g' (Cx x l)))) → H' g' = some (CT (Cx x l)) → (∀ q, q < n1 → q ≠ T → (l ≠ [] → q ≠ g) → H' q = H1 q) → Q ex ⟨en, n', H'⟩
theorem X8 {Q : AExit → AS → Prop} {T off e g g3 n1 : Nat} {H1 : A2} {ct : AV → List AV} {k : Int} {t nm : AF} {pa : List AF} {fs : List (AF × Int)} {b e' : List Pt} (hc : CellT T off e ct) (hs : ∀ q, n1 ≤ q → H1 q = none) (hT : H1 T = some (.cells e (ct (.sl 0 [] .nil)))) (h3 : H1 g3 = some (.cells 55 [aI k, .str t, .str nm, DN pa, Bz fs, .sl 7 (AH b) .ro, .sl 7 (AH e') .ro])) (hTn : T < n1) (h3n : g3 < n1) (hne : T ≠ g3)
    (hQ : Rk Q T e g n1 H1 ct [] (.mk k t nm pa fs b e')) : aw Tryz.prog c70_k2 Q ⟨[(3, .ptr g3 0), (4, .ptr T off)], n1, H1⟩ := by
  have hfl : AD (AH [.mk k t nm pa fs b e']) = [aI k, .str t, .str nm, DN pa, Bz fs, .sl 7 (AH b) .ro, .sl 7 (AH e') .ro] := by simp [AH, AD, BZ, AV.cells]
  unfold Rk at hQ
  rw [UY] at hQ
  unfold CT at hQ
  rw [hfl] at hQ
  generalize AH b = eb at *
  generalize AH e' = ee at *
  obtain ⟨c1, c2, c3⟩ := hc
  
  repeat' (first | (simp -implicitDefEqProofs [GO, GS, EA, c70, -getElem?_pos, hT, h3, hne, Ne.symm hne, DR, P6, c1, c2, c3]) | (simp (disch := omega) only [AJ]) | (refine Nt (.inl rfl) (A0 _) (by simp) (by simp) (by simp [maxLen]) (fun g hg => ?_)) | (with_reducible first | refine A8 ?_ ?_ ?_ | exact AG | assumption | refine A3 ?_ | refine KM.of ?_ | refine AI ?_ | refine A5 ?_ | refine AR ?_ | refine A7 ?_ | refine AW ?_ | refine AQ ?_ | intro _g _hg | refine AK ?_ ?_ | intro _hc) | omega)
  refine hQ _ (g + 1) _ g .normal (.inl rfl) (by omega) (fun q hq => by simp (disch := omega) only [upd_ne]; exact hs q (by omega)) (.inr (by omega)) (by omega) (AY _ _ _) (by simp (disch := omega) only [upd_ne, AY]) (fun q q1 q2 _ => by simp (disch := omega) only [upd_ne])
theorem last_at {l : List Pt} {y : Pt} {k : Int} {t nm : AF} {pa : List AF} {fs : List (AF × Int)} {b e : List Pt} (hy : y = .mk k t nm pa fs b e) : AD (AH (l ++ [y])) = AD (AH l) ++ [aI k, .str t, .str nm, DN pa, Bz fs, .sl 7 (AH b) .ro, .sl 7 (AH e) .ro] := by
  subst hy
  rw [Nr, Ur]
  simp [AH, AD, BZ, AV.cells]
theorem Vg {Q : AExit → AS → Prop} {T off e g g3 n1 : Nat} {H1 : A2} {ct : AV → List AV} {t2 t : AF} {l : List Pt} {c2 c3 c4 c5 c6 : AV} (hc : CellT T off e ct) (hs : ∀ q, n1 ≤ q → H1 q = none) (hT : H1 T = some (.cells e (ct (CW g (l ++ [tP t2]))))) (hg : H1 g = some (CT (l ++ [tP t2]))) (h3 : H1 g3 = some (.cells 55 [aI 1, .str t, c2, c3, c4, c5, c6])) (hTn : T < n1) (h3n : g3 < n1) (hne : T ≠ g3) (hgT : g ≠ T) (hg3 : g ≠ g3) (hgn : g < n1) (hl : l.length ≤ 100000) (ht2 : t2.length ≤ 100000) (ht : t.length ≤ 100000)
    (hQ : Rk Q T e g n1 H1 ct (l ++ [tP t2]) (tP t)) : aw Tryz.prog c70_k2 Q ⟨[(3, .ptr g3 0), (4, .ptr T off)], n1, H1⟩ := by
  have hne0 : l ++ [tP t2] ≠ [] := by simp
  have hfl := last_at (l := l) (y := tP t2) rfl
  have hfl2 := last_at (l := l) (y := tP (t2 ++ t)) rfl
  have hll := GV l
  have hlen : (l ++ [tP t2]).length = l.length + 1 := by simp
  unfold Rk at hQ
  rw [OB, if_pos ⟨rfl, rfl⟩] at hQ
  rw [JH hne0, hlen] at hT
  have hlen2 : (l ++ [tP ((tP t2).t ++ (tP t).t)]).length = l.length + 1 := by simp
  unfold CT at hg hQ
  have e0 : tP ((tP t2).t ++ (tP t).t) = tP (t2 ++ t) := rfl
  rw [e0] at hQ hlen2
  rw [hfl2] at hQ
  rw [hfl] at hg
  generalize AD (AH l) = cs at *
  obtain ⟨c1, c2, c3⟩ := hc
  have hi : ((l.length : Int) + 1 - 1) = l.length := by omega
  have q0 : ∀ z, (cs ++ z)[l.length * 7]? = z[0]? := fun z => by rw [← hll, List.getElem?_append_right (Nat.le_refl _)]; simp
  have q1 : ∀ z, (cs ++ z)[l.length * 7 + 1]? = z[1]? := fun z => by rw [← hll, List.getElem?_append_right (by omega)]; simp
  have q2 : ∀ a0 a1 a2 a3 a4 a5 a6 w, splice (cs ++ [a0, a1, a2, a3, a4, a5, a6]) (l.length * 7 + 1) [w] = cs ++ [a0, w, a2, a3, a4, a5, a6] := fun a0 a1 a2 a3 a4 a5 a6 w => by
    rw [← hll, Tb]; rfl
  have q3 : l.length * 7 + 1 + 1 ≤ cs.length + 7 := by omega
  
  repeat' (first | (simp -implicitDefEqProofs [GO, GS, EA, c70, -getElem?_pos, hT, h3, hg, hne, Ne.symm hne, hgT, Ne.symm hgT, hg3, Ne.symm hg3, DR, c1, q0, q1, q2, q3, hi]) | (simp (disch := omega) only [AJ]) | (with_reducible first | refine A8 ?_ ?_ ?_ | exact AG | assumption | refine A3 ?_ | refine KM.of ?_ | refine AI ?_ | refine A5 ?_ | refine AR ?_ | refine A7 ?_ | refine AW ?_ | refine AQ ?_ | intro _g _hg | refine AK ?_ ?_ | intro _hc) | omega)
  refine hQ _ n1 _ g .ret (.inr rfl) (Nat.le_refl _) (fun q hq => by rw [upd_ne (by omega)]; exact hs q hq) (.inl ⟨rfl, hne0⟩) hgn ?_ (AY _ _ _) (fun q h1 h2 h4 => upd_ne (h4 hne0))
  rw [upd_ne (Ne.symm hgT), hT, JH (by simp), hlen2]
theorem Uy {Q : AExit → AS → Prop} {T off e g g3 n1 : Nat} {H1 : A2} {ct : AV → List AV} {k : Int} {t nm : AF} {pa : List AF} {fs : List (AF × Int)} {b e' : List Pt} {l : List Pt} {y : Pt} (hc : CellT T off e ct) (hs : ∀ q, n1 ≤ q → H1 q = none) (hT : H1 T = some (.cells e (ct (CW g (l ++ [y]))))) (hg : H1 g = some (CT (l ++ [y]))) (h3 : H1 g3 = some (.cells 55 [aI k, .str t, .str nm, DN pa, Bz fs, .sl 7 (AH b) .ro, .sl 7 (AH e') .ro])) (hTn : T < n1) (h3n : g3 < n1) (hne : T ≠ g3) (hgT : g ≠ T) (hg3 : g ≠ g3) (hgn : g < n1) (hl : l.length ≤ 100000) (hk : ¬ (k = 1 ∧ y.k = 1))
    (hQ : Rk Q T e g n1 H1 ct (l ++ [y]) (.mk k t nm pa fs b e')) : aw Tryz.prog c70_k2 Q ⟨[(3, .ptr g3 0), (4, .ptr T off)], n1, H1⟩ := by
  have hne0 : l ++ [y] ≠ [] := by simp
  have hlen : (l ++ [y]).length = l.length + 1 := by simp
  have hll := GV l
  have hll1 := GV (l ++ [y])
  rw [hlen] at hll1
  have hlen2 : (l ++ [y] ++ [Pt.mk k t nm pa fs b e']).length = l.length + 2 := by simp
  have hfl2 := last_at (l := l ++ [y]) (y := .mk k t nm pa fs b e') rfl
  unfold Rk at hQ
  rw [OB, if_neg (show ¬ ((Pt.mk k t nm pa fs b e').k = 1 ∧ y.k = 1) from hk)] at hQ
  rw [JH hne0, hlen] at hT
  unfold CT at hg hQ
  rw [hfl2] at hQ
  have hya : ∃ c : List AV, AD (AH (l ++ [y])) = AD (AH l) ++ aI y.k :: c := by
    obtain ⟨a1, a2, a3, a4, a5, a6, a7⟩ := y
    exact ⟨_, last_at rfl⟩
  obtain ⟨yc, hyc⟩ := hya
  generalize hcs : AD (AH (l ++ [y])) = cs at *
  generalize AH b = eb at *
  generalize AH e' = ee at *
  obtain ⟨c1, c2, c3⟩ := hc
  have hi : ((l.length : Int) + 1 - 1) = l.length := by omega
  have q0 : cs[l.length * 7]? = some (aI y.k) := by rw [hyc, ← hll, List.getElem?_append_right (Nat.le_refl _)]; simp
  have hsp : ∀ v : List AV, v.length = 7 → splice (cs ++ [aI 0, .str [], .str [], .sl 0 [] .nil, .sl 0 [] .nil, .sl 0 [] .nil, .sl 0 [] .nil]) ((l.length + 1) * 7) v = cs ++ v := fun v h => by rw [← hll1]; exact RN h
  have hil : (l.length : Int) + 1 < l.length + 2 := by omega
  clear hcs hyc
  generalize y.k = yk at *
  
  by_cases hk1 : k = 1
  · have hy1 : ¬ yk = 1 := fun h => hk ⟨hk1, h⟩
    subst hk1
    repeat' (first | (simp -implicitDefEqProofs [GO, GS, EA, c70, -getElem?_pos, hT, h3, hg, hne, Ne.symm hne, hgT, Ne.symm hgT, hg3, Ne.symm hg3, DR, P6, c1, c2, c3, q0, hi, hil, hy1, hsp]) | (simp (disch := omega) only [AJ]) | (with_reducible refine RD [g] ?_) | (refine JL (.inl rfl) (A0 _) (by simp (disch := omega) only [upd_ne]; exact hg) hll1 (by simp; omega) (by simp [maxLen]; omega) (fun g' n' hg h1 h2 => ?_)) | (with_reducible first | refine A8 ?_ ?_ ?_ | exact AG | assumption | refine A3 ?_ | refine KM.of ?_ | refine AI ?_ | refine A5 ?_ | refine AR ?_ | refine A7 ?_ | refine AW ?_ | refine AQ ?_ | intro _g _hg | refine AK ?_ ?_ | intro _hc) | omega)
    refine hQ _ n' _ g' .normal (.inl rfl) (by omega) (fun q hq => by simp (disch := omega) only [upd_ne]; exact hs q (by omega)) (by rcases hg with h | h; exact .inl ⟨h, hne0⟩; exact .inr (by omega)) h2 ?_ ?_ (fun q q1 q2 q3 => ?_)
    · rw [AY, JH (by simp), hlen2]
    · have : g' ≠ T := by omega
      rw [upd_ne this, AY]
    · have := q3 hne0
      have : q ≠ g' := by omega
      simp (disch := omega) only [upd_ne]
  · repeat' (first | (simp -implicitDefEqProofs [GO, GS, EA, c70, -getElem?_pos, hT, h3, hg, hne, Ne.symm hne, hgT, Ne.symm hgT, hg3, Ne.symm hg3, DR, P6, c1, c2, c3, q0, hi, hil, hk1, hsp]) | (simp (disch := omega) only [AJ]) | (with_reducible refine RD [g] ?_) | (refine JL (.inl rfl) (A0 _) (by simp (disch := omega) only [upd_ne]; exact hg) hll1 (by simp; omega) (by simp [maxLen]; omega) (fun g' n' hg h1 h2 => ?_)) | (with_reducible first | refine A8 ?_ ?_ ?_ | exact AG | assumption | refine A3 ?_ | refine KM.of ?_ | refine AI ?_ | refine A5 ?_ | refine AR ?_ | refine A7 ?_ | refine AW ?_ | refine AQ ?_ | intro _g _hg | refine AK ?_ ?_ | intro _hc) | omega)
    refine hQ _ n' _ g' .normal (.inl rfl) (by omega) (fun q hq => by simp (disch := omega) only [upd_ne]; exact hs q (by omega)) (by rcases hg with h | h; exact .inl ⟨h, hne0⟩; exact .inr (by omega)) h2 ?_ ?_ (fun q q1 q2 q3 => ?_)
    · rw [AY, JH (by simp), hlen2]
    · have : g' ≠ T := by omega
      rw [upd_ne this, AY]
    · have := q3 hne0
      have : q ≠ g' := by omega
      simp (disch := omega) only [upd_ne]
theorem WI {Q : AExit → AS → Prop} {T off e g g3 n1 : Nat} {H1 : A2} {ct : AV → List AV} {k : Int} {t nm : AF} {pa : List AF} {fs : List (AF × Int)} {b e' : List Pt} {l : List Pt} (hc : CellT T off e ct) (hs : ∀ q, n1 ≤ q → H1 q = none) (hT : H1 T = some (.cells e (ct (CW g l)))) (hg : l ≠ [] → H1 g = some (CT l) ∧ g ≠ T ∧ g ≠ g3 ∧ g < n1) (h3 : H1 g3 = some (.cells 55 [aI k, .str t, .str nm, DN pa, Bz fs, .sl 7 (AH b) .ro, .sl 7 (AH e') .ro])) (hTn : T < n1) (h3n : g3 < n1) (hne : T ≠ g3) (hl : R4 100000 l) (ht : t.length ≤ 100000) (hx : k = 1 → Pt.mk k t nm pa fs b e' = tP t)
    (hQ : Rk Q T e g n1 H1 ct l (.mk k t nm pa fs b e')) : aw Tryz.prog c70_k2 Q ⟨[(3, .ptr g3 0), (4, .ptr T off)], n1, H1⟩ := by
  rcases List.eq_nil_or_concat l with rfl | ⟨l', y, rfl⟩
  · exact X8 (g := g) hc hs hT h3 hTn h3n hne hQ
  · obtain ⟨a1, a2, a3, a4⟩ := hg (by simp)
    obtain ⟨b1, b2, b3⟩ := hl
    simp only [List.concat_eq_append] at *
    have hl' : l'.length ≤ 100000 := by simp at b1; omega
    by_cases hk : k = 1 ∧ y.k = 1
    · obtain ⟨rfl, hy⟩ := hk
      have hy2 := b3 y (by simp) hy
      have hx2 := hx rfl
      have hy3 := UV (bdPs_iff.1 b2 y (by simp))
      rw [hx2] at hQ
      rw [hy2] at hT a1 hQ
      exact Vg hc hs hT a1 h3 hTn h3n hne a2 a3 a4 hl' hy3 ht hQ
    · exact Uy hc hs hT a1 h3 hTn h3n hne a2 a3 a4 hl' hk hQ
structure Op where
  p : Pt
  f : Bool
  g : Nat
  gb : Nat
  ge : Nat
def opC (o : Op) : List AV := [aI o.p.k, .str o.p.t, .str o.p.n, DN o.p.pa, Bz o.p.fs, CW o.gb o.p.b, CW o.ge o.p.e, .bool o.f]
def U2 (o : Op) : List (Nat × AObj) := (o.g, .cells 126 (opC o)) :: (Gm o.gb o.p.b ++ Gm o.ge o.p.e)
def M5 (gs : Option Nat) (n : Nat) : AV := match gs with | none => .sl 0 [] .nil | some g => .slg 1 g n
def LU (ops : List Nat) : List AV := ops.reverse.map fun g => .ptr g 0
def Po (gs : Option Nat) (ops : List Nat) : List (Nat × AObj) := match gs with | none => [] | some g => [(g, .grow 127 (LU ops))]
def M4 (gp gl : Nat) (gs : Option Nat) (ps : List Pt) (ops : List Op) : List (Nat × AObj) := (gp, .cells 74 [CW gl ps, M5 gs ops.length]) :: (Gm gl ps ++ (Po gs (ops.map Op.g) ++ ops.flatMap U2))
def PS (n0 : Nat) (H0 : A2) (gp : Nat) (st : Cz) (n : Nat) (H : A2) : Prop := ∃ gl gs ops, Own n0 H0 (M4 gp gl gs st.1 ops) n H ∧ ops.map (fun o => (o.p, o.f)) = st.2 ∧ (gs = none → ops = [])
theorem Lt (g : Nat) (r : List Nat) : LU (g :: r) = LU r ++ [.ptr g 0] := by simp [LU]
theorem P0 (r : List Nat) : (LU r).length = r.length := by simp [LU]
theorem pm1 {α : Type} (A D : α) (B C E F G : List α) : (A :: (B ++ (C ++ ((D :: (E ++ F)) ++ G)))).Perm ((D :: E) ++ (A :: (B ++ (C ++ (F ++ G))))) := by
  classical exact List.perm_iff_count.2 fun a => by simp [List.count_append, List.count_cons]; omega
theorem pm2 {α : Type} (A D : α) (B C E F G : List α) : (A :: (B ++ (C ++ ((D :: (E ++ F)) ++ G)))).Perm ((D :: F) ++ (A :: (B ++ (C ++ (E ++ G))))) := by
  classical exact List.perm_iff_count.2 fun a => by simp [List.count_append, List.count_cons]; omega
section
variable {n0 n n' g g' T e : Nat} {H0 H H' : A2} {ct : AV → List AV} {rest : List (Nat × AObj)} {l l' : List Pt}
theorem VF (hl : l ≠ []) (h : Own n0 H0 (((T, .cells e (ct (CW g l))) :: Gm g l) ++ rest) n H) : H g = some (CT l) ∧ g ≠ T ∧ g < n := by
  rw [EP hl] at h
  obtain ⟨a, _, b⟩ := h.at_ (g := g) (ob := CT l) (by simp)
  refine ⟨a, ?_, b⟩
  have := h.nd
  simp at this
  exact fun e => this.1.1 e.symm
theorem Own.lst (h : Own n0 H0 (((T, .cells e (ct (CW g l))) :: Gm g l) ++ rest) n H) (hle : n ≤ n') (hs : ∀ q, n' ≤ q → H' q = none) (hg : g' = g ∧ l ≠ [] ∨ n ≤ g') (hT : H' T = some (.cells e (ct (CW g' l')))) (hg' : H' g' = some (CT l')) (hl' : l' ≠ []) (hf : ∀ q, q < n → q ≠ T → (l ≠ [] → q ≠ g) → H' q = H q) : Own n0 H0 (((T, .cells e (ct (CW g' l'))) :: Gm g' l') ++ rest) n' H' := by
  have hTn := h.fst.2.2
  refine h.re hle hs (fun q hq hm => ?_) (fun y hy => ?_) ?_
  · simp only [List.map_cons, List.mem_cons, not_or] at hm
    refine hf q hq hm.1 fun hl hqg => hm.2 ?_
    rw [EP hl, hqg]; simp
  · rcases List.mem_cons.1 hy with rfl | hy
    · exact ⟨hT, .inl (by simp)⟩
    · rw [EP hl', List.mem_singleton] at hy
      subst hy
      refine ⟨hg', ?_⟩
      rcases hg with ⟨rfl, hl⟩ | hg
      · left; rw [EP hl]; simp
      · exact .inr hg
  · rw [EP hl']
    have : T ≠ g' := by
      rcases hg with ⟨rfl, hl⟩ | hg
      · exact fun e => (VF hl h).2.1 e.symm
      · omega
    simp [this]
end
theorem Sn (x : Pt) (l : List Pt) : Cx x l ≠ [] := by
  unfold Cx
  cases l.getLast? with
  | none => simp
  | some y => dsimp only; split <;> simp
abbrev agP (k : Int) (t nm : AF) (pa : List AF) (fs : List (AF × Int)) (b e : List Pt) : AV := .agg [aI k, .str t, .str nm, DN pa, Bz fs, .sl 7 (AH b) .ro, .sl 7 (AH e) .ro]
theorem Vz {n0 n g T e off : Nat} {H0 H : A2} {ct : AV → List AV} {rest : List (Nat × AObj)} {l : List Pt} {k : Int} {t nm : AF} {pa : List AF} {fs : List (AF × Int)} {b e' : List Pt} (hc : CellT T off e ct) (h : Own n0 H0 (((T, .cells e (ct (CW g l))) :: Gm g l) ++ rest) n H) (hl : R4 100000 l) (ht : t.length ≤ 100000) (hx : k = 1 → Pt.mk k t nm pa fs b e' = tP t) {g3 : Nat} (h3 : n ≤ g3) {R : DL} (hR : ∀ n' H' g', Own n0 H0 (((T, .cells e (ct (CW g' (Cx (.mk k t nm pa fs b e') l)))) :: Gm g' (Cx (.mk k t nm pa fs b e') l)) ++ rest) n' H' → n ≤ n' → R (.tup []) n' H') :
    aw Tryz.prog c70_k2 (fin R n []) ⟨[(3, .ptr g3 0), (4, .ptr T off)], g3 + 1, upd H g3 (some (.cells 55 [aI k, .str t, .str nm, DN pa, Bz fs, .sl 7 (AH b) .ro, .sl 7 (AH e') .ro]))⟩ := by
  have hT := h.fst
  refine WI (g := g) (l := l) (T := T) (off := off) (ct := ct) (e := e) hc (fun q hq => by rw [upd_ne (by omega)]; exact h.sup q (by omega)) (by rw [upd_ne (by omega)]; exact hT.1) (fun hne => ?_) (AY _ _ _) (by omega) (by omega) (by omega) hl ht hx ?_
  · obtain ⟨a1, a2, a3⟩ := VF hne h
    exact ⟨by rw [upd_ne (by omega)]; exact a1, a2, by omega, by omega⟩
  · intro en n' H' g' ex hex q1 q2 q3 q4 q5 q6 q7
    have hO : Own n0 H0 (((T, .cells e (ct (CW g' (Cx (.mk k t nm pa fs b e') l)))) :: Gm g' (Cx (.mk k t nm pa fs b e') l)) ++ rest) n' H' := by
      by_cases hne : l = []
      · subst hne
        refine h.lst (by omega) q2 ?_ q5 q6 (Sn _ _) (fun q c1 c2 c3 => ?_)
        · rcases q3 with q3 | q3
          · exact absurd rfl q3.2
          · right; omega
        · rw [q7 q (by omega) c2 (fun h => absurd rfl h), upd_ne (by omega)]
      · refine h.lst (by omega) q2 ?_ q5 q6 (Sn _ _) (fun q c1 c2 c3 => ?_)
        · rcases q3 with q3 | q3
          · exact .inl q3
          · right; omega
        · rw [q7 q (by omega) c2 c3, upd_ne (by omega)]
    rcases hex with rfl | rfl
    · exact PF rfl (by omega) q2 (hR _ _ _ hO (by omega))
    · exact B8 rfl (by omega) q2 (hR _ _ _ hO (by omega))
theorem L2 {Q : AExit → AS → Prop} {en : AL} {n1 : Nat} {H1 : A2} {x y : AV} (e3 : get en 3 = x) (e4 : get en 4 = y) (h : aw Tryz.prog c70_k2 Q ⟨[(3, x), (4, y)], n1, H1⟩) : aw Tryz.prog c70_k2 Q ⟨en, n1, H1⟩ := by
  have e : CS en [3, 4] = CS [(3, x), (4, y)] [3, 4] := by simp [CS, get, e3, e4]
  unfold c70_k2 at h ⊢
  rw [EU] at h ⊢
  rw [e]
  exact h
theorem UR {n0 n gp : Nat} {H0 H : A2} {st : Cz} {k : Int} {t nm : AF} {pa : List AF} {fs : List (AF × Int)} {b e' : List Pt} (h : PS n0 H0 gp st n H) (hb : M6 100000 st) (ht : t.length ≤ 100000) (hx : k = 1 → Pt.mk k t nm pa fs b e' = tP t) :
    ACalls Tryz.prog 70 [.ptr gp 0, agP k t nm pa fs b e'] n H (fun r n' H' => r = .tup [] ∧ PS n0 H0 gp (DA (.mk k t nm pa fs b e') st) n' H' ∧ n ≤ n') := by
  obtain ⟨gl, gs, ops, hO, he, hgs⟩ := h
  have hP := hO.fst.1
  have hlt := hO.fst.2.2
  have htop := Kx hb
  obtain ⟨ps, kk⟩ := st
  simp only at he hP hO
  have hadd : ∀ g3, n ≤ g3 → ∀ (T off g e : Nat) (ct : AV → List AV) (rest : List (Nat × AObj)), CellT T off e ct → Own n0 H0 (((T, .cells e (ct (CW g (E0 (ps, kk))))) :: Gm g (E0 (ps, kk))) ++ rest) n H → (∀ n' H' g', Own n0 H0 (((T, .cells e (ct (CW g' (Cx (.mk k t nm pa fs b e') (E0 (ps, kk)))))) :: Gm g' (Cx (.mk k t nm pa fs b e') (E0 (ps, kk)))) ++ rest) n' H' → PS n0 H0 gp (DA (.mk k t nm pa fs b e') (ps, kk)) n' H') → aw Tryz.prog c70_k2 (fin (fun r n' H' => r = .tup [] ∧ PS n0 H0 gp (DA (.mk k t nm pa fs b e') (ps, kk)) n' H' ∧ n ≤ n') n []) ⟨[(3, .ptr g3 0), (4, .ptr T off)], g3 + 1, upd H g3 (some (.cells 55 [aI k, .str t, .str nm, DN pa, Bz fs, .sl 7 (AH b) .ro, .sl 7 (AH e') .ro]))⟩ := by
    intro g3 h3 T off g e ct rest hc hO' hk
    exact Vz hc hO' htop ht hx h3 fun n' H' g' hO2 hle => ⟨rfl, hk n' H' g' hO2, hle⟩
  cases ops with
  | nil =>
    have hkk : kk = [] := by rw [← he]; rfl
    subst hkk
    have hfin : ∀ g3, n ≤ g3 → aw Tryz.prog c70_k2 (fin (fun r n' H' => r = .tup [] ∧ PS n0 H0 gp (DA (.mk k t nm pa fs b e') (ps, [])) n' H' ∧ n ≤ n') n []) ⟨[(3, .ptr g3 0), (4, .ptr gp 0)], g3 + 1, upd H g3 (some (.cells 55 [aI k, .str t, .str nm, DN pa, Bz fs, .sl 7 (AH b) .ro, .sl 7 (AH e') .ro]))⟩ := fun g3 h3 =>
      hadd g3 h3 gp 0 gl 74 (fun v => [v, M5 gs 0]) (Po gs []) ⟨fun _ => rfl, fun _ _ => rfl, fun _ => by simp⟩ (by simpa [M4, E0] using hO) (fun n' H' g' hO2 => ⟨g', gs, [], by simpa [M4, E0, DA, B0] using hO2, rfl, fun _ => rfl⟩)
    clear hadd
    refine AO Tryz.func70 XD rfl fun hs => ?_
    cases gs with
    | none =>
      repeat' (first | (simp -implicitDefEqProofs [c70, -getElem?_pos, hP, M5]) | (simp (disch := omega) only [AJ]) | (with_reducible first | refine A8 ?_ ?_ ?_ | exact AG | assumption | refine A3 ?_ | refine KM.of ?_ | refine AI ?_ | refine A5 ?_ | refine AR ?_ | refine A7 ?_ | refine AW ?_ | refine AQ ?_ | intro _g _hg | refine AK ?_ ?_ | intro _hc) | omega)
      exact L2 rfl rfl (hfin _ (by assumption))
    | some g =>
      repeat' (first | (simp -implicitDefEqProofs [c70, -getElem?_pos, hP, M5]) | (simp (disch := omega) only [AJ]) | (with_reducible first | refine A8 ?_ ?_ ?_ | exact AG | assumption | refine A3 ?_ | refine KM.of ?_ | refine AI ?_ | refine A5 ?_ | refine AR ?_ | refine A7 ?_ | refine AW ?_ | refine AQ ?_ | intro _g _hg | refine AK ?_ ?_ | intro _hc) | omega)
      exact L2 rfl rfl (hfin _ (by assumption))
  | cons o r =>
    obtain ⟨p, f, g, gb, ge⟩ := o
    have hkk : kk = (p, f) :: r.map (fun o => (o.p, o.f)) := by rw [← he]; rfl
    subst hkk
    cases gs with
    | none => exact absurd (hgs rfl) (by simp)
    | some gk =>
      have hm1 : (gk, AObj.grow 127 (LU (g :: r.map Op.g))) ∈ M4 gp gl (some gk) ps (⟨p, f, g, gb, ge⟩ :: r) := by simp [M4, Po]
      have hm2 : (g, AObj.cells 126 (opC ⟨p, f, g, gb, ge⟩)) ∈ M4 gp gl (some gk) ps (⟨p, f, g, gb, ge⟩ :: r) := by simp [M4, U2]
      have hK := (hO.at_ hm1).1
      have hG := (hO.at_ hm2).1
      have hGn := (hO.at_ hm2).2.2
      have hKn := (hO.at_ hm1).2.2
      rw [Lt] at hK
      have hsl := P0 (r.map Op.g)
      rw [List.length_map] at hsl
      have hrl : r.length ≤ 100000 := by have := hb.2.1; simp at this; omega
      obtain ⟨k', t', nm', pa', fs', b2, e2⟩ := p
      have hfin : ∀ g3, n ≤ g3 → aw Tryz.prog c70_k2 (fin (fun r' n' H' => r' = .tup [] ∧ PS n0 H0 gp (DA (.mk k t nm pa fs b e') (ps, (Pt.mk k' t' nm' pa' fs' b2 e2, f) :: r.map (fun o => (o.p, o.f)))) n' H' ∧ n ≤ n') n []) ⟨[(3, .ptr g3 0), (4, .ptr g (if f = true then 6 else 5))], g3 + 1, upd H g3 (some (.cells 55 [aI k, .str t, .str nm, DN pa, Bz fs, .sl 7 (AH b) .ro, .sl 7 (AH e') .ro]))⟩ := by
        intro g3 h3
        cases f with
        | false =>
          refine hadd g3 h3 g 5 gb 126 (fun v => [aI k', .str t', .str nm', DN pa', Bz fs', v, CW ge e2, .bool false]) ((gp, .cells 74 [CW gl ps, M5 (some gk) (r.length + 1)]) :: (Gm gl ps ++ (Po (some gk) (g :: r.map Op.g) ++ (Gm ge e2 ++ r.flatMap U2)))) ⟨fun _ => rfl, fun _ _ => rfl, fun _ => by simp⟩ (hO.perm (pm1 _ _ _ _ _ _ _)) (fun n' H' g' hO2 => ⟨gl, some gk, ⟨Pt.mk k' t' nm' pa' fs' (Cx (.mk k t nm pa fs b e') b2) e2, false, g, g', ge⟩ :: r, hO2.perm (pm1 (gp, .cells 74 [CW gl ps, M5 (some gk) (r.length + 1)]) (g, .cells 126 [aI k', .str t', .str nm', DN pa', Bz fs', CW g' (Cx (.mk k t nm pa fs b e') b2), CW ge e2, .bool false]) (Gm gl ps) (Po (some gk) (g :: r.map Op.g)) (Gm g' (Cx (.mk k t nm pa fs b e') b2)) (Gm ge e2) (r.flatMap U2)).symm, rfl, fun h => by cases h⟩)
        | true =>
          refine hadd g3 h3 g 6 ge 126 (fun v => [aI k', .str t', .str nm', DN pa', Bz fs', CW gb b2, v, .bool true]) ((gp, .cells 74 [CW gl ps, M5 (some gk) (r.length + 1)]) :: (Gm gl ps ++ (Po (some gk) (g :: r.map Op.g) ++ (Gm gb b2 ++ r.flatMap U2)))) ⟨fun _ => rfl, fun _ _ => rfl, fun _ => by simp⟩ (hO.perm (pm2 _ _ _ _ _ _ _)) (fun n' H' g' hO2 => ⟨gl, some gk, ⟨Pt.mk k' t' nm' pa' fs' b2 (Cx (.mk k t nm pa fs b e') e2), true, g, gb, g'⟩ :: r, hO2.perm (pm2 (gp, .cells 74 [CW gl ps, M5 (some gk) (r.length + 1)]) (g, .cells 126 [aI k', .str t', .str nm', DN pa', Bz fs', CW gb b2, CW g' (Cx (.mk k t nm pa fs b e') e2), .bool true]) (Gm gl ps) (Po (some gk) (g :: r.map Op.g)) (Gm gb b2) (Gm g' (Cx (.mk k t nm pa fs b e') e2)) (r.flatMap U2)).symm, rfl, fun h => by cases h⟩)
      clear hadd hm1 hm2 hO he hgs
      have hlen : ((⟨Pt.mk k' t' nm' pa' fs' b2 e2, f, g, gb, ge⟩ : Op) :: r).length = r.length + 1 := rfl
      rw [hlen] at hP
      have hi : ((r.length : Int) + 1 - 1) = r.length := by omega
      have q0 : ∀ z, (LU (r.map Op.g) ++ z)[r.length]? = z[0]? := fun z => by rw [← hsl, List.getElem?_append_right (Nat.le_refl _)]; simp
      simp only [opC, Pt.k, Pt.t, Pt.n, Pt.pa, Pt.fs, Pt.b, Pt.e] at hG
      generalize LU (r.map Op.g) = cs at *
      generalize CW gb b2 = v5 at *
      generalize CW ge e2 = v6 at *
      generalize CW gl ps = vp at *
      have hpos : (0 : Int) < (r.length : Int) + 1 := by omega
      refine AO Tryz.func70 XD rfl fun hs => ?_
      cases f with
      | false =>
        repeat' (first | (simp -implicitDefEqProofs [c70, EA, -getElem?_pos, hP, hK, hG, M5, q0, hi, hpos]) | (simp (disch := omega) only [AJ]) | (with_reducible first | refine A8 ?_ ?_ ?_ | exact AG | assumption | refine A3 ?_ | refine KM.of ?_ | refine AI ?_ | refine A5 ?_ | refine AR ?_ | refine A7 ?_ | refine AW ?_ | refine AQ ?_ | intro _g _hg | refine AK ?_ ?_ | intro _hc) | omega)
        all_goals (refine L2 rfl rfl ?_; exact hfin _ (by assumption))
      | true =>
        repeat' (first | (simp -implicitDefEqProofs [c70, EA, -getElem?_pos, hP, hK, hG, M5, q0, hi, hpos]) | (simp (disch := omega) only [AJ]) | (with_reducible first | refine A8 ?_ ?_ ?_ | exact AG | assumption | refine A3 ?_ | refine KM.of ?_ | refine AI ?_ | refine A5 ?_ | refine AR ?_ | refine A7 ?_ | refine AW ?_ | refine AQ ?_ | intro _g _hg | refine AK ?_ ?_ | intro _hc) | omega)
        all_goals (refine L2 rfl rfl ?_; exact hfin _ (by assumption))
theorem PS.own {n0 n gp : Nat} {H0 H : A2} {st : Cz} (h : PS n0 H0 gp st n H) : n0 ≤ gp ∧ gp < n ∧ n0 ≤ n ∧ (∀ q, n ≤ q → H q = none) ∧ SameB n0 H0 H := by
  obtain ⟨gl, gs, ops, hO, _, _⟩ := h
  exact ⟨hO.fst.2.1, hO.fst.2.2, hO.le, hO.sup, hO.same⟩
theorem PS.new {n0 n gp : Nat} {H0 H : A2} {st : Cz} (h : PS n0 H0 gp st n H) {g : Nat} (hg : n ≤ g) (ob : Option AObj) : PS n0 H0 gp st (g + 1) (upd H g ob) := by
  obtain ⟨gl, gs, ops, hO, h1, h2⟩ := h
  exact ⟨gl, gs, ops, hO.new hg ob, h1, h2⟩
theorem PS.keep {n0 n n' gp : Nat} {H0 H H' : A2} {st : Cz} (h : PS n0 H0 gp st n H) (hle : n ≤ n') (hs : ∀ q, n' ≤ q → H' q = none) (hk : ∀ q, q < n → H' q = H q) : PS n0 H0 gp st n' H' := by
  obtain ⟨gl, gs, ops, hO, h1, h2⟩ := h
  refine ⟨gl, gs, ops, ?_, h1, h2⟩
  exact hO.re (xs := []) (ys := []) hle hs (fun q hq _ => hk q hq) (by simp) (by simp)
theorem D6 (z : Nat) : AA (.sl 0 [] .nil) (.sl z [] .ro) := ⟨_, _, _, rfl, .inl rfl, .inr ⟨rfl, rfl⟩, rfl⟩
theorem TM {P : Program} {f : Nat} {args args' : List AV} {v : AV} (h : APure P f args' v) (hs : AC args args') : APure P f args v := fun n H => ACalls.sim (h n H) hs
theorem RR {n0 n gp : Nat} {H0 H : A2} {st : Cz} {t : AF} (h : PS n0 H0 gp st n H) (hb : M6 100000 st) (ht : t.length ≤ 100000) :
    ACalls Tryz.prog 40 [.ptr gp 0, .str t] n H (fun r n' H' => r = .tup [] ∧ PS n0 H0 gp (Ap t st) n' H' ∧ n ≤ n') := by
  have hsup := h.own.2.2.2.1
  by_cases h0 : t = []
  · subst h0
    have e : Ap [] st = st := rfl
    rw [e]
    refine AO Tryz.func40 XW rfl fun hs => ?_
    repeat' (first | (simp -implicitDefEqProofs [c40, -getElem?_pos]) | (simp (disch := omega) only [AJ]) | (with_reducible first | refine A8 ?_ ?_ ?_ | exact AG | assumption | refine A3 ?_ | refine KM.of ?_ | refine AI ?_ | intro _g _hg | refine AK ?_ ?_ | intro _hc) | omega)
    exact PF rfl (Nat.le_refl _) hsup ⟨rfl, h, Nat.le_refl _⟩
  · have e : Ap t st = DA (tP t) st := by unfold Ap; rw [if_neg h0]
    have hc := UR (k := 1) (t := t) (nm := []) (pa := []) (fs := []) (b := []) (e' := []) h hb ht (fun _ => rfl)
    rw [e]
    have e2 : Pt.mk 1 t [] [] [] [] [] = tP t := rfl
    rw [e2] at hc
    generalize DA (tP t) st = st' at *
    refine AO Tryz.func40 XW rfl fun hs => ?_
    repeat' (first | (simp -implicitDefEqProofs [c40, -getElem?_pos, h0]) | (simp (disch := omega) only [AJ]) | ((with_reducible refine Ad 70 ?_); refine ⟨_, ACalls.sim hc (A6 (A1 _) (A6 (EL (A6 (A1 _) (A6 (A1 _) (A6 (A1 _) (A6 (D6 1) (A6 (D6 2) (A6 (D6 7) (A6 (D6 7) rfl)))))))) rfl)), ?_⟩; rintro r n' H' hn hs ⟨rfl, hP, hle⟩) | (with_reducible first | refine A8 ?_ ?_ ?_ | exact AG | assumption | refine A3 ?_ | refine KM.of ?_ | refine AI ?_ | intro _g _hg | refine AK ?_ ?_ | intro _hc) | omega)
    all_goals exact PF rfl hle hs ⟨rfl, hP, hle⟩
theorem pm3 {α : Type} (A : α) (L S F : List α) : (A :: (L ++ (S ++ F))).Perm ((A :: S) ++ (L ++ F)) := by
  classical exact List.perm_iff_count.2 fun a => by simp [List.count_append, List.count_cons]; omega
theorem pm4 {α : Type} (A D : α) (L S F : List α) : (A :: (L ++ (S ++ (D :: F)))).Perm ((A :: D :: S) ++ (L ++ F)) := by
  classical exact List.perm_iff_count.2 fun a => by simp [List.count_append, List.count_cons]; omega
def WW (k : Int) (nm : AF) (pa : List AF) (fs : List (AF × Int)) (st : Cz) : Cz := (st.1, (Pt.mk k [] nm pa fs [] [], false) :: st.2)
theorem SH {n0 n gp : Nat} {H0 H : A2} {st : Cz} {k : Int} {nm : AF} {pa : List AF} {fs : List (AF × Int)} (h : PS n0 H0 gp st n H) (hb : M6 100000 st) (hpa : ∀ s ∈ pa, s.length ≤ 2000000) (hpl : pa.length ≤ 2000000) (hn : nm.length ≤ 2000000) (hf : fs.length ≤ 2000000) :
    ACalls Tryz.prog 72 [.ptr gp 0, .agg [aI k, .str [], .str nm, DN pa, Bz fs, .sl 0 [] .nil, .sl 0 [] .nil]] n H (fun r n' H' => r = .bool (decide (Fn k nm pa fs = 0)) ∧ PS n0 H0 gp (if Fn k nm pa fs = 0 then WW k nm pa fs st else st) n' H' ∧ n ≤ n') := by
  have hnm := TM (args := [.agg [aI k, .str [], .str nm, DN pa, Bz fs, .sl 0 [] .nil, .sl 0 [] .nil]]) (GR k [] nm pa fs [] [] hpa hpl hn hf) (A6 (EL (A6 (A1 _) (A6 (A1 _) (A6 (A1 _) (A6 (A1 _) (A6 (A1 _) (A6 (D6 7) (A6 (D6 7) rfl)))))))) rfl)
  have hsup := h.own.2.2.2.1
  by_cases h0 : Fn k nm pa fs = 0
  · rw [decide_eq_true h0, if_pos h0]
    rw [h0] at hnm
    obtain ⟨gl, gs, ops, hO, he, hgs⟩ := h
    obtain ⟨ps, kk⟩ := st
    have hP := hO.fst.1
    have hlt := hO.fst.2.2
    have hol : ops.length ≤ 100000 := by have := hb.2.1; rw [← he, List.length_map] at this; exact this
    simp only at hP hO he
    have hfin : ∀ (en : AL) (g15 g' n' : Nat) (H' : A2), get en 4 = .bool true → n ≤ g15 → g15 < n' → (∀ q, n' ≤ q → H' q = none) → (g' < n ∧ gs = some g' ∨ g15 + 1 ≤ g') → H' gp = some (.cells 74 [CW gl ps, .slg 1 g' (ops.length + 1)]) → H' g15 = some (.cells 126 [aI k, .str [], .str nm, DN pa, Bz fs, .sl 0 [] .nil, .sl 0 [] .nil, .bool false]) → H' g' = some (.grow 127 (LU (ops.map Op.g) ++ [.ptr g15 0])) → (∀ q, q < n → q ≠ gp → gs ≠ some q → H' q = H q) → fin (fun r n' H' => r = .bool true ∧ PS n0 H0 gp (WW k nm pa fs (ps, kk)) n' H' ∧ n ≤ n') n [.tmp 4] .ret ⟨en, n', H'⟩ := by
      intro en g15 g' n' H' e4 q1 q2 q3 q4 q5 q6 q7 q8
      refine B8 (r := .bool true) (by simp [BB, CD, ER, e4]) (by omega) q3 ⟨rfl, ⟨gl, some g', ⟨Pt.mk k [] nm pa fs [] [], false, g15, 0, 0⟩ :: ops, ?_, by rw [← he]; rfl, fun h => by cases h⟩, by omega⟩
      have hO1 := hO.perm (pm3 _ _ _ _)
      have hne : gp ≠ g' := by
        rcases q4 with ⟨_, q4⟩ | q4
        · intro e
          have := hO1.nd
          rw [q4] at this
          simp [Po, e] at this
        · omega
      have hO2 := hO1.re (n' := n') (H' := H') (ys := (gp, .cells 74 [CW gl ps, .slg 1 g' (ops.length + 1)]) :: (g15, .cells 126 [aI k, .str [], .str nm, DN pa, Bz fs, .sl 0 [] .nil, .sl 0 [] .nil, .bool false]) :: [(g', .grow 127 (LU (ops.map Op.g) ++ [.ptr g15 0]))]) (by omega) q3 (fun q hq hm => ?_) (fun y hy => ?_) ?_
      · have := hO2.perm (pm4 _ _ (Gm gl ps) [_] (ops.flatMap U2)).symm
        rw [← Lt] at this
        exact this
      · simp only [List.map_cons, List.mem_cons, not_or] at hm
        refine q8 q hq hm.1 fun e => hm.2 ?_
        rw [e]; simp [Po]
      · simp only [List.mem_cons, List.not_mem_nil, or_false] at hy
        rcases hy with rfl | rfl | rfl
        · exact ⟨q5, .inl (by simp)⟩
        · exact ⟨q6, .inr q1⟩
        · refine ⟨q7, ?_⟩
          rcases q4 with ⟨_, q4⟩ | q4
          · left; rw [q4]; simp [Po]
          · right; simp only; omega
      · have : gp ≠ g15 := by omega
        have : g15 ≠ g' := by omega
        simp [*]
    have hsl := P0 (ops.map Op.g)
    rw [List.length_map] at hsl
    cases gs with
    | none =>
      have h00 : ops = [] := hgs rfl
      subst h00
      generalize CW gl ps = vp at *
      refine AO Tryz.func72 Ul rfl fun hs => ?_
      repeat' (first | (simp -implicitDefEqProofs [Ja, c72, -getElem?_pos, hP, M5, splice, DR]) | (simp (disch := omega) only [AJ]) | (refine Nt (.inl rfl) (A0 _) (by simp) (by simp) (by simp [maxLen]) (fun g' hg' => ?_)) | ((with_reducible refine AP 68 ?_); (refine' CallP.sf ?_ (hnm) ?_); (focus first | (with_reducible exact A0 _) | (simp [AC, AA, A1, A0]; done))) | (with_reducible first | refine A8 ?_ ?_ ?_ | exact AG | assumption | refine A3 ?_ | refine KM.of ?_ | refine AI ?_ | refine A5 ?_ | refine AR ?_ | refine A7 ?_ | refine AW ?_ | refine AQ ?_ | intro _g _hg | refine AK ?_ ?_ | intro _hc) | omega)
      rename_i g3 hg3 g15 hg15
      exact hfin _ g15 g' (g' + 1) _ rfl (by omega) (by omega) (fun q hq => by simp (disch := omega) only [upd_ne]; exact hsup q (by omega)) (.inr (by omega)) (AY _ _ _) (by simp (disch := omega) only [upd_ne, AY]) (by simp (disch := omega) only [upd_ne, AY]; rfl) (fun q q1 q2 q3 => by simp (disch := omega) only [upd_ne])
    | some gk =>
      have hK : H gk = some (.grow 127 (LU (ops.map Op.g))) ∧ n0 ≤ gk ∧ gk < n := hO.at_ (by simp [M4, Po])
      obtain ⟨hK1, hK2, hK3⟩ := hK
      have hne : gp ≠ gk := by
        rintro rfl
        rw [hP] at hK1; cases hK1
      generalize CW gl ps = vp at *
      generalize LU (ops.map Op.g) = cs at *
      refine AO Tryz.func72 Ul rfl fun hs => ?_
      repeat' (first | (simp -implicitDefEqProofs [Ja, c72, -getElem?_pos, hP, M5, splice, hne, Ne.symm hne, DR]) | (simp (disch := omega) only [AJ]) | (with_reducible refine RD [gk] ?_) | (refine JL (.inl rfl) (A0 _) (by simp (disch := omega) only [upd_ne]; exact hK1) (by rw [hsl]; omega) (by simp; omega) (by simp [maxLen]; omega) (fun g' n' hg' h1 h2 => ?_)) | ((with_reducible refine AP 68 ?_); (refine' CallP.sf ?_ (hnm) ?_); (focus first | (with_reducible exact A0 _) | (simp [AC, AA, A1, A0]; done))) | (with_reducible first | refine A8 ?_ ?_ ?_ | exact AG | assumption | refine A3 ?_ | refine KM.of ?_ | refine AI ?_ | refine A5 ?_ | refine AR ?_ | refine A7 ?_ | refine AW ?_ | refine AQ ?_ | intro _g _hg | refine AK ?_ ?_ | intro _hc) | omega)
      rename_i g3 hg3 g15 hg15
      refine hfin _ g15 g' n' _ rfl (by omega) (by omega) (fun q hq => by simp (disch := omega) only [upd_ne]; exact hsup q (by omega)) (by rcases hg' with h | h; exact .inl ⟨by omega, by rw [h]⟩; exact .inr (by omega)) (AY _ _ _) (by simp (disch := omega) only [upd_ne, AY]) ?_ (fun q q1 q2 q3 => ?_)
      · have : g' ≠ gp := by omega
        simp (disch := omega) only [upd_ne, AY]
      · have q4 : q ≠ gk := fun e => q3 (by rw [e])
        have : q ≠ g' := by omega
        simp (disch := omega) only [upd_ne]
  · rw [decide_eq_false h0, if_neg h0]
    generalize Fn k nm pa fs = c at *
    refine AO Tryz.func72 Ul rfl fun hs => ?_
    repeat' (first | (simp -implicitDefEqProofs [Ja, c72, -getElem?_pos, splice, h0]) | (simp (disch := omega) only [AJ]) | ((with_reducible refine AP 68 ?_); (refine' CallP.sf ?_ (hnm) ?_); (focus first | (with_reducible exact A0 _) | (simp [AC, AA, A1, A0]; done))) | (with_reducible first | refine A8 ?_ ?_ ?_ | exact AG | assumption | refine A3 ?_ | refine KM.of ?_ | refine AI ?_ | refine A5 ?_ | refine AR ?_ | refine A7 ?_ | refine AW ?_ | refine AQ ?_ | intro _g _hg | refine AK ?_ ?_ | intro _hc) | omega)
    all_goals exact B8 rfl (by omega) (fun q hq => by simp (disch := omega) only [upd_ne]; exact hsup q (by omega)) ⟨rfl, h.new (by assumption) _, by omega⟩
def Flr (x : AV) (l : List (AF × Int)) (n0 n : Nat) (H : A2) : Prop := (l = [] ∧ x = .sl 0 [] .nil) ∨ ∃ g, n0 ≤ g ∧ g < n ∧ x = .sl 2 (l.map Ty) (.own g) ∧ H g = some (.row 52 l.length)
theorem Flr.one {x : AV} {l : List (AF × Int)} {n0 n : Nat} {H : A2} (h : Flr x l n0 n H) : x.one = true ∧ x.fits none = true ∧ x.cells = [x] ∧ AA x (Bz l) := by
  rcases h with ⟨rfl, rfl⟩ | ⟨g, _, _, rfl, _⟩
  · exact ⟨rfl, rfl, rfl, D6 2⟩
  · exact ⟨rfl, rfl, rfl, _, _, _, rfl, .inl rfl, .inl rfl, A0 _⟩
theorem Flr.app {x : AV} {l : List (AF × Int)} {f : AF × Int} {n0 n g6 : Nat} {H : A2} {d : Option Nat} {K : AS → Prop} {e : AL} {t : Tok} (h : Flr x l n0 n H) (h6 : ∃ T cs, H g6 = some (.cells T cs)) (h6n : g6 < n) (hn : n0 ≤ n) (hl : l.length ≤ 1000000) (hk : ∀ g' n' H', n ≤ n' → n0 ≤ g' ∧ g' < n' ∧ H' g' = some (.row 52 (l ++ [f]).length) → H' g6 = H g6 → (∀ q, q < n0 → H' q = H q) → ((∀ q, n ≤ q → H q = none) → ∀ q, n' ≤ q → H' q = none) → K ⟨AB e d (.sl 2 ((l ++ [f]).map Ty) (.own g')), n', H'⟩) : appKS 52 2 24 d K ⟨e, n, H⟩ x (.sl 2 [Ty f] t) := by
  refine ⟨.inl rfl, [Ty f], A0 _, ?_⟩
  rcases h with ⟨rfl, rfl⟩ | ⟨g, h1, h2, rfl, h3⟩
  · refine ⟨by simp, by simp [maxLen], ?_⟩
    refine And.intro (fun e => by cases e) (fun _ => Or.inl fun g hg => ?_)
    simp only at hg
    exact hk _ _ _ (by omega) ⟨by omega, by omega, AY _ _ _⟩ (upd_ne (by omega)) (fun q hq => upd_ne (by omega)) (fun hs q hq => by rw [upd_ne (by omega)]; exact hs q (by omega))
  · have hg6 : g ≠ g6 := by rintro rfl; obtain ⟨_, _, h6⟩ := h6; rw [h6] at h3; cases h3
    refine ⟨by simp; omega, by simp [maxLen]; omega, rfl, by simpa using h3, fun g' n' q1 q2 q3 => ?_⟩
    have e1 : List.map Ty l ++ [Ty f] = List.map Ty (l ++ [f]) := by simp
    rw [e1]
    simp only at q1 q2
    refine hk _ _ _ q2 ⟨by omega, q3, by rw [AY]; simp⟩ ?_ (fun q hq => ?_) (fun hs q hq => ?_)
    · rw [upd_ne (by omega), upd_ne (fun e => hg6 e.symm)]
    · rw [upd_ne (by omega), upd_ne (by omega)]
    · rw [upd_ne (by omega), upd_ne (by omega)]; exact hs q (by omega)
theorem Flr.keep {x : AV} {l : List (AF × Int)} {n0 n n' : Nat} {H H' : A2} (h : Flr x l n0 n H) (hle : n ≤ n') (hk : ∀ q, q < n → H' q = H q) : Flr x l n0 n' H' := by
  rcases h with h | ⟨g, h1, h2, h3, h4⟩
  · exact .inl h
  · exact .inr ⟨g, h1, by omega, h3, by rw [hk g h2]; exact h4⟩
def V9 (d : Dir) (st : Cz) : Cz := match d with | .fld x => DA x st | _ => st
def WB : Dir → Bool | .fld _ => true | _ => false
theorem Tg {t : List AF} {j : Nat} {s : AF} (h : t[j]? = some s) : G3 (t.drop j) = match fltO s with | none => none | some f => (G3 (t.drop (j + 1))).map (f :: ·) := by
  rw [drop_at h, G3]
  cases fltO s <;> rfl
theorem TK {s : AF} : HV s 9 = ((CV s).2 && decide (0 ≤ (CV s).1)) := by
  have h := PV (s := s) (m := 9) (.inr rfl)
  have e : HV s 9 = HV s ((9 : Nat) : Int) := rfl
  rw [e, h]
  cases h2 : (CV s).2 with
  | false => simp
  | true =>
    have := (RC h2).2.2
    have : decide ((CV s).1 < 10 ^ 9) = true := decide_eq_true (by omega)
    rw [this]; simp
theorem V3 : APure Tryz.prog 115 [.str []] (.tup [aI 0, .ifc 207 .any]) := by
  refine Pr (fun v h => ?_) (fun h => ?_) (by simp)
  · have h2 : (match Lib.atoiAll ([] : AF) with | .ok _ => true | _ => false) = false := by kernel_rfl
    rw [h] at h2; cases h2
  · have h2 : (match Lib.atoiAll ([] : AF) with | .range => true | _ => false) = false := by kernel_rfl
    rw [h] at h2; cases h2
theorem VL {s : AF} (h : (CV s).2 = true) : Lib.atoiAll s = .ok (CV s).1 := by
  unfold CV at h ⊢
  split at h
  · rename_i v hv; rw [hv]
  · cases h
  · cases h
theorem Dp (c : UInt8) : ∀ s : AF, ∀ x ∈ DH c s, x.length ≤ s.length
  | [], x, h => by simp [DH] at h; subst h; simp
  | y :: r, x, h => by
    have ih := Dp c r
    unfold DH at h
    split at h
    · rcases List.mem_cons.1 h with rfl | h
      · simp
      · have := ih x h; simp; omega
    · split at h
      · simp at h; subst h; simp
      · rename_i a b e
        rw [e] at ih
        rcases List.mem_cons.1 h with rfl | h
        · have := ih a (by simp); simp; omega
        · have := ih x (by simp [h]); simp; omega
theorem X0 {n0 n gp : Nat} {H0 H : A2} {st : Cz} {s : AF} (h : PS n0 H0 gp st n H) (hb : M6 100000 st) (hs : s.length ≤ 100000) :
    ACalls Tryz.prog 74 [.ptr gp 0, .str s] n H (fun r n' H' => r = .bool (WB (CN s)) ∧ PS n0 H0 gp (V9 (CN s) st) n' H' ∧ n ≤ n') := by
  have hsup := h.own.2.2.2.1
  have hgp := h.own
  have hsp := Fs s 124 (by omega)
  have hsl := Fr 124 s
  obtain ⟨hd, tl, hspl⟩ := List.exists_cons_of_ne_nil (RS 124 s)
  have hmem := Dp 124 s
  rw [hspl] at hmem
  have hdl : hd.length ≤ 100000 := by have := hmem hd (by simp); omega
  have htl : ∀ x ∈ tl, x.length ≤ 100000 := fun x hx => by have := hmem x (by simp [hx]); omega
  rw [hspl] at hsp hsl
  have hD : CN s = if BK (DH 46 hd) = true then (match G3 tl with | some fs => .fld (.mk 2 [] [] (DH 46 hd) fs [] []) | none => .bad) else .bad := by unfold CN; rw [hspl]; dsimp only; cases G3 tl <;> rfl
  have hsp2 := Fs hd 46 (by omega)
  have hpl := Fr 46 hd
  have hpm : ∀ x ∈ DH 46 hd, x.length ≤ 2000000 := fun x hx => by have := Dp 46 hd x hx; omega
  have hpa := VZ (DH 46 hd) hpm (by omega)
  simp only [List.length_cons] at hsl
  have htk : List.take tl.length (tl.map AV.str) = tl.map AV.str := List.take_of_length_le (by simp)
  generalize DH 46 hd = pa at *
  by_cases hp : BK pa = true
  · rw [if_pos hp] at hD
    rw [hp] at hpa
    refine AO Tryz.func74 XQ rfl fun hs => ?_
    repeat' (first | (simp -implicitDefEqProofs [c74, Cf, -getElem?_pos, splice, AA]) | (simp (disch := omega) only [AJ]) | ((with_reducible refine AP 73 ?_); (refine' CallP.sf ?_ (hsp) ?_); (focus first | (with_reducible exact A0 _) | (simp [AC, AA, A1, A0]; done))) | ((with_reducible refine AP 73 ?_); (refine' CallP.sf ?_ (hsp2) ?_); (focus first | (with_reducible exact A0 _) | (simp [AC, AA, A1, A0]; done))) | ((with_reducible refine AP 108 ?_); (refine' CallP.sf ?_ (hpa) ?_); (focus first | (with_reducible exact A0 _) | (simp [AC, AA, A1, A0]; done))) | (with_reducible first | refine A8 ?_ ?_ ?_ | exact AG | assumption | refine A3 ?_ | refine KM.of ?_ | refine AI ?_ | refine A5 ?_ | refine AR ?_ | refine A7 ?_ | refine AW ?_ | refine AQ ?_ | intro _g _hg | refine AK ?_ ?_ | intro _hc) | omega)
    generalize _hgg : _g = g6 at *
    have hbad : G3 tl = none → ∀ (en : AL) (n' : Nat) (H' : A2), get en 4 = .bool false → n ≤ n' → SameB n H H' → (∀ q, n' ≤ q → H' q = none) → fin (fun r n' H' => r = AV.bool (WB (CN s)) ∧ PS n0 H0 gp (V9 (CN s) st) n' H' ∧ n ≤ n') n [.tmp 4] .ret ⟨en, n', H'⟩ := by
      intro hf en n' H' e4 q1 q2 q3
      rw [hD, hf]
      exact B8 (r := .bool false) (by simp [BB, CD, ER, e4]) q1 q3 ⟨rfl, h.keep q1 q3 q2, q1⟩
    refine LoopK.go (fun m st' => ∃ (j n2 : Nat) (H2 : A2) (fsd : List (AF × Int)) (vf : AV), j + m = tl.length ∧ st' = ⟨[(0, .ptr gp 0), (6, .ptr g6 0), (28, DN tl), (29, aI tl.length), (30, aI j)], n2, H2⟩ ∧ g6 < n2 ∧ SameB n H H2 ∧ (∀ q, n2 ≤ q → H2 q = none) ∧ H2 g6 = some (.cells 55 [aI 2, .str [], .str [], DN pa, vf, .sl 0 [] .nil, .sl 0 [] .nil]) ∧ Flr vf fsd n n2 H2 ∧ G3 tl = (G3 (tl.drop j)).map (fsd ++ ·) ∧ fsd.length = j) tl.length ⟨0, _, _, [], .sl 0 [] .nil, by omega, by rw [htk]; rfl, by omega, fun q hq => by simp (disch := omega) only [upd_ne], fun q hq => by simp (disch := omega) only [upd_ne]; exact hsup q (by omega), AY _ _ _, .inl ⟨rfl, rfl⟩, by simp, rfl⟩ ?_
    rintro m st' ⟨j, n2, H2, fsd, vf, hjm, rfl, hgn, hS, hs2, h6, hF, hE, hfl⟩ J hJ
    have _hq := h6
    by_cases hj : j < tl.length
    · obtain ⟨x, hx⟩ : ∃ x, tl[j]? = some x := ⟨_, List.getElem?_eq_getElem hj⟩
      have hx2 : (tl.map AV.str)[j]? = some (.str x) := by rw [List.getElem?_map, hx]; rfl
      have hj' : (j : Int) < tl.length := by omega
      rw [Tg hx] at hE
      have hxl := htl x (List.mem_of_getElem? hx)
      have hcut := QL x 32 (by omega)
      have hO := fltO.eq_1 x
      have hbr := HD 32 x
      have hfk := LE (Bb 32 x).1
      have hm := Lf (Bb 32 x).1
      have hdec := fun h => OL (Bb 32 x).2.1 9 h
      have hwl : (Bb 32 x).2.1.length ≤ 100000 := by
        rcases hbr with ⟨a, b, e1, _, e2⟩ | ⟨_, e2⟩
        · rw [e2]; rw [e1] at hxl; simp at hxl; simp only; omega
        · rw [e2]; simp
      have hxe : (Bb 32 x).2.2 = false → (Bb 32 x).1 = x ∧ (Bb 32 x).2.1 = [] := by
        rcases hbr with ⟨a, b, e1, _, e2⟩ | ⟨_, e2⟩
        · rw [e2]; intro h; cases h
        · rw [e2]; intro _; exact ⟨rfl, rfl⟩
      clear hbr
      generalize Bb 32 x = br at *
      obtain ⟨a, w, more⟩ := br
      simp only at hO hfk hm hdec hwl hxe hcut
      rcases hfk with hk | hk | hk
      · rw [hk] at hO hm
        simp only [show ¬ ((0 : Nat) = 1) by decide, show ¬ ((0 : Nat) = 2) by decide, false_and, if_false, if_true, ite_self] at hO hm
        have hO2 : fltO x = none := by
          rw [hO]
          cases more with
          | true => rfl
          | false => rw [← (hxe rfl).1, hk]; rfl
        rw [hO2] at hE
        clear hO
        repeat' (first | (simp -implicitDefEqProofs [Di, Dh, DY, Dd, Da, Cf, c74, -getElem?_pos, splice, hj', hx2, hm]) | (simp (disch := omega) only [AJ]) | ((with_reducible refine Ad 64 ?_); refine ⟨_, Dk _ _, ?_⟩; rintro r n' H' hn' hs' ⟨gm, hgm, rfl, rfl, rfl⟩; (replace hgm : n2 ≤ gm := hgm)) | ((with_reducible refine AP 41 ?_); (refine' CallP.sf ?_ (hcut) ?_); (focus first | (with_reducible exact A0 _) | (simp [AC, AA, A1, A0]; done))) | (with_reducible first | refine A8 ?_ ?_ ?_ | exact AG | assumption | refine A3 ?_ | refine KM.of ?_ | refine AI ?_ | refine A5 ?_ | refine AR ?_ | refine A7 ?_ | refine AW ?_ | refine AQ ?_ | intro _g _hg | refine AK ?_ ?_ | intro _hc) | omega)
        all_goals (refine hbad (by rw [hE]; rfl) _ _ _ rfl (by omega) (fun q hq => by simp (disch := omega) only [upd_ne]; exact hS q hq) (fun q hq => by simp (disch := omega) only [upd_ne]; exact hs2 q (by omega)))
      · rw [hk] at hO hm
        simp only [show ¬ ((1 : Nat) = 0) by decide, show ¬ ((1 : Nat) = 2) by decide, false_and, if_false, if_true, decide_false] at hO hm
        cases more with
        | true =>
          simp only [if_true] at hO
          rw [hO] at hE
          repeat' (first | (simp -implicitDefEqProofs [Di, Dh, DY, Dd, Da, Cf, c74, -getElem?_pos, splice, hj', hx2, hm]) | (simp (disch := omega) only [AJ]) | ((with_reducible refine Ad 64 ?_); refine ⟨_, Dk _ _, ?_⟩; rintro r n' H' hn' hs' ⟨gm, hgm, rfl, rfl, rfl⟩; (replace hgm : n2 ≤ gm := hgm)) | ((with_reducible refine AP 41 ?_); (refine' CallP.sf ?_ (hcut) ?_); (focus first | (with_reducible exact A0 _) | (simp [AC, AA, A1, A0]; done))) | (with_reducible first | refine A8 ?_ ?_ ?_ | exact AG | assumption | refine A3 ?_ | refine KM.of ?_ | refine AI ?_ | refine A5 ?_ | refine AR ?_ | refine A7 ?_ | refine AW ?_ | refine AQ ?_ | intro _g _hg | refine AK ?_ ?_ | intro _hc) | omega)
          all_goals (refine hbad (by rw [hE]; rfl) _ _ _ rfl (by omega) (fun q hq => by simp (disch := omega) only [upd_ne]; exact hS q hq) (fun q hq => by simp (disch := omega) only [upd_ne]; exact hs2 q (by omega)))
        | false =>
          obtain ⟨hx3, hw⟩ := hxe rfl
          subst hw
          rw [← hx3, hk] at hO
          simp only [if_true, Bool.false_eq_true, if_false] at hO
          rw [← hx3] at hE
          rw [hO] at hE
          have hat := V3
          repeat' (first | (simp -implicitDefEqProofs [Di, Dh, DY, Dd, Da, Cf, c74, -getElem?_pos, splice, hj', hx2, hm, _hq]) | (simp (disch := omega) only [AJ]) | ((with_reducible refine Ad 64 ?_); refine ⟨_, Dk _ _, ?_⟩; rintro r n' H' hn' hs' ⟨gm, hgm, rfl, rfl, rfl⟩; (replace hgm : n2 ≤ gm := hgm)) | ((refine Flr.app (g6 := g6) (f := (a, 0)) (hF.keep (by omega) (fun q hq => by simp (disch := omega) only [upd_ne])) ⟨_, _, (by simp (disch := omega) only [upd_ne]; exact h6)⟩ (by omega) (by omega) (by omega) ?_); intro g' n' H' hle hF2 h62 hS2 hsu2; (have h63 : H' g6 = some (.cells 55 [aI 2, .str [], .str [], DN pa, vf, .sl 0 [] .nil, .sl 0 [] .nil]) := h62.trans (by simp (disch := omega) only [upd_ne]; exact h6)); (have _hq := h63)) | ((with_reducible refine AP 41 ?_); (refine' CallP.sf ?_ (hcut) ?_); (focus first | (with_reducible exact A0 _) | (simp [AC, AA, A1, A0]; done))) | ((with_reducible refine AP 115 ?_); (refine' CallP.sf ?_ (hat) ?_); (focus first | (with_reducible exact A0 _) | (simp [AC, AA, A1, A0]; done))) | (with_reducible first | refine A8 ?_ ?_ ?_ | exact AG | assumption | refine A3 ?_ | refine KM.of ?_ | refine AI ?_ | refine A5 ?_ | refine AR ?_ | refine A7 ?_ | refine AW ?_ | refine AQ ?_ | intro _g _hg | refine AK ?_ ?_ | intro _hc) | omega)
          all_goals
            have hg6 : g' ≠ g6 := by
              rintro rfl
              rw [hF2.2.2] at h63; cases h63
            refine hJ (m - 1) _ (by omega) ⟨j + 1, n', _, fsd ++ [(a, (0 : Int))], .sl 2 ((fsd ++ [(a, (0 : Int))]).map Ty) (.own g'), by omega, rfl, by omega, fun q hq => ?_, fun q hq => ?_, ?_, .inr ⟨g', by omega, hF2.2.1, rfl, ?_⟩, ?_, by simp [hfl]⟩
            · rw [upd_ne (by omega), hS2 q hq]
              simp (disch := omega) only [upd_ne]
              exact hS q hq
            · rw [upd_ne (by omega)]
              exact hsu2 (fun q hq => by simp (disch := omega) only [upd_ne]; exact hs2 q (by omega)) q hq
            · simp [AY]
            · rw [upd_ne hg6]; exact hF2.2.2
            · rw [hE]
              cases G3 (tl.drop (j + 1)) <;> simp
      · rw [hk] at hO hm
        simp only [show ¬ ((2 : Nat) = 0) by decide, if_false, decide_true, true_and] at hO hm
        cases more with
        | false =>
          obtain ⟨hx3, hw⟩ := hxe rfl
          rw [← hx3, hk] at hO
          simp only [Bool.false_eq_true, if_false, show ¬ ((2 : Nat) = 1) by decide] at hO
          rw [← hx3] at hE
          rw [hO] at hE
          repeat' (first | (simp -implicitDefEqProofs [Di, Dh, DY, Dd, Da, Cf, c74, -getElem?_pos, splice, hj', hx2, hm]) | (simp (disch := omega) only [AJ]) | ((with_reducible refine Ad 64 ?_); refine ⟨_, Dk _ _, ?_⟩; rintro r n' H' hn' hs' ⟨gm, hgm, rfl, rfl, rfl⟩; (replace hgm : n2 ≤ gm := hgm)) | ((with_reducible refine AP 41 ?_); (refine' CallP.sf ?_ (hcut) ?_); (focus first | (with_reducible exact A0 _) | (simp [AC, AA, A1, A0]; done))) | (with_reducible first | refine A8 ?_ ?_ ?_ | exact AG | assumption | refine A3 ?_ | refine KM.of ?_ | refine AI ?_ | refine A5 ?_ | refine AR ?_ | refine A7 ?_ | refine AW ?_ | refine AQ ?_ | intro _g _hg | refine AK ?_ ?_ | intro _hc) | omega)
          all_goals (refine hbad (by rw [hE]; rfl) _ _ _ rfl (by omega) (fun q hq => by simp (disch := omega) only [upd_ne]; exact hS q hq) (fun q hq => by simp (disch := omega) only [upd_ne]; exact hs2 q (by omega)))
        | true =>
          simp only [if_true] at hO
          have hdec2 := hdec (by omega)
          rw [TK] at hdec2
          by_cases hnm : (CV w).2 = true ∧ 0 ≤ (CV w).1
          · rw [if_pos hnm] at hO
            rw [hO] at hE
            rw [hnm.1, decide_eq_true hnm.2] at hdec2
            have hat := Ob (VL hnm.1) (by omega)
            generalize (CV w).1 = v at *
            repeat' (first | (simp -implicitDefEqProofs [Di, Dh, DY, Dd, Da, Cf, c74, -getElem?_pos, splice, hj', hx2, hm, _hq]) | (simp (disch := omega) only [AJ]) | ((with_reducible refine Ad 64 ?_); refine ⟨_, Dk _ _, ?_⟩; rintro r n' H' hn' hs' ⟨gm, hgm, rfl, rfl, rfl⟩; (replace hgm : n2 ≤ gm := hgm)) | ((refine Flr.app (g6 := g6) (f := (a, v)) (hF.keep (by omega) (fun q hq => by simp (disch := omega) only [upd_ne])) ⟨_, _, (by simp (disch := omega) only [upd_ne]; exact h6)⟩ (by omega) (by omega) (by omega) ?_); intro g' n' H' hle hF2 h62 hS2 hsu2; (have h63 : H' g6 = some (.cells 55 [aI 2, .str [], .str [], DN pa, vf, .sl 0 [] .nil, .sl 0 [] .nil]) := h62.trans (by simp (disch := omega) only [upd_ne]; exact h6)); (have _hq := h63)) | ((with_reducible refine AP 41 ?_); (refine' CallP.sf ?_ (hcut) ?_); (focus first | (with_reducible exact A0 _) | (simp [AC, AA, A1, A0]; done))) | ((with_reducible refine AP 114 ?_); (refine' CallP.sf ?_ (hdec2) ?_); (focus first | (with_reducible exact A0 _) | (simp [AC, AA, A1, A0]; done))) | ((with_reducible refine AP 115 ?_); (refine' CallP.sf ?_ (hat) ?_); (focus first | (with_reducible exact A0 _) | (simp [AC, AA, A1, A0]; done))) | (with_reducible first | refine A8 ?_ ?_ ?_ | exact AG | assumption | refine A3 ?_ | refine KM.of ?_ | refine AI ?_ | refine A5 ?_ | refine AR ?_ | refine A7 ?_ | refine AW ?_ | refine AQ ?_ | intro _g _hg | refine AK ?_ ?_ | intro _hc) | omega)
            all_goals
              have hg6 : g' ≠ g6 := by
                rintro rfl
                rw [hF2.2.2] at h63; cases h63
              refine hJ (m - 1) _ (by omega) ⟨j + 1, n', _, fsd ++ [(a, v)], .sl 2 ((fsd ++ [(a, v)]).map Ty) (.own g'), by omega, rfl, by omega, fun q hq => ?_, fun q hq => ?_, ?_, .inr ⟨g', by omega, hF2.2.1, rfl, ?_⟩, ?_, by simp [hfl]⟩
              · rw [upd_ne (by omega), hS2 q hq]
                simp (disch := omega) only [upd_ne]
                exact hS q hq
              · rw [upd_ne (by omega)]
                exact hsu2 (fun q hq => by simp (disch := omega) only [upd_ne]; exact hs2 q (by omega)) q hq
              · simp [AY]
              · rw [upd_ne hg6]; exact hF2.2.2
              · rw [hE]
                cases G3 (tl.drop (j + 1)) <;> simp
          · rw [if_neg hnm] at hO
            rw [hO] at hE
            have hb0 : ((CV w).2 && decide (0 ≤ (CV w).1)) = false := by
              rw [← Bool.not_eq_true]; simpa using hnm
            rw [hb0] at hdec2
            repeat' (first | (simp -implicitDefEqProofs [Di, Dh, DY, Dd, Da, Cf, c74, -getElem?_pos, splice, hj', hx2, hm]) | (simp (disch := omega) only [AJ]) | ((with_reducible refine Ad 64 ?_); refine ⟨_, Dk _ _, ?_⟩; rintro r n' H' hn' hs' ⟨gm, hgm, rfl, rfl, rfl⟩; (replace hgm : n2 ≤ gm := hgm)) | ((with_reducible refine AP 41 ?_); (refine' CallP.sf ?_ (hcut) ?_); (focus first | (with_reducible exact A0 _) | (simp [AC, AA, A1, A0]; done))) | ((with_reducible refine AP 114 ?_); (refine' CallP.sf ?_ (hdec2) ?_); (focus first | (with_reducible exact A0 _) | (simp [AC, AA, A1, A0]; done))) | (with_reducible first | refine A8 ?_ ?_ ?_ | exact AG | assumption | refine A3 ?_ | refine KM.of ?_ | refine AI ?_ | refine A5 ?_ | refine AR ?_ | refine A7 ?_ | refine AW ?_ | refine AQ ?_ | intro _g _hg | refine AK ?_ ?_ | intro _hc) | omega)
            all_goals (refine hbad (by rw [hE]; rfl) _ _ _ rfl (by omega) (fun q hq => by simp (disch := omega) only [upd_ne]; exact hS q hq) (fun q hq => by simp (disch := omega) only [upd_ne]; exact hs2 q (by omega)))
    · have hj0 : j = tl.length := by omega
      subst hj0
      have hj' : ¬ (tl.length : Int) < tl.length := by omega
      rw [List.drop_length] at hE
      simp only [G3, Option.map_some, List.append_nil] at hE
      rw [hE] at hD
      rw [hD]
      clear hbad hJ
      have hP2 := h.keep (by omega) hs2 hS
      have hc := UR (k := 2) (t := []) (nm := []) (pa := pa) (fs := fsd) (b := []) (e' := []) hP2 hb (by simp) (fun h => by cases h)
      have e1 : V9 (Dir.fld (Pt.mk 2 [] [] pa fsd [] [])) st = DA (Pt.mk 2 [] [] pa fsd [] []) st := rfl
      rw [e1]
      generalize DA (Pt.mk 2 [] [] pa fsd [] []) st = st2 at *
      have hsim := hF.one.2.2.2
      repeat' (first | (simp -implicitDefEqProofs [Di, Dh, DY, Dd, Da, Cf, c74, -getElem?_pos, hj', h6, splice]) | (simp (disch := omega) only [AJ]) | ((with_reducible refine Ad 70 ?_); refine ⟨_, ACalls.sim hc (A6 (A1 _) (A6 (EL (A6 (A1 _) (A6 (A1 _) (A6 (A1 _) (A6 (A1 _) (A6 hsim (A6 (D6 7) (A6 (D6 7) rfl)))))))) rfl)), ?_⟩; rintro r n' H' hn hs ⟨rfl, hP, hle⟩) | (with_reducible first | refine A8 ?_ ?_ ?_ | exact AG | assumption | refine A3 ?_ | refine KM.of ?_ | refine AI ?_ | refine A5 ?_ | refine AR ?_ | refine A7 ?_ | refine AW ?_ | refine AQ ?_ | intro _g _hg | refine AK ?_ ?_ | intro _hc) | omega)
      all_goals exact B8 rfl (by omega) hs ⟨rfl, hP, by omega⟩
  · have hp' : BK pa = false := by simpa using hp
    rw [if_neg hp] at hD
    rw [hD]
    rw [hp'] at hpa
    refine AO Tryz.func74 XQ rfl fun hs => ?_
    repeat' (first | (simp -implicitDefEqProofs [c74, Cf, -getElem?_pos, splice, AA]) | (simp (disch := omega) only [AJ]) | ((with_reducible refine AP 73 ?_); (refine' CallP.sf ?_ (hsp) ?_); (focus first | (with_reducible exact A0 _) | (simp [AC, AA, A1, A0]; done))) | ((with_reducible refine AP 73 ?_); (refine' CallP.sf ?_ (hsp2) ?_); (focus first | (with_reducible exact A0 _) | (simp [AC, AA, A1, A0]; done))) | ((with_reducible refine AP 108 ?_); (refine' CallP.sf ?_ (hpa) ?_); (focus first | (with_reducible exact A0 _) | (simp [AC, AA, A1, A0]; done))) | (with_reducible first | refine A8 ?_ ?_ ?_ | exact AG | assumption | refine A3 ?_ | refine KM.of ?_ | refine AI ?_ | refine A5 ?_ | refine AR ?_ | refine A7 ?_ | refine AW ?_ | refine AQ ?_ | intro _g _hg | refine AK ?_ ?_ | intro _hc) | omega)
    all_goals exact B8 rfl (by omega) (fun q hq => by simp (disch := omega) only [upd_ne]; exact hsup q (by omega)) ⟨rfl, h.keep (by omega) (fun q hq => by simp (disch := omega) only [upd_ne]; exact hsup q (by omega)) (fun q hq => by simp (disch := omega) only [upd_ne]), by omega⟩
theorem ACalls.frzIn {P : Program} {f : Nat} {args : List AV} {n : Nat} {H : A2} {R : DL} {g e sz : Nat} {l : List AV} (hg : H g = some (.grow e (AD l))) (hz : Aq P e = sz) (h0 : 0 < sz) (hu : ∀ x ∈ l, x.cells.length = sz) (h : ACalls P f (F4 g sz l args) n (upd H g none) R) : ACalls P f args n H R := by
  intro hs w0 G w vs hl hr hv
  obtain ⟨us, c, hc, hLe, hrel, hrl, hsl, hcm, hcs, h1⟩ := hr.still hg
  have hlen : l.length ≤ c := by
    have e1 : (AD l).length = l.length * sz := by
      clear hg hrl hcs h1 h
      induction l with
      | nil => simp [AD]
      | cons x l ih =>
        have := ih fun y hy => hu y (List.mem_cons_of_mem _ hy)
        have h2 := hu x List.mem_cons_self
        simp only [AD, List.flatMap_cons, List.length_append] at this ⊢
        rw [this, h2, List.length_cons, Nat.succ_mul]; omega
    rw [e1, hz] at hcs
    exact Nat.le_of_mul_le_mul_right hcs h0
  have hv2 := RepL.frz hLe hc hrl hsl ⟨hlen, hcm, h0, hu, h1⟩ hv
  refine (h (fun k hk => ?_) w0 (G.still g us) w vs hl hrel hv2).mono ?_
  · simp only [upd]; split
    · rfl
    · exact hs k hk
  · rintro e' w' ⟨v, r, G', n', H', q1, q2, q3, q4, q5, q6⟩
    exact ⟨v, r, G', n', H', q1, q2, q3, hLe.tr q4, q5, q6⟩
theorem ACalls.shrIn {P : Program} {f : Nat} {args : List AV} {n : Nat} {H : A2} {R : DL} {g e : Nat} {a b : List AV} (hg : H g = some (.grow e (a ++ b))) (h : ACalls P f args n (upd H g (some (.grow e a))) R) : ACalls P f args n H R := by
  intro hs w0 G w vs hl hr hv
  have hgn := (hr.objs g _ hg).2.1
  have hlo := (hr.objs g _ hg).1
  refine h (fun k hk => by rw [upd_ne (by omega)]; exact hs k hk) w0 G w vs hl ⟨hr.ext, hr.lo, hr.hi, hr.seal_, hr.caps, hr.capLo, fun g' ob hob => ?_⟩ hv
  by_cases hgg : g' = g
  · subst hgg
    rw [AY] at hob
    injection hob with hob
    subst hob
    obtain ⟨h1, vs', c, h2, h3, h4, h5, h6, h7, h8⟩ := (hr.objs g' _ hg).2.2
    refine ⟨hlo, hgn, h1, vs', c, h2, h3, h4, h5, by simp at h6; omega, ?_, fun x hx => h8 x (List.mem_append_left _ hx)⟩
    have := RepL.take h7 a.length
    rw [List.take_take, List.take_left' rfl] at this
    have e : min a.length (a ++ b).length = a.length := by simp
    rwa [e] at this
  · rw [upd_ne hgg] at hob
    exact hr.objs g' ob hob
theorem Gc : ∀ (l : List Pt), ∀ x ∈ AH l, x.cells.length = 7
  | [], x, h => by simp [AH] at h
  | y :: r, x, h => by
    simp only [AH] at h
    rcases List.mem_cons.1 h with rfl | h
    · obtain ⟨k, t, n, pa, fs, b, e⟩ := y
      rw [BZ]; rfl
    · exact Gc r x h
theorem Xy : Aq Tryz.prog 55 = 7 := by kernel_rfl
theorem Og {g : Nat} {l : List Pt} (h : l ≠ []) : Ca g 7 (AH l) (CW g l) = .sl 7 (AH l) .ro := by
  rw [JH h]
  simp [Ca, C7]
theorem Wg {g g' : Nat} {l l' : List Pt} (h : g' ≠ g ∨ l' = []) : Ca g 7 (AH l) (CW g' l') = CW g' l' := by
  cases l' with
  | nil => rfl
  | cons x r =>
    rcases h with h | h
    · simp only [CW, Ca]; rw [if_neg (fun e => h e.2.1)]
    · cases h
theorem UU {n gp gb ge : Nat} {H : A2} {R : DL} {k : Int} {t nm : AF} {pa : List AF} {fs : List (AF × Int)} {b e : List Pt} (hb : b ≠ [] → H gb = some (CT b)) (he : e ≠ [] → H ge = some (CT e)) (hne : b ≠ [] → e ≠ [] → gb ≠ ge)
    (h : ACalls Tryz.prog 70 [.ptr gp 0, agP k t nm pa fs b e] n (if e = [] then (if b = [] then H else upd H gb none) else upd (if b = [] then H else upd H gb none) ge none) R) : ACalls Tryz.prog 70 [.ptr gp 0, .agg [aI k, .str t, .str nm, DN pa, Bz fs, CW gb b, CW ge e]] n H R := by
  have he2 : ∀ {H2 : A2} {x : AV}, (e ≠ [] → H2 ge = some (CT e)) → (Ca ge 7 (AH e) x = x) → ACalls Tryz.prog 70 [.ptr gp 0, .agg [aI k, .str t, .str nm, DN pa, Bz fs, x, .sl 7 (AH e) .ro]] n (if e = [] then H2 else upd H2 ge none) R → ACalls Tryz.prog 70 [.ptr gp 0, .agg [aI k, .str t, .str nm, DN pa, Bz fs, x, CW ge e]] n H2 R := by
    intro H2 x hH hx h
    by_cases h0 : e = []
    · subst h0
      exact ACalls.sim h (A6 (A1 _) (A6 (EL (A6 (A1 _) (A6 (A1 _) (A6 (A1 _) (A6 (A1 _) (A6 (A1 _) (A6 (A1 _) (A6 (D6 7) rfl)))))))) rfl))
    · rw [if_neg h0] at h
      refine ACalls.frzIn (hH h0) Xy (by omega) (Gc e) ?_
      simp only [F4, Ca, hx, Og h0]
      exact h
  by_cases h0 : b = []
  · subst h0
    simp only [if_true] at h
    refine ACalls.sim (args' := [.ptr gp 0, .agg [aI k, .str t, .str nm, DN pa, Bz fs, .sl 7 [] .ro, CW ge e]]) ?_ (A6 (A1 _) (A6 (EL (A6 (A1 _) (A6 (A1 _) (A6 (A1 _) (A6 (A1 _) (A6 (A1 _) (A6 (D6 7) (A6 (A1 _) rfl)))))))) rfl))
    exact he2 he rfl h
  · rw [if_neg h0] at h
    refine ACalls.frzIn (hb h0) Xy (by omega) (Gc b) ?_
    have hx : Ca gb 7 (AH b) (CW ge e) = CW ge e := Wg (by
      by_cases h1 : e = []
      · exact .inr h1
      · exact .inl (fun e1 => hne h0 h1 e1.symm))
    simp only [F4, Ca, hx, Og h0]
    refine he2 (fun h1 => ?_) rfl h
    rw [upd_ne (fun e1 => hne h0 h1 e1.symm)]
    exact he h1
end Go.Proofs.YtnfjgphfaemjcaaGreatDoor
