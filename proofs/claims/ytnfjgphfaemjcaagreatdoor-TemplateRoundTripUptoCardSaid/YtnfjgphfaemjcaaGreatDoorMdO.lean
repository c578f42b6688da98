/- Templates: numbers and paths, as the program and the reference know them; the filters; no condition. -/
import Derived.Test.YtnfjgphfaemjcaaGreatDoorMgI
import Derived.Test.YtnfjgphfaemjcaaGreatDoorMdN
import Derived.Test.YtnfjgphfaemjcaaGreatDoorMgJ
set_option linter.all false
set_option linter.unusedSimpArgs false
set_option linter.unusedVariables false
set_option maxHeartbeats 4000000
namespace Go.Proofs.YtnfjgphfaemjcaaGreatDoor
theorem Tu (u : Nat) : (Lib.decDigits u).length ≤ 3 ↔ u ≤ 999 := by
 rw [Lib.decDigits_length]
 constructor
 ·intro h
  have h1 := Lib.lt_pow_nDigits u
  have h2 : 10 ^ Lib.nDigits u ≤ 10 ^ 3 := Nat.pow_le_pow_right (by omega) h
  omega
 ·intro h
  exact EF 2 u (by omega)
def HV (s : AF) (m : Int) : Bool := match Lib.atoiAll s with
 | .ok v => decide ((s.length : Int) ≤ m) && decide (0 ≤ v) && decide (Lib.itoa v = s)
 | _ => false
theorem PV {s : AF} {m : Nat} (hm : m = 3 ∨ m = 9) : HV s m = ((CV s).2 && decide (0 ≤ (CV s).1) && decide ((CV s).1 < 10 ^ m)) := by
 unfold HV CV
 split
 ·rename_i v hv
  by_cases h : Lib.itoa v = s
  ·by_cases h0 : 0 ≤ v
   ·obtain ⟨u, rfl⟩ : ∃ u : Nat, v = (u : Int) := ⟨v.toNat, by omega⟩
    have ht := JR (u : Int)
    rw [h] at ht
    simp only [hv, h, decide_true, Bool.true_and, Bool.and_true, ht]
    have hs : s = Lib.decDigits u := by rw [← h, Lib.itoa_nonneg]
    have e2 : ((u : Int).natAbs) = u := by omega
    rw [e2, hs]
    have h3 := Tu u
    have h9 := M3 u
    rcases hm with rfl | rfl
    ·have : decide ((Lib.decDigits u).length ≤ 9) = true ∨ ¬ (u ≤ 999) := by
      by_cases hu : u ≤ 999
      ·exact .inl (decide_eq_true (by omega))
      ·exact .inr hu
     rcases this with h4 | h4
     ·rw [h4]; simp only [Bool.true_and]
      by_cases hu : u ≤ 999
      ·rw [decide_eq_true (by omega), decide_eq_true (by omega), decide_eq_true (by omega)]
       all_goals rfl
      ·rw [decide_eq_false (by omega), decide_eq_false (p := _ < _) (by omega)]; simp
     ·rw [decide_eq_false (p := (((Lib.decDigits u).length : Nat) : Int) ≤ _) (by omega), decide_eq_false (p := (u : Int) < _) (by omega)]; simp
    ·by_cases hu : u ≤ 999999999
     ·rw [decide_eq_true (by omega), decide_eq_true (by omega), decide_eq_true (by omega), decide_eq_true (by omega)]
      all_goals rfl
     ·rw [decide_eq_false (p := (((Lib.decDigits u).length : Nat) : Int) ≤ _) (by omega), decide_eq_false (p := (u : Int) < _) (by omega)]; simp
   ·simp only [hv, h0, decide_false, Bool.and_false, Bool.false_and]
  ·simp only [hv, h, decide_false, Bool.and_false, Bool.false_and]
 ·rename_i h
  split
  ·rename_i v hv; exact absurd hv (h v)
  ·rfl
  ·rfl
theorem Wp (s : AF) : HV s 3 = Vp s := by
 have h := PV (s := s) (m := 3) (.inl rfl)
 have e : HV s 3 = HV s ((3 : Nat) : Int) := rfl
 rw [e, h]
 unfold Vp
 congr 1
 apply decide_eq_decide.2; omega
attribute [local simp] Jm Dg Dj KG JZ J0 KK DQ DZ EU FW I7 Id IP KJ IM IT KR JD K4 IH Ix J2 Ju KD R5 pe Jg J3 JV K7 KF Jn Ip J9 KQ Jw KT ID J8 F0 Nd NU MY Mh MU Mj MN ML Nf MK M9 MQ NP Nn Mn Ms Np MB Mi M8 NA F2 NG FC MA NB No NL NF NX N2 NK Mp MH MC Nh MF N6 NC NM MG NN NZ MO Mm ND Nk NR NI Eu NJ Mv MX NE Me Mb NT MI NS Md Mt ME MJ N8 Nm MV NQ NO Mo I6 K5 Jv Ji Jb JQ I5 IZ IL Ig JA HM K9 List.mem_cons guardK Cs E6 EM Fd Ng Ew F1 Ez Es Ep F8 Eq F7 Ef MS MR Er Jq Ml NV Nl MM Mx El JG N3 Mc JT Jp Nc Gp F5 Ey Et FA Ni N5 F9 N4 Ej KI En Ek JE Ev FB My MT Mr IX Mu Nq J4 Jo Qz I0 Hd G4 HQ Hu Hx DC Ea EW JB Eb Ee DG Cv Su Hc HS Ec Hq Hs Cl Ch B1 Au Ba Ci Cb ev get put Dx AB CS K8 I4 Io Jh Hy Ib DP part Am Fo IF Fb isNil CI CP Cp CQ CR Im JM IC Ia Jx JO JS JN IA It KA IU Jt IK Is K0 AV.fits AV.cells ones AV.one D7 BY DB CY DK DM KO E5 EG C5 BB CD ER Cw AY Ao TZ FO K3 I9 List.getElem?_cons_zero List.getElem?_cons_succ Ei Eg Eh JC K2 Jy Fp Ih IQ IR Jz JP Iu J7 Mg Ij Ii JF IE KN JY IB JI Ie KH KP JW Je IG Jl JK Jk Jd J6 Jj
theorem OL (s : AF) (m : Int) (hs : s.length ≤ 2000000) : APure Tryz.prog 114 [.str s, aI m] (.bool (HV s m)) := by
 cases h : Lib.atoiAll s with
 | ok v =>
  have ha := Ob h hs
  have hb := Lib.atoiAll_bounds h
  have hi := R7 v hb
  unfold HV
  rw [h]
  simp only
  generalize Lib.itoa v = iv at *
  refine AM Tryz.func114 SB rfl fun n H hH => ?_
  repeat' (first | (simp -implicitDefEqProofs [c114, -getElem?_pos]) | (simp (disch := omega) only [AJ]) | ((with_reducible refine AP 115 ?_); (refine' CallP.sf ?_ (ha) ?_); (focus first | (with_reducible exact A0 _) | (simp [AC, AA, A1, A0]; done))) | ((with_reducible refine AP 65 ?_); (refine' CallP.sf ?_ (hi) ?_); (focus first | (with_reducible exact A0 _) | (simp [AC, AA, A1, A0]; done))) | (with_reducible first | refine A8 ?_ ?_ ?_ | exact AG | refine SameB.upd ?_ ?_ _ | assumption | refine A3 ?_ | refine KM.of ?_ | refine AI ?_ | intro _g _hg | refine AK ?_ ?_ | intro _hc) | omega)
  all_goals (refine C1 ?_; grind)
 | range =>
  have ha := VD h hs
  generalize Lib.atoiSat s = z at *
  have hd : HV s m = false := by unfold HV; rw [h]
  rw [hd]
  refine AM Tryz.func114 SB rfl fun n H hH => ?_
  repeat' (first | (simp -implicitDefEqProofs [c114, -getElem?_pos]) | (simp (disch := omega) only [AJ]) | ((with_reducible refine AP 115 ?_); (refine' CallP.sf ?_ (ha) ?_); (focus first | (with_reducible exact A0 _) | (simp [AC, AA, A1, A0]; done))) | (with_reducible first | refine A8 ?_ ?_ ?_ | exact AG | refine SameB.upd ?_ ?_ _ | assumption | refine A3 ?_ | refine KM.of ?_ | refine AI ?_ | intro _g _hg | refine AK ?_ ?_ | intro _hc) | omega)
  all_goals exact A1 _
 | _ =>
  have ha := Pr (s := s) (by rw [h]; intro v e; cases e) (by rw [h]; intro e; cases e) hs
  have hd : HV s m = false := by unfold HV; rw [h]
  rw [hd]
  refine AM Tryz.func114 SB rfl fun n H hH => ?_
  repeat' (first | (simp -implicitDefEqProofs [c114, -getElem?_pos]) | (simp (disch := omega) only [AJ]) | ((with_reducible refine AP 115 ?_); (refine' CallP.sf ?_ (ha) ?_); (focus first | (with_reducible exact A0 _) | (simp [AC, AA, A1, A0]; done))) | (with_reducible first | refine A8 ?_ ?_ ?_ | exact AG | refine SameB.upd ?_ ?_ _ | assumption | refine A3 ?_ | refine KM.of ?_ | refine AI ?_ | intro _g _hg | refine AK ?_ ?_ | intro _hc) | omega)
  all_goals exact A1 _
def Kg (s : AF) : Bool := !Kp s && !Vp s
theorem YF (s : AF) (hs : s.length ≤ 2000000) : APure Tryz.prog 148 [.str s] (.bool (Kg s)) := by
 show APure Tryz.prog 148 [.str s] (.bool (!Kp s && !Vp s))
 have h1 := Ov s hs
 have h2 := OL s 3 hs
 rw [Wp] at h2
 generalize Kp s = a at *
 generalize Vp s = b at *
 refine AM Tryz.func148 Yr rfl fun n H hH => ?_
 cases a
 ·repeat' (first | (simp -implicitDefEqProofs [c148, -getElem?_pos]) | (simp (disch := omega) only [AJ]) | ((with_reducible refine AP 107 ?_); (refine' CallP.sf ?_ (h1) ?_); (focus first | (with_reducible exact A0 _) | (simp [AC, AA, A1, A0]; done))) | ((with_reducible refine AP 114 ?_); (refine' CallP.sf ?_ (h2) ?_); (focus first | (with_reducible exact A0 _) | (simp [AC, AA, A1, A0]; done))) | (with_reducible first | refine A8 ?_ ?_ ?_ | exact AG | refine SameB.upd ?_ ?_ _ | assumption | refine A3 ?_ | refine KM.of ?_ | refine AI ?_ | intro _g _hg | refine AK ?_ ?_ | intro _hc) | omega)
  all_goals exact A1 _
 ·repeat' (first | (simp -implicitDefEqProofs [c148, -getElem?_pos]) | (simp (disch := omega) only [AJ]) | ((with_reducible refine AP 107 ?_); (refine' CallP.sf ?_ (h1) ?_); (focus first | (with_reducible exact A0 _) | (simp [AC, AA, A1, A0]; done))) | ((with_reducible refine AP 114 ?_); (refine' CallP.sf ?_ (h2) ?_); (focus first | (with_reducible exact A0 _) | (simp [AC, AA, A1, A0]; done))) | (with_reducible first | refine A8 ?_ ?_ ?_ | exact AG | refine SameB.upd ?_ ?_ _ | assumption | refine A3 ?_ | refine KM.of ?_ | refine AI ?_ | intro _g _hg | refine AK ?_ ?_ | intro _hc) | omega)
  all_goals exact A1 _
theorem Qw {d : Option Nat} {K : AS → Prop} {en : AL} {n : Nat} {H : A2} {xs a b : List AV} {f : Nat} (hc : DE Tryz.prog f = true) : Cb Tryz.prog d K en n H xs (.fn f a b) = CallK Tryz.prog f (a ++ xs ++ b) d K ⟨en, n, H⟩ := propext ⟨fun h => h.2, fun h => ⟨hc, h⟩⟩
theorem step_ok : DE Tryz.prog 148 = true := by kernel_rfl
def Wm : List AF → Int → Int
 | [], _ => -1
 | s :: r, i => if Kg s = true then i else Wm r (i + 1)
theorem SQ : ∀ (p : List AF) (i : Int), 0 ≤ i → (decide (0 ≤ Wm p i) = p.any Kg)
 | [], i, _ => rfl
 | s :: r, i, hi => by
  simp only [Wm, List.any_cons]
  split
  ·rename_i h; simp [h, hi]
  ·rename_i h; rw [SQ r (i + 1) (by omega)]; simp [h]
theorem Vi (p : List AF) (hl : p.length ≤ 140737488355328) (hb : ∀ s ∈ p, s.length ≤ 2000000) : APure Tryz.prog 179 [DN p, .fn 148 [] []] (aI (Wm p 0)) := by
 
 refine AM Tryz.func179 Xz rfl fun n H hH => ?_
 repeat' (first | (simp -implicitDefEqProofs [c179, -getElem?_pos]) | (simp (disch := omega) only [AJ]) | (with_reducible first | refine A8 ?_ ?_ ?_ | exact AG | refine SameB.upd ?_ ?_ _ | assumption | refine A3 ?_ | refine KM.of ?_ | refine AI ?_ | intro _g _hg | refine AK ?_ ?_ | intro _hc) | omega)
 refine LoopK.go (fun r st => ∃ j : Nat, j + r = p.length ∧ st = ⟨[(0, DN p), (1, .fn 148 [] []), (7, aI p.length), (8, aI j)], n, H⟩ ∧ Wm p 0 = Wm (p.drop j) j) p.length ⟨0, by omega, by simp, rfl⟩ ?_
 rintro r st ⟨j, hj, rfl, hE⟩ J hJ
 by_cases hjl : j < p.length
 ·obtain ⟨x, hx⟩ : ∃ x, p[j]? = some x := ⟨_, List.getElem?_eq_getElem hjl⟩
  have hjl' : (j : Int) < p.length := by omega
  have hch := YF x (hb x (List.mem_of_getElem? hx))
  rw [drop_at hx] at hE
  simp only [Wm] at hE
  generalize Kg x = bb at *
  cases bb
  ·
   repeat' (first | (simp -implicitDefEqProofs [HF, HB, H5, H4, c179, -getElem?_pos, hx, hjl', Qw step_ok, -Cb]) | (simp (disch := omega) only [AJ]) | ((with_reducible refine Ad 148 ?_); (refine' CallK.sfAt ?_ (hch.at_ _ _) ?_); (focus first | (with_reducible exact A0 _) | (simp [AC, AA, A1, A0]; done))) | (with_reducible first | refine A8 ?_ ?_ ?_ | exact AG | refine SameB.upd ?_ ?_ _ | assumption | refine A3 ?_ | refine KM.of ?_ | refine AI ?_ | intro _g _hg | refine AK ?_ ?_ | intro _hc) | omega)
   exact hJ (r - 1) _ (by omega) ⟨j + 1, by omega, rfl, by rw [hE]; rfl⟩
  ·rw [hE]
   
   repeat' (first | (simp -implicitDefEqProofs [HF, HB, H5, H4, c179, -getElem?_pos, hx, hjl', Qw step_ok, -Cb]) | (simp (disch := omega) only [AJ]) | ((with_reducible refine Ad 148 ?_); (refine' CallK.sfAt ?_ (hch.at_ _ _) ?_); (focus first | (with_reducible exact A0 _) | (simp [AC, AA, A1, A0]; done))) | (with_reducible first | refine A8 ?_ ?_ ?_ | exact AG | refine SameB.upd ?_ ?_ _ | assumption | refine A3 ?_ | refine KM.of ?_ | refine AI ?_ | intro _g _hg | refine AK ?_ ?_ | intro _hc) | omega)
   all_goals exact A1 _
 ·have hjl' : ¬ (j : Int) < p.length := by omega
  rw [List.drop_eq_nil_of_le (by omega)] at hE
  rw [hE]
  
  repeat' (first | (simp -implicitDefEqProofs [HF, HB, H5, H4, c179, -getElem?_pos, hjl', Wm]) | (simp (disch := omega) only [AJ]) | (with_reducible first | refine A8 ?_ ?_ ?_ | exact AG | refine SameB.upd ?_ ?_ _ | assumption | refine A3 ?_ | refine KM.of ?_ | refine AI ?_ | intro _g _hg | refine AK ?_ ?_ | intro _hc) | omega)
  all_goals exact A1 _
theorem QA (p : List AF) (hl : p.length ≤ 140737488355328) (hb : ∀ s ∈ p, s.length ≤ 2000000) : APure Tryz.prog 147 [DN p, .fn 148 [] []] (.bool (p.any Kg)) := by
 have h := Vi p hl hb
 rw [← SQ p 0 (by omega)]
 generalize Wm p 0 = i at *
 
 refine AM Tryz.func147 YV rfl fun n H hH => ?_
 repeat' (first | (simp -implicitDefEqProofs [c147, -getElem?_pos]) | (simp (disch := omega) only [AJ]) | ((with_reducible refine Ad 179 ?_); (refine' CallK.sfAt ?_ (h.at_ _ _) ?_); (focus first | (with_reducible exact A0 _) | (simp [AC, AA, A1, A0]; done))) | (with_reducible first | refine A8 ?_ ?_ ?_ | exact AG | refine SameB.upd ?_ ?_ _ | assumption | refine A3 ?_ | refine KM.of ?_ | refine AI ?_ | intro _g _hg | refine AK ?_ ?_ | intro _hc) | omega)
 all_goals exact A1 _
theorem VZ (p : List AF) (hb : ∀ s ∈ p, s.length ≤ 2000000) (hl : p.length ≤ 140737488355328) : APure Tryz.prog 108 [DN p] (.bool (BK p)) := by
 cases p with
 | nil =>
  have e : BK [] = false := rfl
  rw [e]
  refine AM Tryz.func108 V2 rfl fun n H hH => ?_
  repeat' (first | (simp -implicitDefEqProofs [EJ, c108, -getElem?_pos]) | (simp (disch := omega) only [AJ]) | (with_reducible first | refine A8 ?_ ?_ ?_ | exact AG | refine SameB.upd ?_ ?_ _ | assumption | refine A3 ?_ | refine KM.of ?_ | refine AI ?_ | intro _g _hg | refine AK ?_ ?_ | intro _hc) | omega)
  all_goals exact A1 _
 | cons h t =>
  have h1 := Ov h (hb h List.mem_cons_self)
  have hc := (QA (h :: t) hl hb).at_
  have e : BK (h :: t) = (decide ((t.length : Int) + 1 ≤ 8) && Kp h && !(h :: t).any Kg) := by
   have : (decide (t.length ≤ 7)) = decide ((t.length : Int) + 1 ≤ 8) := decide_eq_decide.2 (by omega)
   simp only [BK, this, List.any_cons, Kg]
   cases Kp h <;> simp [List.all_eq_not_any_not]
   rfl
  rw [e]
  generalize (h :: t).any Kg = bb at *
  generalize Kp h = ba at *
  have hg : (Zt (h :: t))[0]? = some (.str h) := rfl
  refine AM Tryz.func108 V2 rfl fun n H hH => ?_
  cases ba <;> cases bb
  ·repeat' (first | (simp -implicitDefEqProofs [EJ, c108, -getElem?_pos]) | (simp (disch := omega) only [AJ]) | ((with_reducible refine AP 107 ?_); (refine' CallP.sf ?_ (h1) ?_); (focus first | (with_reducible exact A0 _) | (simp [AC, AA, A1, A0]; done))) | ((with_reducible refine Ad 147 ?_); (refine' CallK.sfAt ?_ (hc _ _) ?_); (focus first | (with_reducible exact A0 _) | (simp [AC, AA, A1, A0]; done))) | (with_reducible first | refine A8 ?_ ?_ ?_ | exact AG | refine SameB.upd ?_ ?_ _ | assumption | refine A3 ?_ | refine KM.of ?_ | refine AI ?_ | intro _g _hg | refine AK ?_ ?_ | intro _hc) | omega)
   all_goals (refine C1 ?_; grind)
  ·repeat' (first | (simp -implicitDefEqProofs [EJ, c108, -getElem?_pos]) | (simp (disch := omega) only [AJ]) | ((with_reducible refine AP 107 ?_); (refine' CallP.sf ?_ (h1) ?_); (focus first | (with_reducible exact A0 _) | (simp [AC, AA, A1, A0]; done))) | ((with_reducible refine Ad 147 ?_); (refine' CallK.sfAt ?_ (hc _ _) ?_); (focus first | (with_reducible exact A0 _) | (simp [AC, AA, A1, A0]; done))) | (with_reducible first | refine A8 ?_ ?_ ?_ | exact AG | refine SameB.upd ?_ ?_ _ | assumption | refine A3 ?_ | refine KM.of ?_ | refine AI ?_ | intro _g _hg | refine AK ?_ ?_ | intro _hc) | omega)
   all_goals (refine C1 ?_; grind)
  ·repeat' (first | (simp -implicitDefEqProofs [EJ, c108, -getElem?_pos]) | (simp (disch := omega) only [AJ]) | ((with_reducible refine AP 107 ?_); (refine' CallP.sf ?_ (h1) ?_); (focus first | (with_reducible exact A0 _) | (simp [AC, AA, A1, A0]; done))) | ((with_reducible refine Ad 147 ?_); (refine' CallK.sfAt ?_ (hc _ _) ?_); (focus first | (with_reducible exact A0 _) | (simp [AC, AA, A1, A0]; done))) | (with_reducible first | refine A8 ?_ ?_ ?_ | exact AG | refine SameB.upd ?_ ?_ _ | assumption | refine A3 ?_ | refine KM.of ?_ | refine AI ?_ | intro _g _hg | refine AK ?_ ?_ | intro _hc) | omega)
   all_goals (refine C1 ?_; grind)
  ·repeat' (first | (simp -implicitDefEqProofs [EJ, c108, -getElem?_pos]) | (simp (disch := omega) only [AJ]) | ((with_reducible refine AP 107 ?_); (refine' CallP.sf ?_ (h1) ?_); (focus first | (with_reducible exact A0 _) | (simp [AC, AA, A1, A0]; done))) | ((with_reducible refine Ad 147 ?_); (refine' CallK.sfAt ?_ (hc _ _) ?_); (focus first | (with_reducible exact A0 _) | (simp [AC, AA, A1, A0]; done))) | (with_reducible first | refine A8 ?_ ?_ ?_ | exact AG | refine SameB.upd ?_ ?_ _ | assumption | refine A3 ?_ | refine KM.of ?_ | refine AI ?_ | intro _g _hg | refine AK ?_ ?_ | intro _hc) | omega)
   all_goals (refine C1 ?_; grind)
def PO : List (AV × AV) := [(.str [117, 112, 112, 101, 114], .bool false), (.str [108, 111, 119, 101, 114], .bool false), (.str [116, 114, 105, 109], .bool false), (.str [106, 115, 111, 110], .bool false), (.str [112, 97, 100], .bool true), (.str [114, 105, 103, 104, 116], .bool true), (.str [99, 117, 116], .bool true)]
theorem Dk (n : Nat) (H : A2) : ACalls Tryz.prog 64 [] n H fun r n' H' => ∃ g, n ≤ g ∧ n' = g + 1 ∧ r = .mp g ∧ H' = upd H g (some (.map none PO)) := by
 refine AO Tryz.func64 Zs rfl fun hs => ?_
 repeat' (first | (simp -implicitDefEqProofs [c64, -getElem?_pos]) | (simp (disch := omega) only [AJ]) | (with_reducible first | refine A8 ?_ ?_ ?_ | exact AG | assumption | refine A3 ?_ | refine KM.of ?_ | refine AI ?_ | refine Wq ?_ | intro _g _hg | refine AK ?_ ?_ | intro _hc) | omega)
 simp only [CE]
 exact B8 (r := .mp _) rfl (by omega) (fun k hk => by rw [upd_ne (by omega)]; exact hs k (by omega)) ⟨_, by omega, rfl, rfl, rfl⟩
theorem Lf (s : AF) : Au (.str s) PO = if Ko s = 0 then none else some (.bool (decide (Ko s = 2))) := by
 simp only [PO, Au, Ci]
 unfold Ko ZN Zk RI RP V1 LI Xd RU YR
 simp only [List.mem_cons, List.not_mem_nil, or_false, decide_eq_true_eq]
 by_cases h1 : s = [117, 112, 112, 101, 114]
 ·simp [h1]
 by_cases h2 : s = [108, 111, 119, 101, 114]
 ·simp [h2]
 by_cases h3 : s = [116, 114, 105, 109]
 ·simp [h3]
 by_cases h4 : s = [106, 115, 111, 110]
 ·simp [h4]
 by_cases h5 : s = [112, 97, 100]
 ·simp [h5]
 by_cases h6 : s = [114, 105, 103, 104, 116]
 ·simp [h6]
 by_cases h7 : s = [99, 117, 116]
 ·simp [h7]
 simp [h1, h2, h3, h4, h5, h6, h7]
theorem Bw {lo : Nat} {gs : List Nat} {d : Option Nat} {K : AS → Prop} {e : AL} {n : Nat} {H : A2} (hs : ∀ k, n ≤ k → H k = none) (hk : ∀ g n', n ≤ g → (n' = 0 ∨ n' = g + 1) → K ⟨AB e d (.mp g), n', upd H g (some (.map none PO))⟩) : exM Tryz.prog .early lo gs d 64 [] K ⟨e, n, H⟩ (CallK Tryz.prog 64 [] d (KC gs H K) ⟨e, n, H⟩) := by
 refine ⟨fun m => ⟨.mp (max n m), 0, _, KeepM.new (hs _ (by omega)), fun k ob hk _ h => ?_, hk (max n m) 0 (by omega) (.inl rfl)⟩, _, Dk n H, ?_⟩
 ·rw [← h]; exact C0 (by simp only [upd]; rw [if_neg (by omega)])
 ·rintro r n' H' hle hsup ⟨g, h1, h2, rfl, rfl⟩
  exact ⟨KeepM.new (hs g h1), hk g n' h1 (.inr h2)⟩
theorem Cr {gs : List Nat} {ops : List AOper} {K : AS → Prop} {e : AL} {n : Nat} {H : A2} (h : A4 Tryz.prog .early n gs ops (dryK .early K) ⟨e, n, H⟩) : Z0 Tryz.prog .early gs ops K ⟨e, n, H⟩ := ⟨[], h⟩
theorem Dy {K : AS → Prop} {e : AL} {n' g : Nat} {H : A2} {ob : AObj} (hn : n' = 0 ∨ n' = g + 1) (hg : H g = some ob) (hk : n' = g + 1 → K ⟨e, n', H⟩) : dryK .early K ⟨e, n', H⟩ := by
 rcases hn with h | h
 ·exact .inl ⟨g, by simp only; omega, by simp only; rw [hg]; simp⟩
 ·exact .inr (hk h)
theorem LE (s : AF) : Ko s = 0 ∨ Ko s = 1 ∨ Ko s = 2 := by
 unfold Ko
 (repeat' split) <;> simp
theorem Rv {l : List (AF × Int)} {i : Nat} {x : AF × Int} (h : l[i]? = some x) : (l.map Ty)[i]? = some (Ty x) := by rw [List.getElem?_map, h]; rfl
theorem GR (k : Int) (t nm : AF) (pa : List AF) (fs : List (AF × Int)) (lb le : List AV) (hpa : ∀ s ∈ pa, s.length ≤ 2000000) (hpl : pa.length ≤ 2000000) (hn : nm.length ≤ 2000000) (hf : fs.length ≤ 2000000) :
  APure Tryz.prog 68 [.agg [aI k, .str t, .str nm, DN pa, Bz fs, .sl 7 lb .ro, .sl 7 le .ro]] (aI (Fn k nm pa fs)) := by
 have h1 := Ov nm hn
 have h2 := VZ pa hpa (by omega)
 have hA : Fn k nm pa fs = if (k = 4 ∧ Kp nm = false) ∨ (k ≠ 1 ∧ BK pa = false) then 7 else if 8 < fs.length then 2 else LQ 0 fs := rfl
 rw [hA]
 generalize Kp nm = b1 at *
 generalize BK pa = b2 at *
 obtain ⟨z, hz⟩ : ∃ z, (if 8 < fs.length then 2 else LQ 0 fs) = z := ⟨_, rfl⟩
 rw [hz]
 refine AM Tryz.func68 ZM rfl fun n H hH => ?_
 have fin : ∀ g e, n ≤ g → get e 1 = .ptr g 0 → aw Tryz.prog c68_k8 (Lo (aI z) n H c68.res) ⟨e, g + 1, upd H g (some (.cells 55 [aI k, .str t, .str nm, DN pa, Bz fs, .sl 7 lb .ro, .sl 7 le .ro]))⟩ := by
  clear h1 h2 hA
  intro g e hg he
  by_cases h8 : (8 : Int) < fs.length
  ·rw [if_pos (by omega)] at hz
   subst hz
   repeat' (first | (simp -implicitDefEqProofs [Bf, Bh, Bk, Bx, Bn, Bv, Bq, Bu, c68, -getElem?_pos, he, h8]) | (simp (disch := omega) only [AJ]) | (with_reducible first | refine A8 ?_ ?_ ?_ | exact AG | refine SameB.upd ?_ ?_ _ | assumption | refine A3 ?_ | refine KM.of ?_ | refine AI ?_ | refine A5 ?_ | refine A7 ?_ | intro _g _hg | refine AK ?_ ?_ | intro _hc) | omega)
   all_goals exact A1 _
  ·rw [if_neg (by omega)] at hz
   repeat' (first | (simp -implicitDefEqProofs [Bf, Bh, Bk, Bx, Bn, Bv, Bq, Bu, c68, -getElem?_pos, he, h8]) | (simp (disch := omega) only [AJ]) | (with_reducible first | refine A8 ?_ ?_ ?_ | exact AG | refine SameB.upd ?_ ?_ _ | assumption | refine A3 ?_ | refine KM.of ?_ | refine AI ?_ | refine A5 ?_ | refine A7 ?_ | intro _g _hg | refine AK ?_ ?_ | intro _hc) | omega)
   refine LoopK.go (fun m st => ∃ (i n' : Nat) (H' : A2), i + m = fs.length ∧ st = ⟨[(32, Bz fs), (33, aI fs.length), (34, aI i)], n', H'⟩ ∧ n ≤ n' ∧ SameB n H H' ∧ (∀ q, n' ≤ q → H' q = none) ∧ z = LQ i (fs.drop i)) fs.length ⟨0, _, _, by omega, rfl, by omega, (SameB.rfl_ n H).upd hg _, fun q hq => by rw [upd_ne (by omega)]; exact hH q (by omega), hz.symm⟩ ?_
   rintro m st ⟨i, n1, H1, him, rfl, hn1, hS, hsup, hE⟩ J hJ
   clear hz he
   by_cases hi : i < fs.length
   ·obtain ⟨x, hx⟩ : ∃ x, fs[i]? = some x := ⟨_, List.getElem?_eq_getElem hi⟩
    have hx2 := Rv hx
    have hi' : (i : Int) < fs.length := by omega
    rw [drop_at hx, LQ] at hE
    have hm := Lf x.1
    have hk3 := LE x.1
    have hj : x.1 = LI ↔ x.1 = [106, 115, 111, 110] := Iff.rfl
    obtain ⟨a, b⟩ := x
    simp only at hE hm hk3 hj
    generalize Ko a = c at *
    rcases hk3 with rfl | rfl | rfl
    ·simp only [if_true] at hE hm
     repeat' (first | (simp -implicitDefEqProofs [Bf, Bh, Bk, Bx, Bn, Bv, Bq, Bu, c68, -getElem?_pos, splice, hm, hx2, hi']) | (simp (disch := omega) only [AJ]) | ((with_reducible refine Cr ?_)) | ((refine Bw ?_ ?_); (focus (intro q hq; simp only [CE]; rw [upd_ne (by omega)]; exact hsup q (by omega))); intro _gm _nm _hgm _hnm) | ((refine Dy _hnm (AY _ _ _) ?_); intro _hn2; subst _hn2) | (with_reducible first | refine A8 ?_ ?_ ?_ | exact AG | refine SameB.upd ?_ ?_ _ | assumption | refine A3 ?_ | refine KM.of ?_ | refine AI ?_ | refine A5 ?_ | refine A7 ?_ | intro _g _hg | refine AK ?_ ?_ | intro _hc) | omega)
     all_goals (refine C1 ?_; rw [hE])
    ·simp only [show ¬ ((1 : Nat) = 0) by decide, show ¬ ((1 : Nat) = 2) by decide, show ¬ ((2 : Nat) = 0) by decide, show ¬ ((2 : Nat) = 1) by decide, if_false, decide_true, decide_false, true_and, false_and, or_false] at hE hm
     by_cases hr : (b < 0 ∨ 200 < b) ∨ b ≠ 0
     ·rw [if_pos hr] at hE
      repeat' (first | (simp -implicitDefEqProofs [Bf, Bh, Bk, Bx, Bn, Bv, Bq, Bu, c68, -getElem?_pos, splice, hm, hx2, hi']) | (simp (disch := omega) only [AJ]) | ((with_reducible refine Cr ?_)) | ((refine Bw ?_ ?_); (focus (intro q hq; simp only [CE]; rw [upd_ne (by omega)]; exact hsup q (by omega))); intro _gm _nm _hgm _hnm) | ((refine Dy _hnm (AY _ _ _) ?_); intro _hn2; subst _hn2) | (with_reducible first | refine A8 ?_ ?_ ?_ | exact AG | refine SameB.upd ?_ ?_ _ | assumption | refine A3 ?_ | refine KM.of ?_ | refine AI ?_ | refine A5 ?_ | refine A7 ?_ | intro _g _hg | refine AK ?_ ?_ | intro _hc) | omega)
      all_goals first | (refine C1 ?_; rw [hE]; done) | (exfalso; omega) | skip
     ·rw [if_neg hr] at hE
      have r1 : ¬ b < 0 := by omega
      have r2 : ¬ 200 < b := by omega
      have r3 : b = 0 := by omega
      by_cases hjn : 0 < i ∧ a = LI
      ·rw [if_pos hjn] at hE
       obtain ⟨j1, j2⟩ := hjn
       have j1' : (0 : Int) < i := by omega
       rw [hj] at j2
       subst j2
       repeat' (first | (simp -implicitDefEqProofs [Bf, Bh, Bk, Bx, Bn, Bv, Bq, Bu, c68, -getElem?_pos, splice, hm, hx2, hi', r1, r2, r3, j1']) | (simp (disch := omega) only [AJ]) | ((with_reducible refine Cr ?_)) | ((refine Bw ?_ ?_); (focus (intro q hq; simp only [CE]; rw [upd_ne (by omega)]; exact hsup q (by omega))); intro _gm _nm _hgm _hnm) | ((refine Dy _hnm (AY _ _ _) ?_); intro _hn2; subst _hn2) | (with_reducible first | refine A8 ?_ ?_ ?_ | exact AG | refine SameB.upd ?_ ?_ _ | assumption | refine A3 ?_ | refine KM.of ?_ | refine AI ?_ | refine A5 ?_ | refine A7 ?_ | intro _g _hg | refine AK ?_ ?_ | intro _hc) | omega)
       all_goals (refine C1 ?_; rw [hE])
      ·rw [if_neg hjn] at hE
       have hjn' : ¬ (0 < (i : Int) ∧ a = [106, 115, 111, 110]) := fun h => hjn ⟨by omega, hj.2 h.2⟩
       by_cases j2 : a = [106, 115, 111, 110]
       ·have j1' : ¬ (0 : Int) < i := fun h => hjn' ⟨h, j2⟩
        subst j2
        repeat' (first | (simp -implicitDefEqProofs [Bf, Bh, Bk, Bx, Bn, Bv, Bq, Bu, c68, -getElem?_pos, splice, hm, hx2, hi', r1, r2, r3, j1']) | (simp (disch := omega) only [AJ]) | ((with_reducible refine Cr ?_)) | ((refine Bw ?_ ?_); (focus (intro q hq; simp only [CE]; rw [upd_ne (by omega)]; exact hsup q (by omega))); intro _gm _nm _hgm _hnm) | ((refine Dy _hnm (AY _ _ _) ?_); intro _hn2; subst _hn2) | (with_reducible first | refine A8 ?_ ?_ ?_ | exact AG | refine SameB.upd ?_ ?_ _ | assumption | refine A3 ?_ | refine KM.of ?_ | refine AI ?_ | refine A5 ?_ | refine A7 ?_ | intro _g _hg | refine AK ?_ ?_ | intro _hc) | omega)
        exact hJ (m - 1) _ (by omega) ⟨i + 1, _, _, by omega, rfl, by omega, ((hS.upd (by omega) _).upd (by omega) _).upd (by omega) _, fun q hq => by rw [upd_ne (by omega), upd_ne (by omega), upd_ne (by omega)]; exact hsup q (by omega), by rw [hE]⟩
       ·repeat' (first | (simp -implicitDefEqProofs [Bf, Bh, Bk, Bx, Bn, Bv, Bq, Bu, c68, -getElem?_pos, splice, hm, hx2, hi', r1, r2, r3, j2]) | (simp (disch := omega) only [AJ]) | ((with_reducible refine Cr ?_)) | ((refine Bw ?_ ?_); (focus (intro q hq; simp only [CE]; rw [upd_ne (by omega)]; exact hsup q (by omega))); intro _gm _nm _hgm _hnm) | ((refine Dy _hnm (AY _ _ _) ?_); intro _hn2; subst _hn2) | (with_reducible first | refine A8 ?_ ?_ ?_ | exact AG | refine SameB.upd ?_ ?_ _ | assumption | refine A3 ?_ | refine KM.of ?_ | refine AI ?_ | refine A5 ?_ | refine A7 ?_ | intro _g _hg | refine AK ?_ ?_ | intro _hc) | omega)
        exact hJ (m - 1) _ (by omega) ⟨i + 1, _, _, by omega, rfl, by omega, ((hS.upd (by omega) _).upd (by omega) _).upd (by omega) _, fun q hq => by rw [upd_ne (by omega), upd_ne (by omega), upd_ne (by omega)]; exact hsup q (by omega), by rw [hE]⟩
    ·simp only [show ¬ ((1 : Nat) = 0) by decide, show ¬ ((1 : Nat) = 2) by decide, show ¬ ((2 : Nat) = 0) by decide, show ¬ ((2 : Nat) = 1) by decide, if_false, decide_true, decide_false, true_and, false_and, or_false] at hE hm
     by_cases hr : b < 0 ∨ 200 < b
     ·rw [if_pos hr] at hE
      repeat' (first | (simp -implicitDefEqProofs [Bf, Bh, Bk, Bx, Bn, Bv, Bq, Bu, c68, -getElem?_pos, splice, hm, hx2, hi']) | (simp (disch := omega) only [AJ]) | ((with_reducible refine Cr ?_)) | ((refine Bw ?_ ?_); (focus (intro q hq; simp only [CE]; rw [upd_ne (by omega)]; exact hsup q (by omega))); intro _gm _nm _hgm _hnm) | ((refine Dy _hnm (AY _ _ _) ?_); intro _hn2; subst _hn2) | (with_reducible first | refine A8 ?_ ?_ ?_ | exact AG | refine SameB.upd ?_ ?_ _ | assumption | refine A3 ?_ | refine KM.of ?_ | refine AI ?_ | refine A5 ?_ | refine A7 ?_ | intro _g _hg | refine AK ?_ ?_ | intro _hc) | omega)
      all_goals first | (refine C1 ?_; rw [hE]; done) | (exfalso; omega) | skip
     ·rw [if_neg hr] at hE
      have r1 : ¬ b < 0 := by omega
      have r2 : ¬ 200 < b := by omega
      by_cases hjn : 0 < i ∧ a = LI
      ·rw [if_pos hjn] at hE
       obtain ⟨j1, j2⟩ := hjn
       have j1' : (0 : Int) < i := by omega
       rw [hj] at j2
       subst j2
       repeat' (first | (simp -implicitDefEqProofs [Bf, Bh, Bk, Bx, Bn, Bv, Bq, Bu, c68, -getElem?_pos, splice, hm, hx2, hi', r1, r2, j1']) | (simp (disch := omega) only [AJ]) | ((with_reducible refine Cr ?_)) | ((refine Bw ?_ ?_); (focus (intro q hq; simp only [CE]; rw [upd_ne (by omega)]; exact hsup q (by omega))); intro _gm _nm _hgm _hnm) | ((refine Dy _hnm (AY _ _ _) ?_); intro _hn2; subst _hn2) | (with_reducible first | refine A8 ?_ ?_ ?_ | exact AG | refine SameB.upd ?_ ?_ _ | assumption | refine A3 ?_ | refine KM.of ?_ | refine AI ?_ | refine A5 ?_ | refine A7 ?_ | intro _g _hg | refine AK ?_ ?_ | intro _hc) | omega)
       all_goals (refine C1 ?_; rw [hE])
      ·rw [if_neg hjn] at hE
       have hjn' : ¬ (0 < (i : Int) ∧ a = [106, 115, 111, 110]) := fun h => hjn ⟨by omega, hj.2 h.2⟩
       by_cases j2 : a = [106, 115, 111, 110]
       ·have j1' : ¬ (0 : Int) < i := fun h => hjn' ⟨h, j2⟩
        subst j2
        repeat' (first | (simp -implicitDefEqProofs [Bf, Bh, Bk, Bx, Bn, Bv, Bq, Bu, c68, -getElem?_pos, splice, hm, hx2, hi', r1, r2, j1']) | (simp (disch := omega) only [AJ]) | ((with_reducible refine Cr ?_)) | ((refine Bw ?_ ?_); (focus (intro q hq; simp only [CE]; rw [upd_ne (by omega)]; exact hsup q (by omega))); intro _gm _nm _hgm _hnm) | ((refine Dy _hnm (AY _ _ _) ?_); intro _hn2; subst _hn2) | (with_reducible first | refine A8 ?_ ?_ ?_ | exact AG | refine SameB.upd ?_ ?_ _ | assumption | refine A3 ?_ | refine KM.of ?_ | refine AI ?_ | refine A5 ?_ | refine A7 ?_ | intro _g _hg | refine AK ?_ ?_ | intro _hc) | omega)
        exact hJ (m - 1) _ (by omega) ⟨i + 1, _, _, by omega, rfl, by omega, ((hS.upd (by omega) _).upd (by omega) _).upd (by omega) _, fun q hq => by rw [upd_ne (by omega), upd_ne (by omega), upd_ne (by omega)]; exact hsup q (by omega), by rw [hE]⟩
       ·repeat' (first | (simp -implicitDefEqProofs [Bf, Bh, Bk, Bx, Bn, Bv, Bq, Bu, c68, -getElem?_pos, splice, hm, hx2, hi', r1, r2, j2]) | (simp (disch := omega) only [AJ]) | ((with_reducible refine Cr ?_)) | ((refine Bw ?_ ?_); (focus (intro q hq; simp only [CE]; rw [upd_ne (by omega)]; exact hsup q (by omega))); intro _gm _nm _hgm _hnm) | ((refine Dy _hnm (AY _ _ _) ?_); intro _hn2; subst _hn2) | (with_reducible first | refine A8 ?_ ?_ ?_ | exact AG | refine SameB.upd ?_ ?_ _ | assumption | refine A3 ?_ | refine KM.of ?_ | refine AI ?_ | refine A5 ?_ | refine A7 ?_ | intro _g _hg | refine AK ?_ ?_ | intro _hc) | omega)
        exact hJ (m - 1) _ (by omega) ⟨i + 1, _, _, by omega, rfl, by omega, ((hS.upd (by omega) _).upd (by omega) _).upd (by omega) _, fun q hq => by rw [upd_ne (by omega), upd_ne (by omega), upd_ne (by omega)]; exact hsup q (by omega), by rw [hE]⟩
   ·have hi0 : i = fs.length := by omega
    subst hi0
    have hi' : ¬ (fs.length : Int) < fs.length := by omega
    rw [List.drop_length] at hE
    rw [hE]
    repeat' (first | (simp -implicitDefEqProofs [Bf, Bh, Bk, Bx, Bn, Bv, Bq, Bu, c68, -getElem?_pos, hi', LQ]) | (simp (disch := omega) only [AJ]) | (with_reducible first | refine A8 ?_ ?_ ?_ | exact AG | refine SameB.upd ?_ ?_ _ | assumption | refine A3 ?_ | refine KM.of ?_ | refine AI ?_ | refine A5 ?_ | refine A7 ?_ | intro _g _hg | refine AK ?_ ?_ | intro _hc) | omega)
    all_goals exact A1 _
 by_cases k4 : k = 4
 ·cases b1
  ·rw [if_pos (.inl ⟨k4, rfl⟩)]
   repeat' (first | (simp -implicitDefEqProofs [c68, -getElem?_pos, k4]) | (simp (disch := omega) only [AJ]) | ((with_reducible refine AP 107 ?_); (refine' CallP.sf ?_ (h1) ?_); (focus first | (with_reducible exact A0 _) | (simp [AC, AA, A1, A0]; done))) | ((with_reducible refine AP 108 ?_); (refine' CallP.sf ?_ (h2) ?_); (focus first | (with_reducible exact A0 _) | (simp [AC, AA, A1, A0]; done))) | (with_reducible first | refine A8 ?_ ?_ ?_ | exact AG | refine SameB.upd ?_ ?_ _ | assumption | refine A3 ?_ | refine KM.of ?_ | refine AI ?_ | refine A5 ?_ | refine A7 ?_ | intro _g _hg | refine AK ?_ ?_ | intro _hc) | omega)
   all_goals exact A1 _
  ·have k1 : k ≠ 1 := by omega
   cases b2
   ·rw [if_pos (.inr ⟨k1, rfl⟩)]
    repeat' (first | (simp -implicitDefEqProofs [c68, -getElem?_pos, k4]) | (simp (disch := omega) only [AJ]) | ((with_reducible refine AP 107 ?_); (refine' CallP.sf ?_ (h1) ?_); (focus first | (with_reducible exact A0 _) | (simp [AC, AA, A1, A0]; done))) | ((with_reducible refine AP 108 ?_); (refine' CallP.sf ?_ (h2) ?_); (focus first | (with_reducible exact A0 _) | (simp [AC, AA, A1, A0]; done))) | (with_reducible first | refine A8 ?_ ?_ ?_ | exact AG | refine SameB.upd ?_ ?_ _ | assumption | refine A3 ?_ | refine KM.of ?_ | refine AI ?_ | refine A5 ?_ | refine A7 ?_ | intro _g _hg | refine AK ?_ ?_ | intro _hc) | omega)
    all_goals exact A1 _
   ·rw [if_neg (by simp)]
    repeat' (first | (simp -implicitDefEqProofs [c68, -getElem?_pos, k4]) | (simp (disch := omega) only [AJ]) | ((with_reducible refine AP 107 ?_); (refine' CallP.sf ?_ (h1) ?_); (focus first | (with_reducible exact A0 _) | (simp [AC, AA, A1, A0]; done))) | ((with_reducible refine AP 108 ?_); (refine' CallP.sf ?_ (h2) ?_); (focus first | (with_reducible exact A0 _) | (simp [AC, AA, A1, A0]; done))) | (with_reducible first | refine A8 ?_ ?_ ?_ | exact AG | refine SameB.upd ?_ ?_ _ | assumption | refine A3 ?_ | refine KM.of ?_ | refine AI ?_ | refine A5 ?_ | refine A7 ?_ | intro _g _hg | refine AK ?_ ?_ | intro _hc) | omega)
    all_goals (subst k4; exact fin _ _ (by assumption) rfl)
 ·by_cases k1 : k = 1
  ·rw [if_neg (by simp [k4, k1])]
   repeat' (first | (simp -implicitDefEqProofs [c68, -getElem?_pos, k1]) | (simp (disch := omega) only [AJ]) | ((with_reducible refine AP 107 ?_); (refine' CallP.sf ?_ (h1) ?_); (focus first | (with_reducible exact A0 _) | (simp [AC, AA, A1, A0]; done))) | ((with_reducible refine AP 108 ?_); (refine' CallP.sf ?_ (h2) ?_); (focus first | (with_reducible exact A0 _) | (simp [AC, AA, A1, A0]; done))) | (with_reducible first | refine A8 ?_ ?_ ?_ | exact AG | refine SameB.upd ?_ ?_ _ | assumption | refine A3 ?_ | refine KM.of ?_ | refine AI ?_ | refine A5 ?_ | refine A7 ?_ | intro _g _hg | refine AK ?_ ?_ | intro _hc) | omega)
   all_goals (subst k1; exact fin _ _ (by assumption) rfl)
  ·cases b2
   ·rw [if_pos (.inr ⟨k1, rfl⟩)]
    repeat' (first | (simp -implicitDefEqProofs [c68, -getElem?_pos, k4, k1]) | (simp (disch := omega) only [AJ]) | ((with_reducible refine AP 107 ?_); (refine' CallP.sf ?_ (h1) ?_); (focus first | (with_reducible exact A0 _) | (simp [AC, AA, A1, A0]; done))) | ((with_reducible refine AP 108 ?_); (refine' CallP.sf ?_ (h2) ?_); (focus first | (with_reducible exact A0 _) | (simp [AC, AA, A1, A0]; done))) | (with_reducible first | refine A8 ?_ ?_ ?_ | exact AG | refine SameB.upd ?_ ?_ _ | assumption | refine A3 ?_ | refine KM.of ?_ | refine AI ?_ | refine A5 ?_ | refine A7 ?_ | intro _g _hg | refine AK ?_ ?_ | intro _hc) | omega)
    all_goals exact A1 _
   ·rw [if_neg (by simp [k4])]
    repeat' (first | (simp -implicitDefEqProofs [c68, -getElem?_pos, k4, k1]) | (simp (disch := omega) only [AJ]) | ((with_reducible refine AP 107 ?_); (refine' CallP.sf ?_ (h1) ?_); (focus first | (with_reducible exact A0 _) | (simp [AC, AA, A1, A0]; done))) | ((with_reducible refine AP 108 ?_); (refine' CallP.sf ?_ (h2) ?_); (focus first | (with_reducible exact A0 _) | (simp [AC, AA, A1, A0]; done))) | (with_reducible first | refine A8 ?_ ?_ ?_ | exact AG | refine SameB.upd ?_ ?_ _ | assumption | refine A3 ?_ | refine KM.of ?_ | refine AI ?_ | refine A5 ?_ | refine A7 ?_ | intro _g _hg | refine AK ?_ ?_ | intro _hc) | omega)
    all_goals exact fin _ _ (by assumption) rfl
theorem Gz {P : Program} {f : Nat} {args : List AV} {n : Nat} {H : A2} {R R' : DL} (h : ACalls P f args n H R) (k : ∀ r n' H', R r n' H' → R' r n' H') : ACalls P f args n H R' := fun hs w0 G w vs hl hr hv => (h hs w0 G w vs hl hr hv).mono fun e w' ⟨v, r, G', n', H', e1, e2, e3⟩ => ⟨v, r, G', n', H', e1, k _ _ _ e2, e3⟩
def Bs (n0 : Nat) (H0 : A2) (g : Nat) (b : AF) (bs : List (Nat × AObj)) (n : Nat) (H : A2) : Prop :=
 ∃ a0 xb, Owns n0 H0 ((g, Zg a0 xb) :: bs) [WP xb b] n H ∧ (a0 = .np ∨ a0 = .ptr g 0) ∧ (∀ x ∈ bs, x.1 ≠ g) ∧ (b = [] → ∃ z, xb = .sl z [] .nil)
def Ge (n : Nat) (H : A2) : List (Nat × AObj) → Prop
 | [] => True
 | (g, ob) :: r => (H g = some ob ∧ g < n) ∧ Ge n H r
section
variable {n0 g n : Nat} {H0 H : A2} {b : AF} {bs : List (Nat × AObj)}
theorem Bs.le (h : Bs n0 H0 g b bs n H) : n0 ≤ n := by obtain ⟨_, _, h, _⟩ := h; exact h.le
theorem Bs.same (h : Bs n0 H0 g b bs n H) : SameB n0 H0 H := by obtain ⟨_, _, h, _⟩ := h; exact h.same
theorem Bs.sup (h : Bs n0 H0 g b bs n H) : ∀ q, n ≤ q → H q = none := by obtain ⟨_, _, h, _⟩ := h; exact h.mem.sup
theorem Bs.at_ (h : Bs n0 H0 g b bs n H) {g5 : Nat} {ob : AObj} (hm : (g5, ob) ∈ bs) : H g5 = some ob ∧ g5 < n := by
 obtain ⟨_, _, h, _⟩ := h
 have h1 := (h.box _ (List.mem_cons_of_mem _ hm)).1
 exact ⟨h1, h.mem.lt h1⟩
theorem Bs.facts (h : Bs n0 H0 g b bs n H) : Ge n H bs := by
 have key : ∀ l : List (Nat × AObj), (∀ x ∈ l, x ∈ bs) → Ge n H l := by
  intro l
  induction l with
  | nil => intro _; trivial
  | cons x r ih =>
   intro hl
   obtain ⟨g5, ob⟩ := x
   have hx : (g5, ob) ∈ bs := hl _ List.mem_cons_self
   exact ⟨Bs.at_ h hx, ih fun y hy => hl y (List.mem_cons_of_mem _ hy)⟩
 exact key bs fun _ h => h
theorem Bs.lt (h : Bs n0 H0 g b bs n H) : g < n ∧ n0 ≤ g := by
 obtain ⟨_, _, h, _⟩ := h
 obtain ⟨h1, h2, _⟩ := h.box _ List.mem_cons_self
 exact ⟨h.mem.lt h1, h2⟩
theorem Bs.less {bs' : List (Nat × AObj)} (h : Bs n0 H0 g b bs n H) (hs : ∀ x ∈ bs', x ∈ bs) : Bs n0 H0 g b bs' n H := by
 obtain ⟨a0, xb, h, h1, h2, h3⟩ := h
 refine ⟨a0, xb, ⟨h.mem, fun x hx => ?_, h.row, h.apart⟩, h1, fun x hx => h2 x (hs x hx), h3⟩
 rcases List.mem_cons.1 hx with rfl | hx
 ·exact h.box _ List.mem_cons_self
 ·exact h.box _ (List.mem_cons_of_mem _ (hs _ hx))
theorem Bs.add (h : Bs n0 H0 g b bs n H) {g5 : Nat} (hg : n ≤ g5) (ob : AObj) (hr : ∀ e m, ob ≠ .row e m) : Bs n0 H0 g b ((g5, ob) :: bs) (g5 + 1) (upd H g5 (some ob)) := by
 have hl := h.lt
 obtain ⟨a0, xb, h, h1, h2, h3⟩ := h
 have h' := h.addOb hg ob hr
 refine ⟨a0, xb, ⟨h'.mem, fun x hx => ?_, h'.row, h'.apart⟩, h1, fun x hx => ?_, h3⟩
 ·refine h'.box x ?_
  simp only [List.mem_cons] at hx ⊢
  rcases hx with h | h | h
  ·exact .inr (.inl h)
  ·exact .inl h
  ·exact .inr (.inr h)
 ·rcases List.mem_cons.1 hx with rfl | hx
  ·simp only; omega
  ·exact h2 x hx
theorem Bs.add2 (h : Bs n0 H0 g b bs n H) {g5 : Nat} (hg : n ≤ g5) (ob0 : Option AObj) (e : TypeId) (cs : List AV) : Bs n0 H0 g b ((g5, .cells e cs) :: bs) (g5 + 1) (upd (upd H g5 ob0) g5 (some (.cells e cs))) := by
 rw [CE]; exact h.add hg _ (by intro e m h; cases h)
theorem Bs.start (hs : ∀ k, n ≤ k → H k = none) (hg : n ≤ g) : Bs n H g [] [] (g + 1) (upd H g (some (Zg .np (.sl 0 [] .nil)))) :=
 ⟨.np, .sl 0 [] .nil, ((Owns.start hs).addBox hg _ _).addNil _ _ _, .inl rfl, by simp, fun _ => ⟨0, rfl⟩⟩
theorem Bs.write (h : Bs n0 H0 g b bs n H) (c : AF) (hc : c ≠ [] ∨ b ≠ []) (hlen : b.length + c.length ≤ 1000000000000) :
  ACalls Tryz.prog 62 [.ptr g 0, .str c] n H fun _ n' H' => n ≤ n' ∧ Bs n0 H0 g (b ++ c) bs n' H' := by
 obtain ⟨a0, xb, h, h1, h2, h3⟩ := h
 refine Gz (Mw c h h1 h2 hlen) fun r n' H' ⟨_, hle, xb', hO⟩ => ⟨hle, _, xb', hO, .inr rfl, h2, fun e => ?_⟩
 have := List.append_eq_nil_iff.1 e
 rcases hc with hc | hc
 ·exact absurd this.2 hc
 ·exact absurd this.1 hc
theorem Bs.rel {b' : AF} (e : b = b') (h : Bs n0 H0 g b bs n H) : Bs n0 H0 g b' bs n H := e ▸ h
theorem Bs.str (h : Bs n0 H0 g b bs n H) (hlen : b.length ≤ 1000000000) : APureAt Tryz.prog 47 [.ptr g 0] n H (.str b) := by
 obtain ⟨a0, xb, h, h1, h2, h3⟩ := h
 exact Ps h h1 h3 hlen
end
theorem BZ (k : Int) (t n : AF) (pa : List AF) (fs : List (AF × Int)) (b e : List Pt) : E8 (.mk k t n pa fs b e) = .agg [aI k, .str t, .str n, DN pa, Bz fs, .sl 7 (AH b) .ro, .sl 7 (AH e) .ro] := by rw [E8]
theorem VX {l : List Pt} {i : Nat} {x : Pt} (h : l[i]? = some x) : CJ (l.take (i + 1)) = CJ (l.take i) ++ U3 x := by
 rw [List.take_add_one, h, Ou]
 simp [CJ]
theorem VS (l : List Pt) (i : Nat) : (CJ (l.take i)).length ≤ (CJ l).length := by
 conv => rhs; rw [← List.take_append_drop i l, Ou]
 simp
theorem Wl {l : List (AF × Int)} {i : Nat} {x : AF × Int} (h : l[i]? = some x) : (l.take (i + 1)).flatMap Mq = (l.take i).flatMap Mq ++ Mq x := by
 rw [List.take_add_one, h]
 simp
theorem Ue (fs : List (AF × Int)) (hf : ∀ f ∈ fs, f.1.length ≤ 24 ∧ 0 ≤ f.2 ∧ f.2 ≤ 200) (hfl : fs.length ≤ 8) (n : Nat) (H : A2) (g : Nat) (acc : AF) (hacc : acc ≠ []) (hal : acc.length ≤ 950000000) (v9 v10 v11 : AV) (Q : AExit → AS → Prop)
  (n1 : Nat) (H1 : A2) (hB0 : Bs n H g acc [] n1 H1) (hQ : ∀ n2 H2, Bs n H g (acc ++ fs.flatMap Mq) [] n2 H2 → Q (.exit 3) ⟨[(3, .ptr g 0), (9, v9), (10, v10), (11, v11), (40, Bz fs), (41, aI fs.length), (42, aI fs.length), (43, .bool false)], n2, H2⟩) :
  LoopK (fun Q s => aw Tryz.prog c31_L8 Q s) Q ⟨[(3, .ptr g 0), (9, v9), (10, v10), (11, v11), (40, Bz fs), (41, aI fs.length), (42, aI 0)], n1, H1⟩ := by
 
 refine LoopK.go (fun m st => ∃ (j n2 : Nat) (H2 : A2), j + m = fs.length ∧ st = ⟨[(3, .ptr g 0), (9, v9), (10, v10), (11, v11), (40, Bz fs), (41, aI fs.length), (42, aI j)], n2, H2⟩ ∧ Bs n H g (acc ++ (fs.take j).flatMap Mq) [] n2 H2) fs.length ⟨0, _, _, by omega, rfl, by simpa using hB0⟩ ?_
 clear hB0
 rintro m st ⟨j, n2, H2, hjm, rfl, hB⟩ J hJ
 have _hq : True := trivial
 by_cases hj : j < fs.length
 ·obtain ⟨x, hx⟩ : ∃ x, fs[j]? = some x := ⟨_, List.getElem?_eq_getElem hj⟩
  have hx2 := Rv hx
  have hj' : (j : Int) < fs.length := by omega
  have htk := Wl hx
  obtain ⟨f1, f2, f3⟩ := hf x (List.mem_of_getElem? hx)
  have hm := Lf x.1
  have hk3 := LE x.1
  have hln := Hi (fs.take j) fun y hy => hf y (List.mem_of_mem_take hy)
  have hl8 : (fs.take j).length ≤ 8 := by simp; omega
  obtain ⟨a, b⟩ := x
  simp only at f1 f2 f3 hm hk3 htk
  have hi := R7 b (by omega)
  have hil := QB (n := b) (by omega)
  have e0 : Mq (a, b) = 124 :: a ++ if Ko a = 2 then 32 :: Lib.itoa b else [] := rfl
  rw [e0] at htk
  clear e0
  have hfr : ((fs.take j).flatMap Mq).length ≤ 300 := by omega
  generalize (fs.take j).flatMap Mq = fl at *
  generalize Lib.itoa b = ib at *
  generalize Ko a = c at *
  have hcl : (acc ++ fl) ≠ [] := by simp [hacc]
  have hcn : (acc ++ fl).length ≤ 950000300 := by simp; omega
  have e1 : acc ++ (fl ++ (124 :: a ++ if c = 2 then 32 :: ib else [])) = (acc ++ fl) ++ (124 :: a) ++ if c = 2 then 32 :: ib else [] := by simp
  generalize acc ++ fl = ac2 at *
  rcases hk3 with rfl | rfl | rfl
  ·simp only [if_true, show ¬ ((0 : Nat) = 2) by decide, if_false, List.append_nil] at hm htk e1
   repeat' (first | (simp -implicitDefEqProofs [Bi, Bd, Be, Bm, Bj, Bt, Bc, Bo, Bg, BF, BG, BE, BD, c31, -getElem?_pos, splice, hm, hx2, hj', _hq]) | (simp (disch := omega) only [AJ]) | ((with_reducible refine Ad 62 ?_); (refine ⟨_, Bs.write (by assumption) _ ?_ ?_, ?_⟩); (rotate_left 2); (rintro _ _n2 _H2 _hn2 _hs2 ⟨_hle2, _hB⟩); (have _hq := Bs.facts _hB); (dsimp only [Ge] at _hq)) | ((with_reducible refine Ad 62 ?_); (refine ⟨_, Bs.write (by exact Bs.add2 (by assumption) (by assumption) _ _ _) _ ?_ ?_, ?_⟩); (rotate_left 2); (rintro _ _n2 _H2 _hn2 _hs2 ⟨_hle2, _hB⟩); (have _hq := Bs.facts _hB); (dsimp only [Ge] at _hq)) | ((with_reducible refine Ad 62 ?_); (refine ⟨_, Bs.write (by exact Bs.add (by assumption) (by assumption) _ (by intro e m h; cases h)) _ ?_ ?_, ?_⟩); (rotate_left 2); (rintro _ _n2 _H2 _hn2 _hs2 ⟨_hle2, _hB⟩); (have _hq := Bs.facts _hB); (dsimp only [Ge] at _hq)) | ((with_reducible refine Cr ?_)) | ((refine Bw ?_ ?_); (focus exact Bs.sup (by assumption)); intro _gm _nm _hgm _hnm) | ((refine Dy _hnm (AY _ _ _) ?_); intro _hn2; subst _hn2) | ((with_reducible refine AP 65 ?_); (refine' CallP.sf ?_ (hi) ?_); (focus first | (with_reducible exact A0 _) | (simp [AC, AA, A1, A0]; done))) | (with_reducible first | refine A8 ?_ ?_ ?_ | exact AG | assumption | refine A3 ?_ | refine KM.of ?_ | refine AI ?_ | refine A5 ?_ | refine A7 ?_ | intro _g _hg | refine AK ?_ ?_ | intro _hc) | omega)
   all_goals exact hJ (m - 1) _ (by omega) ⟨j + 1, _, _, by omega, rfl, by rw [htk, e1]; exact ((Bs.add (by assumption) (by assumption) _ (by intro e m h; cases h))).less (by simp)⟩
  ·simp only [show ¬ ((1 : Nat) = 0) by decide, show ¬ ((1 : Nat) = 2) by decide, if_false, List.append_nil, decide_false] at hm htk e1
   repeat' (first | (simp -implicitDefEqProofs [Bi, Bd, Be, Bm, Bj, Bt, Bc, Bo, Bg, BF, BG, BE, BD, c31, -getElem?_pos, splice, hm, hx2, hj', _hq]) | (simp (disch := omega) only [AJ]) | ((with_reducible refine Ad 62 ?_); (refine ⟨_, Bs.write (by assumption) _ ?_ ?_, ?_⟩); (rotate_left 2); (rintro _ _n2 _H2 _hn2 _hs2 ⟨_hle2, _hB⟩); (have _hq := Bs.facts _hB); (dsimp only [Ge] at _hq)) | ((with_reducible refine Ad 62 ?_); (refine ⟨_, Bs.write (by exact Bs.add2 (by assumption) (by assumption) _ _ _) _ ?_ ?_, ?_⟩); (rotate_left 2); (rintro _ _n2 _H2 _hn2 _hs2 ⟨_hle2, _hB⟩); (have _hq := Bs.facts _hB); (dsimp only [Ge] at _hq)) | ((with_reducible refine Ad 62 ?_); (refine ⟨_, Bs.write (by exact Bs.add (by assumption) (by assumption) _ (by intro e m h; cases h)) _ ?_ ?_, ?_⟩); (rotate_left 2); (rintro _ _n2 _H2 _hn2 _hs2 ⟨_hle2, _hB⟩); (have _hq := Bs.facts _hB); (dsimp only [Ge] at _hq)) | ((with_reducible refine Cr ?_)) | ((refine Bw ?_ ?_); (focus exact Bs.sup (by assumption)); intro _gm _nm _hgm _hnm) | ((refine Dy _hnm (AY _ _ _) ?_); intro _hn2; subst _hn2) | ((with_reducible refine AP 65 ?_); (refine' CallP.sf ?_ (hi) ?_); (focus first | (with_reducible exact A0 _) | (simp [AC, AA, A1, A0]; done))) | (with_reducible first | refine A8 ?_ ?_ ?_ | exact AG | assumption | refine A3 ?_ | refine KM.of ?_ | refine AI ?_ | refine A5 ?_ | refine A7 ?_ | intro _g _hg | refine AK ?_ ?_ | intro _hc) | omega)
   all_goals exact hJ (m - 1) _ (by omega) ⟨j + 1, _, _, by omega, rfl, by rw [htk, e1]; exact ((Bs.add (by assumption) (by assumption) _ (by intro e m h; cases h))).less (by simp)⟩
  ·simp only [show ¬ ((2 : Nat) = 0) by decide, if_false, if_true, decide_true] at hm htk e1
   repeat' (first | (simp -implicitDefEqProofs [Bi, Bd, Be, Bm, Bj, Bt, Bc, Bo, Bg, BF, BG, BE, BD, c31, -getElem?_pos, splice, hm, hx2, hj', _hq]) | (simp (disch := omega) only [AJ]) | ((with_reducible refine Ad 62 ?_); (refine ⟨_, Bs.write (by assumption) _ ?_ ?_, ?_⟩); (rotate_left 2); (rintro _ _n2 _H2 _hn2 _hs2 ⟨_hle2, _hB⟩); (have _hq := Bs.facts _hB); (dsimp only [Ge] at _hq)) | ((with_reducible refine Ad 62 ?_); (refine ⟨_, Bs.write (by exact Bs.add2 (by assumption) (by assumption) _ _ _) _ ?_ ?_, ?_⟩); (rotate_left 2); (rintro _ _n2 _H2 _hn2 _hs2 ⟨_hle2, _hB⟩); (have _hq := Bs.facts _hB); (dsimp only [Ge] at _hq)) | ((with_reducible refine Ad 62 ?_); (refine ⟨_, Bs.write (by exact Bs.add (by assumption) (by assumption) _ (by intro e m h; cases h)) _ ?_ ?_, ?_⟩); (rotate_left 2); (rintro _ _n2 _H2 _hn2 _hs2 ⟨_hle2, _hB⟩); (have _hq := Bs.facts _hB); (dsimp only [Ge] at _hq)) | ((with_reducible refine Cr ?_)) | ((refine Bw ?_ ?_); (focus exact Bs.sup (by assumption)); intro _gm _nm _hgm _hnm) | ((refine Dy _hnm (AY _ _ _) ?_); intro _hn2; subst _hn2) | ((with_reducible refine AP 65 ?_); (refine' CallP.sf ?_ (hi) ?_); (focus first | (with_reducible exact A0 _) | (simp [AC, AA, A1, A0]; done))) | (with_reducible first | refine A8 ?_ ?_ ?_ | exact AG | assumption | refine A3 ?_ | refine KM.of ?_ | refine AI ?_ | refine A5 ?_ | refine A7 ?_ | intro _g _hg | refine AK ?_ ?_ | intro _hc) | omega)
   all_goals exact hJ (m - 1) _ (by omega) ⟨j + 1, _, _, by omega, rfl, by rw [htk, e1]; exact Bs.less (by assumption) (by simp)⟩
 ·have hj0 : j = fs.length := by omega
  subst hj0
  have hj' : ¬ (fs.length : Int) < fs.length := by omega
  rw [List.take_length] at hB
  repeat' (first | (simp -implicitDefEqProofs [Bi, Bd, Be, Bm, Bj, Bt, Bc, Bo, Bg, BF, BG, BE, BD, c31, -getElem?_pos, hj']) | (simp (disch := omega) only [AJ]) | (with_reducible first | refine A8 ?_ ?_ ?_ | exact AG | assumption | refine A3 ?_ | refine KM.of ?_ | refine AI ?_ | refine A5 ?_ | refine A7 ?_ | intro _g _hg | refine AK ?_ ?_ | intro _hc) | omega)
  exact hQ _ _ hB
structure PtC (x : Pt) (k : Int) (t nm : AF) (pa : List AF) (fs : List (AF × Int)) (eb ee : List AV) : Prop where
 q1 : t.length ≤ 1048576
 q2 : k = 1 → t ≠ []
 q3 : nm.length ≤ 24
 q4 : pa.length ≤ 8
 q5 : ∀ s ∈ pa, s.length ≤ 24
 q6 : fs.length ≤ 8
 q7 : ∀ f ∈ fs, f.1.length ≤ 24 ∧ 0 ≤ f.2 ∧ f.2 ≤ 200
 tb : APure Tryz.prog 31 [.sl 7 eb .ro] (.str (CJ x.b))
 te : APure Tryz.prog 31 [.sl 7 ee .ro] (.str (CJ x.e))
 le : ee.length = x.e.length
 lb : (CJ x.b).length ≤ 900000000
 le2 : (CJ x.e).length ≤ 900000000
theorem YZ (l : List Pt) (hl : l.length ≤ 2000000) (hlen : (CJ l).length ≤ 900000000) (hp : ∀ x ∈ l, ∃ k t nm pa fs eb ee b e, x = .mk k t nm pa fs b e ∧ E8 x = .agg [aI k, .str t, .str nm, DN pa, Bz fs, .sl 7 eb .ro, .sl 7 ee .ro] ∧ PtC x k t nm pa fs eb ee) : APure Tryz.prog 31 [E1 l] (.str (CJ l)) := by
 have hel := C7 l
 obtain ⟨z, hz⟩ : ∃ z, CJ l = z := ⟨_, rfl⟩
 rw [hz]
 refine AM Tryz.func31 Zm rfl fun n H hH => ?_
 repeat' (first | (simp -implicitDefEqProofs [c31, -getElem?_pos, hel]) | (simp (disch := omega) only [AJ]) | (with_reducible first | refine A8 ?_ ?_ ?_ | exact AG | assumption | refine A3 ?_ | refine KM.of ?_ | refine AI ?_ | refine A5 ?_ | refine A7 ?_ | intro _g _hg | refine AK ?_ ?_ | intro _hc) | omega)
 refine LoopK.go (fun m st => ∃ (i n2 : Nat) (H2 : A2), i + m = l.length ∧ st = ⟨[(3, .ptr _g 0), (9, E1 l), (10, aI l.length), (11, aI i)], n2, H2⟩ ∧ Bs n H _g (CJ (l.take i)) [] n2 H2) l.length ⟨0, _, _, by omega, rfl, Bs.start hH (by assumption)⟩ ?_
 rintro m st ⟨i, n2, H2, him, rfl, hB⟩ J hJ
 have _hq : True := trivial
 by_cases hi : i < l.length
 ·obtain ⟨x, hx⟩ : ∃ x, l[i]? = some x := ⟨_, List.getElem?_eq_getElem hi⟩
  have hx2 := GD hx
  have hi' : (i : Int) < l.length := by omega
  have htk := VX hx
  have hle1 := VS l i
  have hle2 := VS l (i + 1)
  rw [htk] at hle2
  obtain ⟨k, t, nm, pa, fs, eb, ee, b, e, rfl, hxe, C⟩ := hp x (List.mem_of_getElem? hx)
  rw [hxe] at hx2
  obtain ⟨q1, q2, q3, q4, q5, q6, q7, tb, te, le, lb, le2⟩ := C
  have e0 : U3 (.mk k t nm pa fs b e) = if k = 1 then DJ t else if k = 2 then opS ++ I3 pa ++ fs.flatMap Mq ++ clS else (if k = 3 then XO ++ I3 pa ++ clS else KX ++ nm ++ Sl ++ I3 pa ++ clS) ++ CJ b ++ (if e = [] then [] else FE ++ CJ e) ++ FX := by rw [U3]
  rw [e0] at htk hle2
  have hj := SA pa [46] (by omega) (by have := Ru q4 q5; unfold I3 at this; omega)
  have hwl := Ru q4 q5
  have hrl := Hw t
  change APure _ _ [DN pa, .str [46]] (.str (I3 pa)) at hj
  change APure _ _ _ (.str (CJ b)) at tb
  change APure _ _ _ (.str (CJ e)) at te
  change ee.length = e.length at le
  change (CJ b).length ≤ _ at lb
  change (CJ e).length ≤ _ at le2
  clear e0 hxe hx hp
  generalize CJ (l.take i) = ac at *
  generalize I3 pa = wh at *
  generalize CJ b = xb at *
  generalize CJ e = xe at *
  have hac : ac.length ≤ 900000000 := by omega
  clear hle1
  by_cases k1 : k = 1
  ·have hrp := XU t (by omega)
   have hrn := W1 t (q2 k1)
   unfold opS MZ at hrp
   rw [if_pos k1] at htk hle2
   generalize DJ t = rt at *
   subst k1
   
   repeat' (first | (simp -implicitDefEqProofs [Bi, Bd, Be, Bm, Bj, Bt, Bc, Bo, Bg, BF, BG, BE, BD, c31, -getElem?_pos, splice, hel, hx2, hi', _hq, hrn]) | (simp (disch := omega) only [AJ]) | ((with_reducible refine Ad 62 ?_); (refine ⟨_, Bs.write (by assumption) _ ?_ ?_, ?_⟩); (rotate_left 2); (rintro _ _n2 _H2 _hn2 _hs2 ⟨_hle2, _hB⟩); (have _hq := Bs.facts _hB); (dsimp only [Ge] at _hq)) | ((with_reducible refine Ad 62 ?_); (refine ⟨_, Bs.write (by exact Bs.add2 (by assumption) (by assumption) _ _ _) _ ?_ ?_, ?_⟩); (rotate_left 2); (rintro _ _n2 _H2 _hn2 _hs2 ⟨_hle2, _hB⟩); (have _hq := Bs.facts _hB); (dsimp only [Ge] at _hq)) | ((with_reducible refine Ad 62 ?_); (refine ⟨_, Bs.write (by exact Bs.add (by assumption) (by assumption) _ (by intro e m h; cases h)) _ ?_ ?_, ?_⟩); (rotate_left 2); (rintro _ _n2 _H2 _hn2 _hs2 ⟨_hle2, _hB⟩); (have _hq := Bs.facts _hB); (dsimp only [Ge] at _hq)) | ((with_reducible refine AP 52 ?_); (refine' CallP.sf ?_ (hj) ?_); (focus first | (with_reducible exact A0 _) | (simp [AC, AA, A1, A0]; done))) | ((with_reducible refine AP 63 ?_); (refine' CallP.sf ?_ (hrp) ?_); (focus first | (with_reducible exact A0 _) | (simp [AC, AA, A1, A0]; done))) | (with_reducible first | refine A8 ?_ ?_ ?_ | exact AG | assumption | refine A3 ?_ | refine KM.of ?_ | refine AI ?_ | refine A5 ?_ | refine A7 ?_ | intro _g _hg | refine AK ?_ ?_ | intro _hc) | omega)
   all_goals exact hJ (m - 1) _ (by omega) ⟨i + 1, _, _, by omega, rfl, by rw [htk]; exact Bs.less (by assumption) (by simp)⟩
  ·rw [if_neg k1] at htk hle2
   by_cases k2 : k = 2
   ·rw [if_pos k2] at htk hle2
    have hfl := Hi fs q7
    have hfl2 : fs.length * 30 ≤ 240 := by omega
    subst k2
    
    repeat' (first | (simp -implicitDefEqProofs [Bi, Bd, Be, Bm, Bj, Bt, Bc, Bo, Bg, BF, BG, BE, BD, c31, -getElem?_pos, splice, hel, hx2, hi', _hq]) | (simp (disch := omega) only [AJ]) | ((with_reducible refine Ad 62 ?_); (refine ⟨_, Bs.write (by assumption) _ ?_ ?_, ?_⟩); (rotate_left 2); (rintro _ _n2 _H2 _hn2 _hs2 ⟨_hle2, _hB⟩); (have _hq := Bs.facts _hB); (dsimp only [Ge] at _hq)) | ((with_reducible refine Ad 62 ?_); (refine ⟨_, Bs.write (by exact Bs.add2 (by assumption) (by assumption) _ _ _) _ ?_ ?_, ?_⟩); (rotate_left 2); (rintro _ _n2 _H2 _hn2 _hs2 ⟨_hle2, _hB⟩); (have _hq := Bs.facts _hB); (dsimp only [Ge] at _hq)) | ((with_reducible refine Ad 62 ?_); (refine ⟨_, Bs.write (by exact Bs.add (by assumption) (by assumption) _ (by intro e m h; cases h)) _ ?_ ?_, ?_⟩); (rotate_left 2); (rintro _ _n2 _H2 _hn2 _hs2 ⟨_hle2, _hB⟩); (have _hq := Bs.facts _hB); (dsimp only [Ge] at _hq)) | ((with_reducible refine AP 52 ?_); (refine' CallP.sf ?_ (hj) ?_); (focus first | (with_reducible exact A0 _) | (simp [AC, AA, A1, A0]; done))) | (with_reducible first | refine A8 ?_ ?_ ?_ | exact AG | assumption | refine A3 ?_ | refine KM.of ?_ | refine AI ?_ | refine A5 ?_ | refine A7 ?_ | intro _g _hg | refine AK ?_ ?_ | intro _hc) | omega)
    have hB4 := _hB.less (bs' := []) (by simp)
    refine Ue fs q7 q6 n H _ _ ?_ ?_ _ _ _ _ _ _ hB4 fun n3 H3 hB3 => ?_
    ·simp
    ·simp; omega
    have _hq : True := trivial
    have hfl3 : (fs.flatMap Mq).length ≤ 240 := by omega
    generalize fs.flatMap Mq = ft at *
    repeat' (first | (simp -implicitDefEqProofs [Bi, Bd, Be, Bm, Bj, Bt, Bc, Bo, Bg, BF, BG, BE, BD, c31, -getElem?_pos, _hq]) | (simp (disch := omega) only [AJ]) | ((with_reducible refine Ad 62 ?_); (refine ⟨_, Bs.write (by assumption) _ ?_ ?_, ?_⟩); (rotate_left 2); (rintro _ _n2 _H2 _hn2 _hs2 ⟨_hle2, _hB⟩); (have _hq := Bs.facts _hB); (dsimp only [Ge] at _hq)) | ((with_reducible refine Ad 62 ?_); (refine ⟨_, Bs.write (by exact Bs.add2 (by assumption) (by assumption) _ _ _) _ ?_ ?_, ?_⟩); (rotate_left 2); (rintro _ _n2 _H2 _hn2 _hs2 ⟨_hle2, _hB⟩); (have _hq := Bs.facts _hB); (dsimp only [Ge] at _hq)) | ((with_reducible refine Ad 62 ?_); (refine ⟨_, Bs.write (by exact Bs.add (by assumption) (by assumption) _ (by intro e m h; cases h)) _ ?_ ?_, ?_⟩); (rotate_left 2); (rintro _ _n2 _H2 _hn2 _hs2 ⟨_hle2, _hB⟩); (have _hq := Bs.facts _hB); (dsimp only [Ge] at _hq)) | (with_reducible first | refine A8 ?_ ?_ ?_ | exact AG | assumption | refine A3 ?_ | refine KM.of ?_ | refine AI ?_ | refine A5 ?_ | refine A7 ?_ | intro _g _hg | refine AK ?_ ?_ | intro _hc) | omega)
    all_goals exact hJ (m - 1) _ (by omega) ⟨i + 1, _, _, by omega, rfl, by rw [htk]; refine Bs.rel ?_ (Bs.less (by assumption) (by simp)); simp [opS, clS]⟩
   ·rw [if_neg k2] at htk hle2
    by_cases he0 : e = []
    ·have hee : ee = [] := by
      rw [he0] at le; exact List.length_eq_zero_iff.1 le
     rw [if_pos he0] at htk hle2
     subst hee
     by_cases k3 : k = 3
     ·rw [if_pos k3] at htk hle2
      subst k3
      
      repeat' (first | (simp -implicitDefEqProofs [Bi, Bd, Be, Bm, Bj, Bt, Bc, Bo, Bg, BF, BG, BE, BD, c31, -getElem?_pos, splice, hel, hx2, hi', _hq]) | (simp (disch := omega) only [AJ]) | ((with_reducible refine Ad 62 ?_); (refine ⟨_, Bs.write (by assumption) _ ?_ ?_, ?_⟩); (rotate_left 2); (rintro _ _n2 _H2 _hn2 _hs2 ⟨_hle2, _hB⟩); (have _hq := Bs.facts _hB); (dsimp only [Ge] at _hq)) | ((with_reducible refine Ad 62 ?_); (refine ⟨_, Bs.write (by exact Bs.add2 (by assumption) (by assumption) _ _ _) _ ?_ ?_, ?_⟩); (rotate_left 2); (rintro _ _n2 _H2 _hn2 _hs2 ⟨_hle2, _hB⟩); (have _hq := Bs.facts _hB); (dsimp only [Ge] at _hq)) | ((with_reducible refine Ad 62 ?_); (refine ⟨_, Bs.write (by exact Bs.add (by assumption) (by assumption) _ (by intro e m h; cases h)) _ ?_ ?_, ?_⟩); (rotate_left 2); (rintro _ _n2 _H2 _hn2 _hs2 ⟨_hle2, _hB⟩); (have _hq := Bs.facts _hB); (dsimp only [Ge] at _hq)) | ((with_reducible refine AP 52 ?_); (refine' CallP.sf ?_ (hj) ?_); (focus first | (with_reducible exact A0 _) | (simp [AC, AA, A1, A0]; done))) | ((with_reducible refine AP 31 ?_); (refine' CallP.sf ?_ (tb) ?_); (focus first | (with_reducible exact A0 _) | (simp [AC, AA, A1, A0]; done))) | (with_reducible first | refine A8 ?_ ?_ ?_ | exact AG | assumption | refine A3 ?_ | refine KM.of ?_ | refine AI ?_ | refine A5 ?_ | refine A7 ?_ | intro _g _hg | refine AK ?_ ?_ | intro _hc) | omega)
      all_goals exact hJ (m - 1) _ (by omega) ⟨i + 1, _, _, by omega, rfl, by rw [htk]; refine Bs.rel ?_ (Bs.less (by assumption) (by simp)); simp [XO, clS, FX]⟩
     ·rw [if_neg k3] at htk hle2
      
      repeat' (first | (simp -implicitDefEqProofs [Bi, Bd, Be, Bm, Bj, Bt, Bc, Bo, Bg, BF, BG, BE, BD, c31, -getElem?_pos, splice, hel, hx2, hi', _hq, k1, k2, k3]) | (simp (disch := omega) only [AJ]) | ((with_reducible refine Ad 62 ?_); (refine ⟨_, Bs.write (by assumption) _ ?_ ?_, ?_⟩); (rotate_left 2); (rintro _ _n2 _H2 _hn2 _hs2 ⟨_hle2, _hB⟩); (have _hq := Bs.facts _hB); (dsimp only [Ge] at _hq)) | ((with_reducible refine Ad 62 ?_); (refine ⟨_, Bs.write (by exact Bs.add2 (by assumption) (by assumption) _ _ _) _ ?_ ?_, ?_⟩); (rotate_left 2); (rintro _ _n2 _H2 _hn2 _hs2 ⟨_hle2, _hB⟩); (have _hq := Bs.facts _hB); (dsimp only [Ge] at _hq)) | ((with_reducible refine Ad 62 ?_); (refine ⟨_, Bs.write (by exact Bs.add (by assumption) (by assumption) _ (by intro e m h; cases h)) _ ?_ ?_, ?_⟩); (rotate_left 2); (rintro _ _n2 _H2 _hn2 _hs2 ⟨_hle2, _hB⟩); (have _hq := Bs.facts _hB); (dsimp only [Ge] at _hq)) | ((with_reducible refine AP 52 ?_); (refine' CallP.sf ?_ (hj) ?_); (focus first | (with_reducible exact A0 _) | (simp [AC, AA, A1, A0]; done))) | ((with_reducible refine AP 31 ?_); (refine' CallP.sf ?_ (tb) ?_); (focus first | (with_reducible exact A0 _) | (simp [AC, AA, A1, A0]; done))) | (with_reducible first | refine A8 ?_ ?_ ?_ | exact AG | assumption | refine A3 ?_ | refine KM.of ?_ | refine AI ?_ | refine A5 ?_ | refine A7 ?_ | intro _g _hg | refine AK ?_ ?_ | intro _hc) | omega)
      all_goals exact hJ (m - 1) _ (by omega) ⟨i + 1, _, _, by omega, rfl, by rw [htk]; refine Bs.rel ?_ (Bs.less (by assumption) (by simp)); simp [KX, Sl, clS, FX]⟩
    ·have hel2 : (0 : Int) < ee.length := by
      have := List.length_pos_iff.2 he0
      omega
     have hel3 : ¬ ee = [] := by rintro rfl; simp at hel2
     rw [if_neg he0] at htk hle2
     by_cases k3 : k = 3
     ·rw [if_pos k3] at htk hle2
      subst k3
      
      repeat' (first | (simp -implicitDefEqProofs [Bi, Bd, Be, Bm, Bj, Bt, Bc, Bo, Bg, BF, BG, BE, BD, c31, -getElem?_pos, splice, hel, hx2, hi', _hq, hel2, hel3]) | (simp (disch := omega) only [AJ]) | ((with_reducible refine Ad 62 ?_); (refine ⟨_, Bs.write (by assumption) _ ?_ ?_, ?_⟩); (rotate_left 2); (rintro _ _n2 _H2 _hn2 _hs2 ⟨_hle2, _hB⟩); (have _hq := Bs.facts _hB); (dsimp only [Ge] at _hq)) | ((with_reducible refine Ad 62 ?_); (refine ⟨_, Bs.write (by exact Bs.add2 (by assumption) (by assumption) _ _ _) _ ?_ ?_, ?_⟩); (rotate_left 2); (rintro _ _n2 _H2 _hn2 _hs2 ⟨_hle2, _hB⟩); (have _hq := Bs.facts _hB); (dsimp only [Ge] at _hq)) | ((with_reducible refine Ad 62 ?_); (refine ⟨_, Bs.write (by exact Bs.add (by assumption) (by assumption) _ (by intro e m h; cases h)) _ ?_ ?_, ?_⟩); (rotate_left 2); (rintro _ _n2 _H2 _hn2 _hs2 ⟨_hle2, _hB⟩); (have _hq := Bs.facts _hB); (dsimp only [Ge] at _hq)) | ((with_reducible refine AP 52 ?_); (refine' CallP.sf ?_ (hj) ?_); (focus first | (with_reducible exact A0 _) | (simp [AC, AA, A1, A0]; done))) | ((with_reducible refine AP 31 ?_); (refine' CallP.sf ?_ (tb) ?_); (focus first | (with_reducible exact A0 _) | (simp [AC, AA, A1, A0]; done))) | ((with_reducible refine AP 31 ?_); (refine' CallP.sf ?_ (te) ?_); (focus first | (with_reducible exact A0 _) | (simp [AC, AA, A1, A0]; done))) | (with_reducible first | refine A8 ?_ ?_ ?_ | exact AG | assumption | refine A3 ?_ | refine KM.of ?_ | refine AI ?_ | refine A5 ?_ | refine A7 ?_ | intro _g _hg | refine AK ?_ ?_ | intro _hc) | omega)
      all_goals exact hJ (m - 1) _ (by omega) ⟨i + 1, _, _, by omega, rfl, by rw [htk]; refine Bs.rel ?_ (Bs.less (by assumption) (by simp)); simp [XO, clS, FX, FE]⟩
     ·rw [if_neg k3] at htk hle2
      
      repeat' (first | (simp -implicitDefEqProofs [Bi, Bd, Be, Bm, Bj, Bt, Bc, Bo, Bg, BF, BG, BE, BD, c31, -getElem?_pos, splice, hel, hx2, hi', _hq, k1, k2, k3, hel2, hel3]) | (simp (disch := omega) only [AJ]) | ((with_reducible refine Ad 62 ?_); (refine ⟨_, Bs.write (by assumption) _ ?_ ?_, ?_⟩); (rotate_left 2); (rintro _ _n2 _H2 _hn2 _hs2 ⟨_hle2, _hB⟩); (have _hq := Bs.facts _hB); (dsimp only [Ge] at _hq)) | ((with_reducible refine Ad 62 ?_); (refine ⟨_, Bs.write (by exact Bs.add2 (by assumption) (by assumption) _ _ _) _ ?_ ?_, ?_⟩); (rotate_left 2); (rintro _ _n2 _H2 _hn2 _hs2 ⟨_hle2, _hB⟩); (have _hq := Bs.facts _hB); (dsimp only [Ge] at _hq)) | ((with_reducible refine Ad 62 ?_); (refine ⟨_, Bs.write (by exact Bs.add (by assumption) (by assumption) _ (by intro e m h; cases h)) _ ?_ ?_, ?_⟩); (rotate_left 2); (rintro _ _n2 _H2 _hn2 _hs2 ⟨_hle2, _hB⟩); (have _hq := Bs.facts _hB); (dsimp only [Ge] at _hq)) | ((with_reducible refine AP 52 ?_); (refine' CallP.sf ?_ (hj) ?_); (focus first | (with_reducible exact A0 _) | (simp [AC, AA, A1, A0]; done))) | ((with_reducible refine AP 31 ?_); (refine' CallP.sf ?_ (tb) ?_); (focus first | (with_reducible exact A0 _) | (simp [AC, AA, A1, A0]; done))) | ((with_reducible refine AP 31 ?_); (refine' CallP.sf ?_ (te) ?_); (focus first | (with_reducible exact A0 _) | (simp [AC, AA, A1, A0]; done))) | (with_reducible first | refine A8 ?_ ?_ ?_ | exact AG | assumption | refine A3 ?_ | refine KM.of ?_ | refine AI ?_ | refine A5 ?_ | refine A7 ?_ | intro _g _hg | refine AK ?_ ?_ | intro _hc) | omega)
      all_goals exact hJ (m - 1) _ (by omega) ⟨i + 1, _, _, by omega, rfl, by rw [htk]; refine Bs.rel ?_ (Bs.less (by assumption) (by simp)); simp [KX, Sl, clS, FX, FE]⟩
 ·have hi0 : i = l.length := by omega
  subst hi0
  have hi' : ¬ (l.length : Int) < l.length := by omega
  rw [List.take_length, hz] at hB
  have hstr := hB.str (by rw [← hz]; omega)
  have hsame := hB.same
  have hle := hB.le
  clear hp
  repeat' (first | (simp -implicitDefEqProofs [Bi, Bd, Be, Bm, Bj, Bt, Bc, Bo, Bg, BF, BG, BE, BD, c31, -getElem?_pos, hel, hi']) | (simp (disch := omega) only [AJ]) | ((with_reducible refine Ad 47 ?_); (refine' CallK.sfAt ?_ (hstr) ?_); (focus first | (with_reducible exact A0 _) | (simp [AC, AA, A1, A0]; done))) | (with_reducible first | refine A8 ?_ ?_ ?_ | exact AG | assumption | refine A3 ?_ | refine KM.of ?_ | refine AI ?_ | refine A5 ?_ | refine A7 ?_ | intro _g _hg | refine AK ?_ ?_ | intro _hc) | omega)
  all_goals first | exact A1 _ | exact hle | exact hsame
theorem GQ : ∀ {l : List Pt} {x : Pt}, x ∈ l → CH x ≤ Ab l
 | y :: r, x, hx => by
  simp only [Ab]
  rcases List.mem_cons.1 hx with rfl | hx
  ·omega
  ·have := GQ hx; omega
theorem FM : ∀ l : List Pt, l.length ≤ Ab l
 | [] => by simp [Ab]
 | x :: r => by
  have := FM r
  have : 1 ≤ CH x := by cases x; unfold CH; omega
  simp only [Ab, List.length_cons]; omega
theorem PL {l : List Pt} (ho : Ic l) (hs : Ab l ≤ 200) (hp : ∀ x ∈ l, RL x → CH x ≤ 201 → APure Tryz.prog 31 [.sl 7 (AH x.b) .ro] (.str (CJ x.b)) ∧ APure Tryz.prog 31 [.sl 7 (AH x.e) .ro] (.str (CJ x.e))) : APure Tryz.prog 31 [E1 l] (.str (CJ l)) := by
 have hlen := FM l
 have htl := Hr l ho
 refine YZ l (by omega) (by omega) fun x hx => ?_
 have hox := QI ho hx
 have hsx := GQ hx
 obtain ⟨hb, he⟩ := hp x hx hox (by omega)
 obtain ⟨k, t, nm, pa, fs, b, e⟩ := x
 have ho' := hox
 simp only [RL] at ho'
 obtain ⟨h1, h2, h3, h4, h5, h6, h7, h8, h9⟩ := ho'
 unfold CH at hsx
 have lb := Hr b h8
 have le := Hr e h9
 exact ⟨k, t, nm, pa, fs, AH b, AH e, b, e, rfl, BZ _ _ _ _ _ _ _, h1, h2, h3, h4, h5, h6, h7, hb, he, C7 e, by show (CJ b).length ≤ _; omega, by show (CJ e).length ≤ _; omega⟩
theorem Y4 (p : Pt) : RL p → CH p ≤ 201 → APure Tryz.prog 31 [.sl 7 (AH p.b) .ro] (.str (CJ p.b)) ∧ APure Tryz.prog 31 [.sl 7 (AH p.e) .ro] (.str (CJ p.e)) := by
 refine Pt.ind (Q := fun p => RL p → CH p ≤ 201 → APure Tryz.prog 31 [.sl 7 (AH p.b) .ro] (.str (CJ p.b)) ∧ APure Tryz.prog 31 [.sl 7 (AH p.e) .ro] (.str (CJ p.e))) ?_ p
 intro k t nm pa fs b e hb he ho hs
 simp only [RL] at ho
 obtain ⟨_, _, _, _, _, _, _, ob, oe⟩ := ho
 unfold CH at hs
 exact ⟨PL (l := b) ob (by omega) hb, PL (l := e) oe (by omega) he⟩
theorem RK (l : List Pt) (ho : Ic l) (hs : Ab l ≤ 200) : APure Tryz.prog 31 [E1 l] (.str (CJ l)) := PL ho hs fun x _ hx hs => Y4 x hx hs
def Cn {α : Type} (l : List α) : Bool := decide ((0 : Int) < (l.length : Int))
theorem UZ {α : Type} (l : List α) : decide (l ≠ []) = Cn l := by
 unfold Cn
 cases l with
 | nil => simp
 | cons x r => simp
def S9 (k : Int) (t n : AF) (pf ff : Bool) (bf ef : Bool) : Bool :=
 (decide (k = 1) == decide (t = [])) || (decide (k ≠ 4) && decide (n ≠ [])) || (decide (k = 1) && pf) || (decide (k ≠ 2) && ff) || (decide (k < 3) && (bf || ef))
theorem UO (pv k : Int) (t n : AF) (pa : List AF) (fs : List (AF × Int)) (b e : List Pt) : Qh pv k t n pa fs b e = (S9 k t n (Cn pa) (Cn fs) (Cn b) (Cn e) || (decide (k = 1) && decide (pv = 1))) := by
 have h1 : decide (pa ≠ []) = Cn pa := by rw [← UZ]
 have h2 : decide (fs ≠ []) = Cn fs := by rw [← UZ]
 have h3 : decide (b ≠ []) = Cn b := by unfold Cn; cases b <;> simp <;> omega
 have h4 : decide (e ≠ []) = Cn e := by unfold Cn; cases e <;> simp <;> omega
 unfold Qh S9
 rw [h1, h2, h3, h4]
def RB (i d k : Int) (fb : Bool) : Int := if 200 ≤ i then 2 else if 16 < d then 25 else if k < 1 ∨ 4 < k then 5 else if fb = true then 6 else 0
theorem Ud {pv k : Int} {t n : AF} {pa : List AF} {fs : List (AF × Int)} {b e : List Pt} {i d : Nat} {fb : Bool} (hf : S9 k t n (Cn pa) (Cn fs) (Cn b) (Cn e) = fb) : HA pv i d k t n pa fs b e = if RB i d k fb ≠ 0 then RB i d k fb else if k = 1 ∧ pv = 1 then 6 else Fn k n pa fs := by
 unfold HA RB
 rw [UO, hf]
 by_cases h1 : 200 ≤ i
 ·have h1' : (200 : Int) ≤ (i : Int) := by omega
  simp [h1, h1']
 ·have h1' : ¬ (200 : Int) ≤ (i : Int) := by omega
  by_cases h2 : 16 < d
  ·have h2' : (16 : Int) < (d : Int) := by omega
   simp [h1, h1', h2, h2']
  ·have h2' : ¬ (16 : Int) < (d : Int) := by omega
   simp only [h1, h1', h2, h2', if_false]
   by_cases h3 : k < 1 ∨ 4 < k
   ·simp [h3]
   ·simp only [h3, if_false]
    cases fb
    ·by_cases hk : k = 1 <;> by_cases hp : pv = 1 <;> simp [hk, hp]
    ·simp
theorem X7 (i d k : Int) (t n : AF) (pa : List AF) (fs : List (AF × Int)) (eb ee : List AV) (hl : pa.length ≤ 2000000 ∧ fs.length ≤ 2000000 ∧ eb.length ≤ 2000000 ∧ ee.length ≤ 2000000) : APure Tryz.prog 67 [.agg [aI k, .str t, .str n, DN pa, Bz fs, .sl 7 eb .ro, .sl 7 ee .ro], aI i, aI d] (aI (RB i d k (S9 k t n (Cn pa) (Cn fs) (Cn eb) (Cn ee)))) := by
 obtain ⟨fb, hfb⟩ : ∃ fb, S9 k t n (Cn pa) (Cn fs) (Cn eb) (Cn ee) = fb := ⟨_, rfl⟩
 rw [hfb]
 obtain ⟨z, hz⟩ : ∃ z, RB i d k fb = z := ⟨_, rfl⟩
 rw [hz]
 unfold RB at hz
 obtain ⟨l1, l2, l3, l4⟩ := hl
 by_cases h1 : 200 ≤ i
 ·rw [if_pos h1] at hz
  subst hz
  refine AM Tryz.func67 Pe rfl fun n H hH => ?_
  repeat' (first | (simp -implicitDefEqProofs [Fg, FV, FN, FH, FZ, FR, Fh, FL, c67, -getElem?_pos, h1]) | (simp (disch := omega) only [AJ]) | (with_reducible first | refine A8 ?_ ?_ ?_ | exact AG | refine SameB.upd ?_ ?_ _ | assumption | refine A3 ?_ | refine KM.of ?_ | refine AI ?_ | refine A5 ?_ | refine A7 ?_ | intro _g _hg | refine AK ?_ ?_ | intro _hc) | omega)
  all_goals exact A1 _
 ·rw [if_neg h1] at hz
  by_cases h2 : 16 < d
  ·rw [if_pos h2] at hz
   subst hz
   refine AM Tryz.func67 Pe rfl fun n H hH => ?_
   repeat' (first | (simp -implicitDefEqProofs [Fg, FV, FN, FH, FZ, FR, Fh, FL, c67, -getElem?_pos, h1, h2]) | (simp (disch := omega) only [AJ]) | (with_reducible first | refine A8 ?_ ?_ ?_ | exact AG | refine SameB.upd ?_ ?_ _ | assumption | refine A3 ?_ | refine KM.of ?_ | refine AI ?_ | refine A5 ?_ | refine A7 ?_ | intro _g _hg | refine AK ?_ ?_ | intro _hc) | omega)
   all_goals exact A1 _
  ·rw [if_neg h2] at hz
   by_cases h3 : k < 1 ∨ 4 < k
   ·rw [if_pos h3] at hz
    subst hz
    rcases h3 with h3 | h3
    ·refine AM Tryz.func67 Pe rfl fun n H hH => ?_
     repeat' (first | (simp -implicitDefEqProofs [Fg, FV, FN, FH, FZ, FR, Fh, FL, c67, -getElem?_pos, h1, h2, h3]) | (simp (disch := omega) only [AJ]) | (with_reducible first | refine A8 ?_ ?_ ?_ | exact AG | refine SameB.upd ?_ ?_ _ | assumption | refine A3 ?_ | refine KM.of ?_ | refine AI ?_ | refine A5 ?_ | refine A7 ?_ | intro _g _hg | refine AK ?_ ?_ | intro _hc) | omega)
     all_goals exact A1 _
    ·have h3' : ¬ k < 1 := by omega
     refine AM Tryz.func67 Pe rfl fun n H hH => ?_
     repeat' (first | (simp -implicitDefEqProofs [Fg, FV, FN, FH, FZ, FR, Fh, FL, c67, -getElem?_pos, h1, h2, h3, h3']) | (simp (disch := omega) only [AJ]) | (with_reducible first | refine A8 ?_ ?_ ?_ | exact AG | refine SameB.upd ?_ ?_ _ | assumption | refine A3 ?_ | refine KM.of ?_ | refine AI ?_ | refine A5 ?_ | refine A7 ?_ | intro _g _hg | refine AK ?_ ?_ | intro _hc) | omega)
     all_goals exact A1 _
   ·rw [if_neg h3] at hz
    have h4 : ¬ k < 1 := by omega
    have h5 : ¬ 4 < k := by omega
    refine AM Tryz.func67 Pe rfl fun n H hH => ?_
    repeat' (first | (simp -implicitDefEqProofs [Fg, FV, FN, FH, FZ, FR, Fh, FL, c67, -getElem?_pos, h1, h2, h4, h5]) | (simp (disch := omega) only [AJ]) | (with_reducible first | refine A8 ?_ ?_ ?_ | exact AG | refine SameB.upd ?_ ?_ _ | assumption | refine A3 ?_ | refine KM.of ?_ | refine AI ?_ | refine A5 ?_ | refine A7 ?_ | intro _g _hg | refine AK ?_ ?_ | intro _hc) | omega)
    all_goals (refine C1 ?_; rw [← hz, ← hfb]; unfold S9 Cn; grind)
end Go.Proofs.YtnfjgphfaemjcaaGreatDoor
