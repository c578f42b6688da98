/- Templates: numbers and paths, as the program and the reference know them; the filters; no condition. -/
import Derived.Test.YtnfjgphfaemjcaaGreatDoorMgI
import Derived.Test.YtnfjgphfaemjcaaGreatDoorMdN
import Derived.Test.YtnfjgphfaemjcaaGreatDoorMgJ
set_option linter.all false
set_option maxHeartbeats 4000000
namespace Go.Proofs.YtnfjgphfaemjcaaGreatDoor
theorem Wi (u : Nat) : (Lib.decDigits u).length ≤ 3 ↔ u ≤ 999 := by
 rw [Lib.decDigits_length]
 constructor
 ·intro h
  have h1 := Lib.lt_pow_nDigits u
  have h2 : 10 ^ Lib.nDigits u ≤ 10 ^ 3 := Nat.pow_le_pow_right (by omega) h
  omega
 ·intro h
  exact GV 2 u (by omega)
def Ll (s : AE) (m : Int) : Bool := match Lib.atoiAll s with
 | .ok v => decide ((s.length : Int) ≤ m) && decide (0 ≤ v) && decide (Lib.itoa v = s)
 | _ => false
theorem St {s : AE} {m : Nat} (hm : m = 3 ∨ m = 9) : Ll s m = ((Bg s).2 && decide (0 ≤ (Bg s).1) && decide ((Bg s).1 < 10 ^ m)) := by
 unfold Ll Bg
 split
 ·rename_i v hv
  by_cases h : Lib.itoa v = s
  ·by_cases h0 : 0 ≤ v
   ·obtain ⟨u, rfl⟩ : ∃ u : Nat, v = (u : Int) := ⟨v.toNat, by omega⟩
    have ht := MZ (u : Int)
    rw [h] at ht
    simp only [hv, h, decide_true, Bool.true_and, Bool.and_true, ht]
    have hs : s = Lib.decDigits u := by rw [← h, Lib.itoa_nonneg]
    have e2 : ((u : Int).natAbs) = u := by omega
    rw [e2, hs]
    have h3 := Wi u
    have h9 := MI u
    rcases hm with rfl | rfl
    ·have : decide ((Lib.decDigits u).length ≤ 9) = true ∨ ¬ (u ≤ 999) := by
      by_cases hu : u ≤ 999
      ·exact .inl (decide_eq_true (by omega))
      ·exact .inr hu
     rcases this with h4 | h4
     ·rw [h4]; simp only [Bool.true_and]
      by_cases hu : u ≤ 999
      ·rw [decide_eq_true (by omega), decide_eq_true (by omega), decide_eq_true (by omega)]
       all_goals rfl
      ·rw [decide_eq_false (by omega), decide_eq_false (p := _ < _) (by omega)]; simp
     ·rw [decide_eq_false (p := (((Lib.decDigits u).length : Nat) : Int) ≤ _) (by omega), decide_eq_false (p := (u : Int) < _) (by omega)]; simp
    ·by_cases hu : u ≤ 999999999
     ·rw [decide_eq_true (by omega), decide_eq_true (by omega), decide_eq_true (by omega), decide_eq_true (by omega)]
      all_goals rfl
     ·rw [decide_eq_false (p := (((Lib.decDigits u).length : Nat) : Int) ≤ _) (by omega), decide_eq_false (p := (u : Int) < _) (by omega)]; simp
   ·simp only [hv, h0, decide_false, Bool.and_false, Bool.false_and]
  ·simp only [hv, h, decide_false, Bool.and_false, Bool.false_and]
 ·rename_i h
  split
  ·rename_i v hv; exact absurd hv (h v)
  ·rfl
  ·rfl
theorem A00 (s : AE) : Ll s 3 = UH s := by
 have h := St (s := s) (m := 3) (.inl rfl)
 have e : Ll s 3 = Ll s ((3 : Nat) : Int) := rfl
 rw [e, h]
 unfold UH
 congr 1
 apply decide_eq_decide.2; omega
attribute [local simp] KJ EJ EI KX LT Lg L9 EG ED Fy GP LK KU Kz Ji KH J5 J7 J9 LA LF Ki Li Kq KB Qt pe Jv Kn Jl Kx Kb Jz LM K0 KZ KP Jr Jo L0 FN Np Od OB Nv Nq OI ON OA Nt O0 Oj Ns Of O9 Nr Ny O1 OQ OW OK No FX O6 FL OT Og Nj NP NS Nn Nu OF NZ NY NN Oc O4 OM NU NV Ot NX Oe O5 Om OC NQ NW Nx Fr Na OH OP Ok Oi Nk OR O2 On OS Nc OG Ol OU Ob NM Oa NT Nz K8 K2 LL KG Kg Jm Ju Kk K6 L6 LE IS Jc List.mem_cons guardK Dl Ed Er GX Nd Fh FO Fp FY FP FM FJ Fs Fg Nl OV FV Kf Oq OZ OE Nb Nw Fd LX OX Nf Jw La OD I9 Fq FT Fn FZ Ng Ni FQ OJ FW LN Fw Fe KV Fm Ft Nh O8 Oo KF OL Nm KI Jh Sg JD JH H9 JE JI JA Dx G0 Fz L8 G4 G3 E0 Dn UK JM JK G5 JJ JN Ds DY BN BR C0 DZ DI ev get put EW AD D9 KY KN LV Jx JB Kh EO part Ap Gz L1 Gc isNil Cu D4 Da D8 CE Lc LW LO K7 L2 J6 Jq Lf Jf KD L3 LZ Lh Jp LI LQ AV.fits AV.cells ones AV.one E5 Bp E7 DQ EV EN KE FA Fo CH BS Cw G7 E3 AN B6 VJ GL Lj Ke List.getElem?_cons_zero List.getElem?_cons_succ Fa FR Ff KR Kj Ku Gt LH L4 LS LG LD Jt KQ O3 KK Ja KL Ky LY Ko Je LB Ks Kv KO Kp KT L5 K5 Kw LJ Km LU Jy E6
theorem R8 (s : AE) (m : Int) (hs : s.length ≤ 2000000) : APure Tryz.prog 114 [.str s, aI m] (.bool (Ll s m)) := by
 cases h : Lib.atoiAll s with
 | ok v =>
  have ha := Rr h hs
  have hb := Lib.atoiAll_bounds h
  have hi := VK v hb
  unfold Ll
  rw [h]
  simp only
  generalize Lib.itoa v = iv at *
  refine A6 Tryz.func114 UQ rfl fun n H hH => ?_
  repeat' (first | simp -implicitDefEqProofs [A0y, -getElem?_pos] | simp (disch := omega) only [AA] | ((with_reducible refine A8 115 ?_); (refine' CallP.sf ?_ (ha) ?_); (focus first | (with_reducible exact A0 _) | (simp [A5, A4, A1, A0]; done))) | ((with_reducible refine A8 65 ?_); (refine' CallP.sf ?_ (hi) ?_); (focus first | (with_reducible exact A0 _) | (simp [A5, A4, A1, A0]; done))) | (with_reducible first | exact AI | refine AQ ?_ | intro _g _hg | refine A9 ?_ ?_ | intro _hc) | omega)
  all_goals (refine Ab ?_; grind)
 | range =>
  have ha := Yu h hs
  generalize Lib.atoiSat s = z at *
  have hd : Ll s m = false := by unfold Ll; rw [h]
  rw [hd]
  refine A6 Tryz.func114 UQ rfl fun n H hH => ?_
  repeat' (first | simp -implicitDefEqProofs [A0y, -getElem?_pos] | simp (disch := omega) only [AA] | ((with_reducible refine A8 115 ?_); (refine' CallP.sf ?_ (ha) ?_); (focus first | (with_reducible exact A0 _) | (simp [A5, A4, A1, A0]; done))) | (with_reducible first | exact AI | refine AQ ?_ | intro _g _hg | refine A9 ?_ ?_ | intro _hc) | omega)
  all_goals exact A1 _
 | _ =>
  have ha := Th (s := s) (by rw [h]; intro v e; cases e) (by rw [h]; intro e; cases e) hs
  have hd : Ll s m = false := by unfold Ll; rw [h]
  rw [hd]
  refine A6 Tryz.func114 UQ rfl fun n H hH => ?_
  repeat' (first | simp -implicitDefEqProofs [A0y, -getElem?_pos] | simp (disch := omega) only [AA] | ((with_reducible refine A8 115 ?_); (refine' CallP.sf ?_ (ha) ?_); (focus first | (with_reducible exact A0 _) | (simp [A5, A4, A1, A0]; done))) | (with_reducible first | exact AI | refine AQ ?_ | intro _g _hg | refine A9 ?_ ?_ | intro _hc) | omega)
  all_goals exact A1 _
def NH (s : AE) : Bool := !Ho s && !UH s
theorem A1t (s : AE) (hs : s.length ≤ 2000000) : APure Tryz.prog 148 [.str s] (.bool (NH s)) := by
 show APure Tryz.prog 148 [.str s] (.bool (!Ho s && !UH s))
 have h1 := Rx s hs
 have h2 := R8 s 3 hs
 rw [A00] at h2
 generalize Ho s = a at *
 generalize UH s = b at *
 refine A6 Tryz.func148 A3s rfl fun n H hH => ?_
 cases a
 ·repeat' (first | simp -implicitDefEqProofs [A3k, -getElem?_pos] | simp (disch := omega) only [AA] | ((with_reducible refine A8 107 ?_); (refine' CallP.sf ?_ (h1) ?_); (focus first | (with_reducible exact A0 _) | (simp [A5, A4, A1, A0]; done))) | ((with_reducible refine A8 114 ?_); (refine' CallP.sf ?_ (h2) ?_); (focus first | (with_reducible exact A0 _) | (simp [A5, A4, A1, A0]; done))) | (with_reducible first | exact AI | refine AQ ?_ | intro _g _hg | refine A9 ?_ ?_ | intro _hc) | omega)
  all_goals exact A1 _
 ·repeat' (first | simp -implicitDefEqProofs [A3k, -getElem?_pos] | simp (disch := omega) only [AA] | ((with_reducible refine A8 107 ?_); (refine' CallP.sf ?_ (h1) ?_); (focus first | (with_reducible exact A0 _) | (simp [A5, A4, A1, A0]; done))) | ((with_reducible refine A8 114 ?_); (refine' CallP.sf ?_ (h2) ?_); (focus first | (with_reducible exact A0 _) | (simp [A5, A4, A1, A0]; done))) | (with_reducible first | exact AI | refine AQ ?_ | intro _g _hg | refine A9 ?_ ?_ | intro _hc) | omega)
  all_goals exact A1 _
theorem UI {d : Option Nat} {K : AS → Prop} {en : AH} {n : Nat} {H : A3} {xs a b : List AV} {f : Nat} (hc : Ec Tryz.prog f = true) : DI Tryz.prog d K en n H xs (.fn f a b) = CallK Tryz.prog f (a ++ xs ++ b) d K ⟨en, n, H⟩ := propext ⟨fun h => h.2, fun h => ⟨hc, h⟩⟩
theorem step_ok : Ec Tryz.prog 148 = true := by kernel_rfl
def ixW : List AE → Int → Int
 | [], _ => -1
 | s :: r, i => if NH s = true then i else ixW r (i + 1)
theorem Vt : ∀ (p : List AE) (i : Int), 0 ≤ i → (decide (0 ≤ ixW p i) = p.any NH)
 | [], i, _ => rfl
 | s :: r, i, hi => by
  simp only [ixW, List.any_cons]
  split
  ·rename_i h; simp [h, hi]
  ·rename_i h; rw [Vt r (i + 1) (by omega)]; simp [h]
theorem Ye (p : List AE) (hl : p.length ≤ 140737488355328) (hb : ∀ s ∈ p, s.length ≤ 2000000) : APure Tryz.prog 179 [CG p, .fn 148 [] []] (aI (ixW p 0)) := by
 
 refine A6 Tryz.func179 A3w rfl fun n H hH => ?_
 repeat' (first | simp -implicitDefEqProofs [Yq, -getElem?_pos] | simp (disch := omega) only [AA] | (with_reducible first | exact AI | refine AQ ?_ | intro _g _hg | refine A9 ?_ ?_ | intro _hc) | omega)
 refine LoopK.go (fun r st => ∃ j : Nat, j + r = p.length ∧ st = ⟨[(0, CG p), (1, .fn 148 [] []), (7, aI p.length), (8, aI j)], n, H⟩ ∧ ixW p 0 = ixW (p.drop j) j) p.length ⟨0, by omega, by simp, rfl⟩ ?_
 rintro r st ⟨j, hj, rfl, hE⟩ J hJ
 by_cases hjl : j < p.length
 ·obtain ⟨x, hx⟩ : ∃ x, p[j]? = some x := ⟨_, List.getElem?_eq_getElem hjl⟩
  have hjl' : (j : Int) < p.length := by omega
  have hch := A1t x (hb x (List.mem_of_getElem? hx))
  rw [drop_at hx] at hE
  simp only [ixW] at hE
  generalize NH x = bb at *
  cases bb
  ·
   repeat' (first | simp -implicitDefEqProofs [K3, Jb, LC, LP, Yq, -getElem?_pos, hx, hjl', UI step_ok, -DI] | simp (disch := omega) only [AA] | ((with_reducible refine Al 148 ?_); (refine' CallK.sfAt ?_ (hch.at_ _ _) ?_); (focus first | (with_reducible exact A0 _) | (simp [A5, A4, A1, A0]; done))) | (with_reducible first | exact AI | refine AQ ?_ | intro _g _hg | refine A9 ?_ ?_ | intro _hc) | omega)
   exact hJ (r - 1) _ (by omega) ⟨j + 1, by omega, rfl, by rw [hE]; rfl⟩
  ·rw [hE]
   
   repeat' (first | simp -implicitDefEqProofs [K3, Jb, LC, LP, Yq, -getElem?_pos, hx, hjl', UI step_ok, -DI] | simp (disch := omega) only [AA] | ((with_reducible refine Al 148 ?_); (refine' CallK.sfAt ?_ (hch.at_ _ _) ?_); (focus first | (with_reducible exact A0 _) | (simp [A5, A4, A1, A0]; done))) | (with_reducible first | exact AI | refine AQ ?_ | intro _g _hg | refine A9 ?_ ?_ | intro _hc) | omega)
   all_goals exact A1 _
 ·have hjl' : ¬ (j : Int) < p.length := by omega
  rw [List.drop_eq_nil_of_le (by omega)] at hE
  rw [hE]
  
  repeat' (first | simp -implicitDefEqProofs [K3, Jb, LC, LP, Yq, -getElem?_pos, hjl', ixW] | simp (disch := omega) only [AA] | (with_reducible first | exact AI | refine AQ ?_ | intro _g _hg | refine A9 ?_ ?_ | intro _hc) | omega)
  all_goals exact A1 _
theorem TN (p : List AE) (hl : p.length ≤ 140737488355328) (hb : ∀ s ∈ p, s.length ≤ 2000000) : APure Tryz.prog 147 [CG p, .fn 148 [] []] (.bool (p.any NH)) := by
 have h := Ye p hl hb
 rw [← Vt p 0 (by omega)]
 generalize ixW p 0 = i at *
 
 refine A6 Tryz.func147 A1w rfl fun n H hH => ?_
 repeat' (first | simp -implicitDefEqProofs [A64, -getElem?_pos] | simp (disch := omega) only [AA] | ((with_reducible refine Al 179 ?_); (refine' CallK.sfAt ?_ (h.at_ _ _) ?_); (focus first | (with_reducible exact A0 _) | (simp [A5, A4, A1, A0]; done))) | (with_reducible first | exact AI | refine AQ ?_ | intro _g _hg | refine A9 ?_ ?_ | intro _hc) | omega)
 all_goals exact A1 _
theorem YL (p : List AE) (hb : ∀ s ∈ p, s.length ≤ 2000000) (hl : p.length ≤ 140737488355328) : APure Tryz.prog 108 [CG p] (.bool (B5 p)) := by
 cases p with
 | nil =>
  have e : B5 [] = false := rfl
  rw [e]
  refine A6 Tryz.func108 Yv rfl fun n H hH => ?_
  repeat' (first | simp -implicitDefEqProofs [GM, X3, -getElem?_pos] | simp (disch := omega) only [AA] | (with_reducible first | exact AI | refine AQ ?_ | intro _g _hg | refine A9 ?_ ?_ | intro _hc) | omega)
  all_goals exact A1 _
 | cons h t =>
  have h1 := Rx h (hb h List.mem_cons_self)
  have hc := (TN (h :: t) hl hb).at_
  have e : B5 (h :: t) = (decide ((t.length : Int) + 1 ≤ 8) && Ho h && !(h :: t).any NH) := by
   have : (decide (t.length ≤ 7)) = decide ((t.length : Int) + 1 ≤ 8) := decide_eq_decide.2 (by omega)
   simp only [B5, this, List.any_cons, NH]
   cases Ho h <;> simp [List.all_eq_not_any_not]
   rfl
  rw [e]
  generalize (h :: t).any NH = bb at *
  generalize Ho h = ba at *
  have hg : (Z8 (h :: t))[0]? = some (.str h) := rfl
  refine A6 Tryz.func108 Yv rfl fun n H hH => ?_
  cases ba <;> cases bb
  ·repeat' (first | simp -implicitDefEqProofs [GM, X3, -getElem?_pos] | simp (disch := omega) only [AA] | ((with_reducible refine A8 107 ?_); (refine' CallP.sf ?_ (h1) ?_); (focus first | (with_reducible exact A0 _) | (simp [A5, A4, A1, A0]; done))) | ((with_reducible refine Al 147 ?_); (refine' CallK.sfAt ?_ (hc _ _) ?_); (focus first | (with_reducible exact A0 _) | (simp [A5, A4, A1, A0]; done))) | (with_reducible first | exact AI | refine AQ ?_ | intro _g _hg | refine A9 ?_ ?_ | intro _hc) | omega)
   all_goals (refine Ab ?_; grind)
  ·repeat' (first | simp -implicitDefEqProofs [GM, X3, -getElem?_pos] | simp (disch := omega) only [AA] | ((with_reducible refine A8 107 ?_); (refine' CallP.sf ?_ (h1) ?_); (focus first | (with_reducible exact A0 _) | (simp [A5, A4, A1, A0]; done))) | ((with_reducible refine Al 147 ?_); (refine' CallK.sfAt ?_ (hc _ _) ?_); (focus first | (with_reducible exact A0 _) | (simp [A5, A4, A1, A0]; done))) | (with_reducible first | exact AI | refine AQ ?_ | intro _g _hg | refine A9 ?_ ?_ | intro _hc) | omega)
   all_goals (refine Ab ?_; grind)
  ·repeat' (first | simp -implicitDefEqProofs [GM, X3, -getElem?_pos] | simp (disch := omega) only [AA] | ((with_reducible refine A8 107 ?_); (refine' CallP.sf ?_ (h1) ?_); (focus first | (with_reducible exact A0 _) | (simp [A5, A4, A1, A0]; done))) | ((with_reducible refine Al 147 ?_); (refine' CallK.sfAt ?_ (hc _ _) ?_); (focus first | (with_reducible exact A0 _) | (simp [A5, A4, A1, A0]; done))) | (with_reducible first | exact AI | refine AQ ?_ | intro _g _hg | refine A9 ?_ ?_ | intro _hc) | omega)
   all_goals (refine Ab ?_; grind)
  ·repeat' (first | simp -implicitDefEqProofs [GM, X3, -getElem?_pos] | simp (disch := omega) only [AA] | ((with_reducible refine A8 107 ?_); (refine' CallP.sf ?_ (h1) ?_); (focus first | (with_reducible exact A0 _) | (simp [A5, A4, A1, A0]; done))) | ((with_reducible refine Al 147 ?_); (refine' CallK.sfAt ?_ (hc _ _) ?_); (focus first | (with_reducible exact A0 _) | (simp [A5, A4, A1, A0]; done))) | (with_reducible first | exact AI | refine AQ ?_ | intro _g _hg | refine A9 ?_ ?_ | intro _hc) | omega)
   all_goals (refine Ab ?_; grind)
def okF (c : UInt8) : Bool := Jd c || BK c
theorem ZS (c : UInt8) : Jd c = ((decide ((97 : Int) ≤ c.toNat) && decide ((c.toNat : Int) ≤ 122)) || (decide ((65 : Int) ≤ c.toNat) && decide ((c.toNat : Int) ≤ 90)) || decide ((c.toNat : Int) = 95)) := by
 unfold Jd
 congr 1
 ·congr 1
  ·congr 1 <;> (apply decide_eq_decide.2; omega)
  ·congr 1 <;> (apply decide_eq_decide.2; omega)
 ·apply decide_eq_decide.2; omega
theorem A1c {s : AE} {c : UInt8} (h : s[0]? = some c) : IK s = (decide ((s.length : Int) ≤ 24) && !BK c && s.all okF) := by
 cases s with
 | nil => simp at h
 | cons d r =>
  simp only [List.getElem?_cons_zero, Option.some.injEq] at h
  subst h
  have : decide ((d :: r).length ≤ 24) = decide (((d :: r).length : Int) ≤ 24) := decide_eq_decide.2 (by omega)
  unfold IK
  rw [this]
  simp only [ne_eq, reduceCtorEq, not_false_eq_true, decide_true, Bool.true_and, List.headD_cons]
  rfl
theorem ZT (s : AE) (hs : s.length ≤ 2000000) : APure Tryz.prog 142 [.str s] (.bool (IK s)) := by
 by_cases hne : s = []
 ·subst hne
  have e : IK [] = false := rfl
  rw [e]
  refine A6 Tryz.func142 SP rfl fun n H hH => ?_
  repeat' (first | simp -implicitDefEqProofs [Dj, Df, Du, Di, Dp, SN, -getElem?_pos] | simp (disch := omega) only [AA] | (with_reducible first | exact AI | refine AQ ?_ | intro _g _hg | refine A9 ?_ ?_ | intro _hc) | omega)
  all_goals exact A1 _
 ·obtain ⟨c, hg0⟩ : ∃ c, s[0]? = some c := ⟨_, List.getElem?_eq_getElem (List.length_pos_iff.2 hne)⟩
  have hd0 := SW c
  rw [A1c hg0]
  generalize BK c = b0 at *
  by_cases h24 : (s.length : Int) ≤ 24
  ·rw [decide_eq_true h24]
   have h24' : ¬ (24 : Int) < (s.length : Int) := by omega
   cases b0
   ·simp only [Bool.not_false, Bool.true_and] at *
    obtain ⟨z, hz⟩ : ∃ z, s.all okF = z := ⟨_, rfl⟩
    rw [hz]
    refine A6 Tryz.func142 SP rfl fun n H hH => ?_
    repeat' (first | simp -implicitDefEqProofs [Dj, Df, Du, Di, Dp, SN, -getElem?_pos, h24', hne, hg0] | simp (disch := omega) only [AA] | ((with_reducible refine A8 154 ?_); (refine' CallP.sf ?_ (hd0) ?_); (focus first | (with_reducible exact A0 _) | (simp [A5, A4, A1, A0]; done))) | (with_reducible first | exact AI | refine AQ ?_ | intro _g _hg | refine A9 ?_ ?_ | intro _hc) | omega)
    refine LoopK.go (fun m st => ∃ (k : Nat), k + m = s.length ∧ st = ⟨[(0, .str s), (3, aI k)], n, H⟩ ∧ z = (s.drop k).all okF) s.length ⟨0, by omega, rfl, by rw [← hz]; rfl⟩ ?_
    rintro m st ⟨k, hkm, rfl, hE⟩ J hJ
    by_cases hk : k < s.length
    ·obtain ⟨y, hy⟩ : ∃ y, s[k]? = some y := ⟨_, List.getElem?_eq_getElem hk⟩
     rw [drop_at hy, List.all_cons] at hE
     have hd := SW y
     have hl := ZS y
     have h95 : y = 95 ↔ (y.toNat : Int) = 95 := ⟨fun e => by rw [e]; rfl, fun e => UInt8.toNat_inj.1 (show y.toNat = 95 by omega)⟩
     have hk' : (k : Int) < s.length := by omega
     unfold okF at hE
     generalize Jd y = bl at *
     generalize BK y = bd at *
     clear hz
     cases bl
     ·cases bd
      ·repeat' (first | simp -implicitDefEqProofs [Dj, Df, Du, Di, Dp, SN, -getElem?_pos, hy, hk'] | simp (disch := omega) only [AA] | ((with_reducible refine A8 154 ?_); (refine' CallP.sf ?_ (hd) ?_); (focus first | (with_reducible exact A0 _) | (simp [A5, A4, A1, A0]; done))) | (with_reducible first | exact AI | refine AQ ?_ | intro _g _hg | refine A9 ?_ ?_ | intro _hc) | omega)
       all_goals first | (exfalso; grind) | (refine Ab ?_; rw [hE]; rfl)
      ·repeat' (first | simp -implicitDefEqProofs [Dj, Df, Du, Di, Dp, SN, -getElem?_pos, hy, hk'] | simp (disch := omega) only [AA] | ((with_reducible refine A8 154 ?_); (refine' CallP.sf ?_ (hd) ?_); (focus first | (with_reducible exact A0 _) | (simp [A5, A4, A1, A0]; done))) | (with_reducible first | exact AI | refine AQ ?_ | intro _g _hg | refine A9 ?_ ?_ | intro _hc) | omega)
       all_goals first | (exact hJ (m - 1) _ (by omega) ⟨k + 1, by omega, rfl, by rw [hE]; rfl⟩) | (exfalso; grind)
     ·repeat' (first | simp -implicitDefEqProofs [Dj, Df, Du, Di, Dp, SN, -getElem?_pos, hy, hk'] | simp (disch := omega) only [AA] | ((with_reducible refine A8 154 ?_); (refine' CallP.sf ?_ (hd) ?_); (focus first | (with_reducible exact A0 _) | (simp [A5, A4, A1, A0]; done))) | (with_reducible first | exact AI | refine AQ ?_ | intro _g _hg | refine A9 ?_ ?_ | intro _hc) | omega)
      all_goals first | (exact hJ (m - 1) _ (by omega) ⟨k + 1, by omega, rfl, by rw [hE]; rfl⟩) | (exfalso; grind)
    ·have hk0 : k = s.length := by omega
     subst hk0
     have hk' : ¬ (s.length : Int) < s.length := by omega
     rw [List.drop_length] at hE
     rw [hE]
     repeat' (first | simp -implicitDefEqProofs [Dj, Df, Du, Di, Dp, SN, -getElem?_pos, hk'] | simp (disch := omega) only [AA] | (with_reducible first | exact AI | refine AQ ?_ | intro _g _hg | refine A9 ?_ ?_ | intro _hc) | omega)
     all_goals exact A1 _
   ·simp only [Bool.not_true, Bool.and_false, Bool.false_and] at *
    refine A6 Tryz.func142 SP rfl fun n H hH => ?_
    repeat' (first | simp -implicitDefEqProofs [Dj, Df, Du, Di, Dp, SN, -getElem?_pos, h24', hne, hg0] | simp (disch := omega) only [AA] | ((with_reducible refine A8 154 ?_); (refine' CallP.sf ?_ (hd0) ?_); (focus first | (with_reducible exact A0 _) | (simp [A5, A4, A1, A0]; done))) | (with_reducible first | exact AI | refine AQ ?_ | intro _g _hg | refine A9 ?_ ?_ | intro _hc) | omega)
    all_goals exact A1 _
  ·rw [decide_eq_false h24]
   have h24' : (24 : Int) < (s.length : Int) := by omega
   simp only [Bool.false_and] at *
   refine A6 Tryz.func142 SP rfl fun n H hH => ?_
   repeat' (first | simp -implicitDefEqProofs [Dj, Df, Du, Di, Dp, SN, -getElem?_pos, h24', hne, hg0] | simp (disch := omega) only [AA] | ((with_reducible refine A8 154 ?_); (refine' CallP.sf ?_ (hd0) ?_); (focus first | (with_reducible exact A0 _) | (simp [A5, A4, A1, A0]; done))) | (with_reducible first | exact AI | refine AQ ?_ | intro _g _hg | refine A9 ?_ ?_ | intro _hc) | omega)
   all_goals exact A1 _
def Xu (s : AE) : Bool := !decide (s = Y5) && !decide (s = Ge) && !decide (s = XN) && !decide (s = N4) && !decide (s = UA) && !decide (s = Lr)
theorem A5u (s : AE) : Ho s = (IK s && Xu s) := by
 unfold Ho Xu
 congr 1
 by_cases h : s ∈ ZN
 ·have := h
  simp only [ZN, List.mem_cons, List.not_mem_nil, or_false] at this
  rw [decide_eq_true h]
  rcases this with rfl | rfl | rfl | rfl | rfl | rfl <;> decide
 ·have := h
  simp only [ZN, List.mem_cons, List.not_mem_nil, or_false, not_or] at this
  rw [decide_eq_false h]
  simp [this]
theorem Lt (s : AE) (hs : s.length ≤ 2000000) : APure Tryz.prog 105 [.str s] (.bool (Ho s)) := by
 have h1 := ZT s hs
 have hk := A5u s
 unfold Xu Y5 Ge XN N4 UA Lr at hk
 rw [hk]
 generalize IK s = b at *
 clear hk
 refine A6 Tryz.func105 A2a rfl fun n H hH => ?_
 repeat' (first | simp -implicitDefEqProofs [A5f, -getElem?_pos] | simp (disch := omega) only [AA] | ((with_reducible refine A8 142 ?_); (refine' CallP.sf ?_ (h1) ?_); (focus first | (with_reducible exact A0 _) | (simp [A5, A4, A1, A0]; done))) | (with_reducible first | exact AI | refine AQ ?_ | intro _g _hg | refine A9 ?_ ?_ | intro _hc) | omega)
 all_goals (refine Ab ?_; grind)
theorem ZJ (s : AE) (hs : s.length ≤ 2000000) : APure Tryz.prog 143 [.str s] (.bool (UH s)) := by
 have h1 := T0 s hs
 obtain ⟨h2, h3⟩ := Vu s
 have hx : UH s = ((Hv s).2 && decide (0 ≤ (Hv s).1) && decide ((Hv s).1 ≤ 999)) := by
  unfold UH
  rw [← h2]
  cases hb : (Hv s).2 with
  | false => simp
  | true => rw [h3 (by rw [← h2]; exact hb)]
 rw [hx]
 generalize (Hv s).1 = v at *
 generalize (Hv s).2 = b at *
 clear hx h2 h3
 refine A6 Tryz.func143 A3r rfl fun n H hH => ?_
 cases b
 ·repeat' (first | simp -implicitDefEqProofs [c143, -getElem?_pos] | simp (disch := omega) only [AA] | ((with_reducible refine A8 116 ?_); (refine' CallP.sf ?_ (h1) ?_); (focus first | (with_reducible exact A0 _) | (simp [A5, A4, A1, A0]; done))) | (with_reducible first | exact AI | refine AQ ?_ | intro _g _hg | refine A9 ?_ ?_ | intro _hc) | omega)
  all_goals (refine Ab ?_; grind)
 ·repeat' (first | simp -implicitDefEqProofs [c143, -getElem?_pos] | simp (disch := omega) only [AA] | ((with_reducible refine A8 116 ?_); (refine' CallP.sf ?_ (h1) ?_); (focus first | (with_reducible exact A0 _) | (simp [A5, A4, A1, A0]; done))) | (with_reducible first | exact AI | refine AQ ?_ | intro _g _hg | refine A9 ?_ ?_ | intro _hc) | omega)
  all_goals (refine Ab ?_; grind)
theorem Ow (p : List AE) (hb : ∀ s ∈ p, s.length ≤ 2000000) (hl : p.length ≤ 140737488355328) : APure Tryz.prog 106 [CG p] (.bool (B5 p)) := by
 cases p with
 | nil =>
  have e : B5 [] = false := rfl
  rw [e]
  refine A6 Tryz.func106 SD rfl fun n H hH => ?_
  repeat' (first | simp -implicitDefEqProofs [Dd, Dq, De, Dt, Dm, Sf, -getElem?_pos] | simp (disch := omega) only [AA] | (with_reducible first | exact AI | refine AQ ?_ | intro _g _hg | refine A9 ?_ ?_ | intro _hc) | omega)
  all_goals exact A1 _
 | cons h t =>
  have h1 := Lt h (hb h List.mem_cons_self)
  have e : B5 (h :: t) = (decide ((t.length : Int) + 1 ≤ 8) && Ho h && t.all fun s => Ho s || UH s) := by
   have : (decide (t.length ≤ 7)) = decide ((t.length : Int) + 1 ≤ 8) := decide_eq_decide.2 (by omega)
   simp only [B5, this]
  rw [e]
  have hg : (Z8 (h :: t))[0]? = some (.str h) := rfl
  obtain ⟨z, hz⟩ : ∃ z, (t.all fun s => Ho s || UH s) = z := ⟨_, rfl⟩
  rw [hz]
  generalize Ho h = ba at *
  by_cases h8 : (t.length : Int) + 1 ≤ 8
  ·rw [decide_eq_true h8]
   have h8' : ¬ (8 : Int) < (t.length : Int) + 1 := by omega
   cases ba
   ·refine A6 Tryz.func106 SD rfl fun n H hH => ?_
    repeat' (first | simp -implicitDefEqProofs [Dd, Dq, De, Dt, Dm, Sf, -getElem?_pos, h8'] | simp (disch := omega) only [AA] | ((with_reducible refine A8 105 ?_); (refine' CallP.sf ?_ (h1) ?_); (focus first | (with_reducible exact A0 _) | (simp [A5, A4, A1, A0]; done))) | (with_reducible first | exact AI | refine AQ ?_ | intro _g _hg | refine A9 ?_ ?_ | intro _hc) | omega)
    all_goals exact A1 _
   ·simp only [Bool.true_and]
    refine A6 Tryz.func106 SD rfl fun n H hH => ?_
    repeat' (first | simp -implicitDefEqProofs [Dd, Dq, De, Dt, Dm, Sf, -getElem?_pos, h8'] | simp (disch := omega) only [AA] | ((with_reducible refine A8 105 ?_); (refine' CallP.sf ?_ (h1) ?_); (focus first | (with_reducible exact A0 _) | (simp [A5, A4, A1, A0]; done))) | (with_reducible first | exact AI | refine AQ ?_ | intro _g _hg | refine A9 ?_ ?_ | intro _hc) | omega)
    refine LoopK.go (fun m st => ∃ (k : Nat), k + m = t.length ∧ st = ⟨[(0, CG (h :: t)), (3, aI (k + 1 : Nat))], n, H⟩ ∧ z = (t.drop k).all fun s => Ho s || UH s) t.length ⟨0, by omega, rfl, by rw [← hz]; rfl⟩ ?_
    rintro m st ⟨k, hkm, rfl, hE⟩ J hJ
    clear hz e
    by_cases hk : k < t.length
    ·obtain ⟨y, hy⟩ : ∃ y, t[k]? = some y := ⟨_, List.getElem?_eq_getElem hk⟩
     have hyb := hb y (List.mem_cons_of_mem _ (List.mem_of_getElem? hy))
     rw [drop_at hy, List.all_cons] at hE
     have hi := Lt y hyb
     have hx := ZJ y hyb
     have hk' : ((k + 1 : Nat) : Int) < (t.length : Int) + 1 := by omega
     have hk2 : (k : Int) + 1 < (t.length : Int) + 1 := by omega
     generalize Ho y = bi at *
     generalize UH y = bx at *
     cases bi
     ·cases bx
      ·repeat' (first | simp -implicitDefEqProofs [Dd, Dq, De, Dt, Dm, Sf, -getElem?_pos, hy, hk', hk2] | simp (disch := omega) only [AA] | ((with_reducible refine A8 105 ?_); (refine' CallP.sf ?_ (hi) ?_); (focus first | (with_reducible exact A0 _) | (simp [A5, A4, A1, A0]; done))) | ((with_reducible refine A8 143 ?_); (refine' CallP.sf ?_ (hx) ?_); (focus first | (with_reducible exact A0 _) | (simp [A5, A4, A1, A0]; done))) | (with_reducible first | exact AI | refine AQ ?_ | intro _g _hg | refine A9 ?_ ?_ | intro _hc) | omega)
       all_goals (refine Ab ?_; rw [hE]; rfl)
      ·repeat' (first | simp -implicitDefEqProofs [Dd, Dq, De, Dt, Dm, Sf, -getElem?_pos, hy, hk', hk2] | simp (disch := omega) only [AA] | ((with_reducible refine A8 105 ?_); (refine' CallP.sf ?_ (hi) ?_); (focus first | (with_reducible exact A0 _) | (simp [A5, A4, A1, A0]; done))) | ((with_reducible refine A8 143 ?_); (refine' CallP.sf ?_ (hx) ?_); (focus first | (with_reducible exact A0 _) | (simp [A5, A4, A1, A0]; done))) | (with_reducible first | exact AI | refine AQ ?_ | intro _g _hg | refine A9 ?_ ?_ | intro _hc) | omega)
       all_goals (exact hJ (m - 1) _ (by omega) ⟨k + 1, by omega, rfl, by rw [hE]; rfl⟩)
     ·repeat' (first | simp -implicitDefEqProofs [Dd, Dq, De, Dt, Dm, Sf, -getElem?_pos, hy, hk', hk2] | simp (disch := omega) only [AA] | ((with_reducible refine A8 105 ?_); (refine' CallP.sf ?_ (hi) ?_); (focus first | (with_reducible exact A0 _) | (simp [A5, A4, A1, A0]; done))) | ((with_reducible refine A8 143 ?_); (refine' CallP.sf ?_ (hx) ?_); (focus first | (with_reducible exact A0 _) | (simp [A5, A4, A1, A0]; done))) | (with_reducible first | exact AI | refine AQ ?_ | intro _g _hg | refine A9 ?_ ?_ | intro _hc) | omega)
      all_goals (exact hJ (m - 1) _ (by omega) ⟨k + 1, by omega, rfl, by rw [hE]; rfl⟩)
    ·have hk0 : k = t.length := by omega
     subst hk0
     have hk' : ¬ ((t.length + 1 : Nat) : Int) < (t.length : Int) + 1 := by omega
     rw [List.drop_length] at hE
     rw [hE]
     repeat' (first | simp -implicitDefEqProofs [Dd, Dq, De, Dt, Dm, Sf, -getElem?_pos, hk'] | simp (disch := omega) only [AA] | (with_reducible first | exact AI | refine AQ ?_ | intro _g _hg | refine A9 ?_ ?_ | intro _hc) | omega)
     all_goals exact A1 _
  ·rw [decide_eq_false h8]
   have h8' : (8 : Int) < (t.length : Int) + 1 := by omega
   simp only [Bool.false_and]
   refine A6 Tryz.func106 SD rfl fun n H hH => ?_
   repeat' (first | simp -implicitDefEqProofs [Dd, Dq, De, Dt, Dm, Sf, -getElem?_pos, h8'] | simp (disch := omega) only [AA] | ((with_reducible refine A8 105 ?_); (refine' CallP.sf ?_ (h1) ?_); (focus first | (with_reducible exact A0 _) | (simp [A5, A4, A1, A0]; done))) | (with_reducible first | exact AI | refine AQ ?_ | intro _g _hg | refine A9 ?_ ?_ | intro _hc) | omega)
   all_goals exact A1 _
theorem Ro (s : AE) : APure Tryz.prog 37 [.str s] (aI (IA s : Nat)) := by
 have h1 : IA s = if s = QJ then 1 else if s = PD then 1 else if s = TH then 1 else if s = Ln then 1 else if s = Xr then 2 else if s = QA then 2 else if s = Ya then 2 else 0 := by
  unfold IA fk1 fk2
  simp only [List.mem_cons, List.not_mem_nil, or_false]
  grind
 obtain ⟨z, hz⟩ : ∃ z, IA s = z := ⟨_, rfl⟩
 rw [hz] at h1 ⊢
 unfold QJ PD TH Ln Xr QA Ya at h1
 refine A6 Tryz.func37 A5o rfl fun n H hH => ?_
 repeat' (first | simp -implicitDefEqProofs [Ws, WI, c37, -getElem?_pos] | simp (disch := omega) only [AA] | (with_reducible first | exact AI | refine AQ ?_ | intro _g _hg | refine A9 ?_ ?_ | intro _hc) | omega)
 all_goals (refine Ab ?_; grind)
def SJ : List (AV × AV) := [(.str [117, 112, 112, 101, 114], .bool false), (.str [108, 111, 119, 101, 114], .bool false), (.str [116, 114, 105, 109], .bool false), (.str [106, 115, 111, 110], .bool false), (.str [112, 97, 100], .bool true), (.str [114, 105, 103, 104, 116], .bool true), (.str [99, 117, 116], .bool true)]
theorem En (n : Nat) (H : A3) : ACalls Tryz.prog 64 [] n H fun r n' H' => ∃ g, n ≤ g ∧ n' = g + 1 ∧ r = .mp g ∧ H' = upd H g (some (.map none SJ)) := by
 refine AK Tryz.func64 A63 rfl fun hs => ?_
 repeat' (first | simp -implicitDefEqProofs [c64, -getElem?_pos] | simp (disch := omega) only [AA] | (with_reducible first | exact AI | refine A6g ?_ | intro _g _hg | refine A9 ?_ ?_ | intro _hc) | omega)
 simp only [DK]
 exact Bi (r := .mp _) rfl (by omega) (fun k hk => by rw [upd_ne (by omega)]; exact hs k (by omega)) ⟨_, by omega, rfl, rfl, rfl⟩
theorem Pw (s : AE) : BR (.str s) SJ = if IA s = 0 then none else some (.bool (decide (IA s = 2))) := by
 simp only [SJ, BR, DZ]
 unfold IA fk1 fk2 QJ PD TH Ln Xr QA Ya
 simp only [List.mem_cons, List.not_mem_nil, or_false, decide_eq_true_eq]
 by_cases h1 : s = [117, 112, 112, 101, 114]
 ·simp [h1]
 by_cases h2 : s = [108, 111, 119, 101, 114]
 ·simp [h2]
 by_cases h3 : s = [116, 114, 105, 109]
 ·simp [h3]
 by_cases h4 : s = [106, 115, 111, 110]
 ·simp [h4]
 by_cases h5 : s = [112, 97, 100]
 ·simp [h5]
 by_cases h6 : s = [114, 105, 103, 104, 116]
 ·simp [h6]
 by_cases h7 : s = [99, 117, 116]
 ·simp [h7]
 simp [h1, h2, h3, h4, h5, h6, h7]
theorem Cb {lo : Nat} {gs : List Nat} {d : Option Nat} {K : AS → Prop} {e : AH} {n : Nat} {H : A3} (hs : ∀ k, n ≤ k → H k = none) (hk : ∀ g n', n ≤ g → (n' = 0 ∨ n' = g + 1) → K ⟨AD e d (.mp g), n', upd H g (some (.map none SJ))⟩) : exM Tryz.prog .early lo gs d 64 [] K ⟨e, n, H⟩ (CallK Tryz.prog 64 [] d (KC gs H K) ⟨e, n, H⟩) := by
 refine ⟨fun m => ⟨.mp (max n m), 0, _, KeepM.new (hs _ (by omega)), fun k ob hk _ h => ?_, hk (max n m) 0 (by omega) (.inl rfl)⟩, _, En n H, ?_⟩
 ·rw [← h]; exact Cq (by simp only [upd]; rw [if_neg (by omega)])
 ·rintro r n' H' hle hsup ⟨g, h1, h2, rfl, rfl⟩
  exact ⟨KeepM.new (hs g h1), hk g n' h1 (.inr h2)⟩
theorem EA {gs : List Nat} {ops : List AOper} {K : AS → Prop} {e : AH} {n : Nat} {H : A3} (h : A7 Tryz.prog .early n gs ops (dryK .early K) ⟨e, n, H⟩) : gsM Tryz.prog .early gs ops K ⟨e, n, H⟩ := ⟨[], h⟩
theorem Fk {K : AS → Prop} {e : AH} {n' g : Nat} {H : A3} {ob : AObj} (hn : n' = 0 ∨ n' = g + 1) (hg : H g = some ob) (hk : n' = g + 1 → K ⟨e, n', H⟩) : dryK .early K ⟨e, n', H⟩ := by
 rcases hn with h | h
 ·exact .inl ⟨g, by simp only; omega, by simp only; rw [hg]; simp⟩
 ·exact .inr (hk h)
theorem HO (s : AE) : IA s = 0 ∨ IA s = 1 ∨ IA s = 2 := by
 unfold IA
 (repeat' split) <;> simp
theorem Px {l : List (AE × Int)} {i : Nat} {x : AE × Int} (h : l[i]? = some x) : (l.map WG)[i]? = some (WG x) := by rw [List.getElem?_map, h]; rfl
theorem J3 (k : Int) (t nm : AE) (pa : List AE) (fs : List (AE × Int)) (lb le : List AV) (hpa : ∀ s ∈ pa, s.length ≤ 2000000) (hpl : pa.length ≤ 2000000) (hn : nm.length ≤ 2000000) (hf : fs.length ≤ 2000000) :
  APure Tryz.prog 68 [.agg [aI k, .str t, .str nm, CG pa, Aq fs, .sl 7 lb .ro, .sl 7 le .ro]] (aI (Gu k nm pa fs)) := by
 have h1 := Rx nm hn
 have h2 := YL pa hpa (by omega)
 have hA : Gu k nm pa fs = if (k = 4 ∧ Ho nm = false) ∨ (k ≠ 1 ∧ B5 pa = false) then 7 else if 8 < fs.length then 2 else ID 0 fs := rfl
 rw [hA]
 generalize Ho nm = b1 at *
 generalize B5 pa = b2 at *
 obtain ⟨z, hz⟩ : ∃ z, (if 8 < fs.length then 2 else ID 0 fs) = z := ⟨_, rfl⟩
 rw [hz]
 refine A6 Tryz.func68 A6a rfl fun n H hH => ?_
 have fin : ∀ g e, n ≤ g → get e 1 = .ptr g 0 → aw Tryz.prog c68_k8 (Ga (aI z) n H c68.res) ⟨e, g + 1, upd H g (some (.cells 55 [aI k, .str t, .str nm, CG pa, Aq fs, .sl 7 lb .ro, .sl 7 le .ro]))⟩ := by
  clear h1 h2 hA
  intro g e hg he
  by_cases h8 : (8 : Int) < fs.length
  ·rw [if_pos (by omega)] at hz
   subst hz
   repeat' (first | simp -implicitDefEqProofs [CQ, Cg, Cd, CT, Cf, CY, CV, CI, c68, -getElem?_pos, he, h8] | simp (disch := omega) only [AA] | (with_reducible first | exact AI | refine BT ?_ | intro _g _hg | refine A9 ?_ ?_ | intro _hc) | omega)
   all_goals exact A1 _
  ·rw [if_neg (by omega)] at hz
   repeat' (first | simp -implicitDefEqProofs [CQ, Cg, Cd, CT, Cf, CY, CV, CI, c68, -getElem?_pos, he, h8] | simp (disch := omega) only [AA] | (with_reducible first | exact AI | refine BT ?_ | intro _g _hg | refine A9 ?_ ?_ | intro _hc) | omega)
   refine LoopK.go (fun m st => ∃ (i n' : Nat) (H' : A3), i + m = fs.length ∧ st = ⟨[(32, Aq fs), (33, aI fs.length), (34, aI i)], n', H'⟩ ∧ n ≤ n' ∧ SameB n H H' ∧ (∀ q, n' ≤ q → H' q = none) ∧ z = ID i (fs.drop i)) fs.length ⟨0, _, _, by omega, rfl, by omega, (SameB.rfl_ n H).upd hg _, fun q hq => by rw [upd_ne (by omega)]; exact hH q (by omega), hz.symm⟩ ?_
   rintro m st ⟨i, n1, H1, him, rfl, hn1, hS, hsup, hE⟩ J hJ
   clear hz he
   by_cases hi : i < fs.length
   ·obtain ⟨x, hx⟩ : ∃ x, fs[i]? = some x := ⟨_, List.getElem?_eq_getElem hi⟩
    have hx2 := Px hx
    have hi' : (i : Int) < fs.length := by omega
    rw [drop_at hx, ID] at hE
    have hm := Pw x.1
    have hk3 := HO x.1
    have hj : x.1 = Ln ↔ x.1 = [106, 115, 111, 110] := Iff.rfl
    obtain ⟨a, b⟩ := x
    simp only at hE hm hk3 hj
    generalize IA a = c at *
    rcases hk3 with rfl | rfl | rfl
    ·simp only [if_true] at hE hm
     repeat' (first | simp -implicitDefEqProofs [CQ, Cg, Cd, CT, Cf, CY, CV, CI, c68, -getElem?_pos, splice, hm, hx2, hi'] | simp (disch := omega) only [AA] | ((with_reducible refine EA ?_)) | ((refine Cb ?_ ?_); (focus (intro q hq; simp only [DK]; rw [upd_ne (by omega)]; exact hsup q (by omega))); intro _gm _nm _hgm _hnm) | ((refine Fk _hnm (AN _ _ _) ?_); intro _hn2; subst _hn2) | (with_reducible first | exact AI | refine BT ?_ | intro _g _hg | refine A9 ?_ ?_ | intro _hc) | omega)
     all_goals (refine Ab ?_; rw [hE])
    ·simp only [show ¬ ((1 : Nat) = 0) by decide, show ¬ ((1 : Nat) = 2) by decide, show ¬ ((2 : Nat) = 0) by decide, show ¬ ((2 : Nat) = 1) by decide, if_false, decide_true, decide_false, true_and, false_and, or_false] at hE hm
     by_cases hr : (b < 0 ∨ 200 < b) ∨ b ≠ 0
     ·rw [if_pos hr] at hE
      repeat' (first | simp -implicitDefEqProofs [CQ, Cg, Cd, CT, Cf, CY, CV, CI, c68, -getElem?_pos, splice, hm, hx2, hi'] | simp (disch := omega) only [AA] | ((with_reducible refine EA ?_)) | ((refine Cb ?_ ?_); (focus (intro q hq; simp only [DK]; rw [upd_ne (by omega)]; exact hsup q (by omega))); intro _gm _nm _hgm _hnm) | ((refine Fk _hnm (AN _ _ _) ?_); intro _hn2; subst _hn2) | (with_reducible first | exact AI | refine BT ?_ | intro _g _hg | refine A9 ?_ ?_ | intro _hc) | omega)
      all_goals first | (refine Ab ?_; rw [hE]; done) | (exfalso; omega) | skip
     ·rw [if_neg hr] at hE
      have r1 : ¬ b < 0 := by omega
      have r2 : ¬ 200 < b := by omega
      have r3 : b = 0 := by omega
      by_cases hjn : 0 < i ∧ a = Ln
      ·rw [if_pos hjn] at hE
       obtain ⟨j1, j2⟩ := hjn
       have j1' : (0 : Int) < i := by omega
       rw [hj] at j2
       subst j2
       repeat' (first | simp -implicitDefEqProofs [CQ, Cg, Cd, CT, Cf, CY, CV, CI, c68, -getElem?_pos, splice, hm, hx2, hi', r1, r2, r3, j1'] | simp (disch := omega) only [AA] | ((with_reducible refine EA ?_)) | ((refine Cb ?_ ?_); (focus (intro q hq; simp only [DK]; rw [upd_ne (by omega)]; exact hsup q (by omega))); intro _gm _nm _hgm _hnm) | ((refine Fk _hnm (AN _ _ _) ?_); intro _hn2; subst _hn2) | (with_reducible first | exact AI | refine BT ?_ | intro _g _hg | refine A9 ?_ ?_ | intro _hc) | omega)
       all_goals (refine Ab ?_; rw [hE])
      ·rw [if_neg hjn] at hE
       have hjn' : ¬ (0 < (i : Int) ∧ a = [106, 115, 111, 110]) := fun h => hjn ⟨by omega, hj.2 h.2⟩
       by_cases j2 : a = [106, 115, 111, 110]
       ·have j1' : ¬ (0 : Int) < i := fun h => hjn' ⟨h, j2⟩
        subst j2
        repeat' (first | simp -implicitDefEqProofs [CQ, Cg, Cd, CT, Cf, CY, CV, CI, c68, -getElem?_pos, splice, hm, hx2, hi', r1, r2, r3, j1'] | simp (disch := omega) only [AA] | ((with_reducible refine EA ?_)) | ((refine Cb ?_ ?_); (focus (intro q hq; simp only [DK]; rw [upd_ne (by omega)]; exact hsup q (by omega))); intro _gm _nm _hgm _hnm) | ((refine Fk _hnm (AN _ _ _) ?_); intro _hn2; subst _hn2) | (with_reducible first | exact AI | refine BT ?_ | intro _g _hg | refine A9 ?_ ?_ | intro _hc) | omega)
        exact hJ (m - 1) _ (by omega) ⟨i + 1, _, _, by omega, rfl, by omega, ((hS.upd (by omega) _).upd (by omega) _).upd (by omega) _, fun q hq => by rw [upd_ne (by omega), upd_ne (by omega), upd_ne (by omega)]; exact hsup q (by omega), by rw [hE]⟩
       ·repeat' (first | simp -implicitDefEqProofs [CQ, Cg, Cd, CT, Cf, CY, CV, CI, c68, -getElem?_pos, splice, hm, hx2, hi', r1, r2, r3, j2] | simp (disch := omega) only [AA] | ((with_reducible refine EA ?_)) | ((refine Cb ?_ ?_); (focus (intro q hq; simp only [DK]; rw [upd_ne (by omega)]; exact hsup q (by omega))); intro _gm _nm _hgm _hnm) | ((refine Fk _hnm (AN _ _ _) ?_); intro _hn2; subst _hn2) | (with_reducible first | exact AI | refine BT ?_ | intro _g _hg | refine A9 ?_ ?_ | intro _hc) | omega)
        exact hJ (m - 1) _ (by omega) ⟨i + 1, _, _, by omega, rfl, by omega, ((hS.upd (by omega) _).upd (by omega) _).upd (by omega) _, fun q hq => by rw [upd_ne (by omega), upd_ne (by omega), upd_ne (by omega)]; exact hsup q (by omega), by rw [hE]⟩
    ·simp only [show ¬ ((1 : Nat) = 0) by decide, show ¬ ((1 : Nat) = 2) by decide, show ¬ ((2 : Nat) = 0) by decide, show ¬ ((2 : Nat) = 1) by decide, if_false, decide_true, decide_false, true_and, false_and, or_false] at hE hm
     by_cases hr : b < 0 ∨ 200 < b
     ·rw [if_pos hr] at hE
      repeat' (first | simp -implicitDefEqProofs [CQ, Cg, Cd, CT, Cf, CY, CV, CI, c68, -getElem?_pos, splice, hm, hx2, hi'] | simp (disch := omega) only [AA] | ((with_reducible refine EA ?_)) | ((refine Cb ?_ ?_); (focus (intro q hq; simp only [DK]; rw [upd_ne (by omega)]; exact hsup q (by omega))); intro _gm _nm _hgm _hnm) | ((refine Fk _hnm (AN _ _ _) ?_); intro _hn2; subst _hn2) | (with_reducible first | exact AI | refine BT ?_ | intro _g _hg | refine A9 ?_ ?_ | intro _hc) | omega)
      all_goals first | (refine Ab ?_; rw [hE]; done) | (exfalso; omega) | skip
     ·rw [if_neg hr] at hE
      have r1 : ¬ b < 0 := by omega
      have r2 : ¬ 200 < b := by omega
      by_cases hjn : 0 < i ∧ a = Ln
      ·rw [if_pos hjn] at hE
       obtain ⟨j1, j2⟩ := hjn
       have j1' : (0 : Int) < i := by omega
       rw [hj] at j2
       subst j2
       repeat' (first | simp -implicitDefEqProofs [CQ, Cg, Cd, CT, Cf, CY, CV, CI, c68, -getElem?_pos, splice, hm, hx2, hi', r1, r2, j1'] | simp (disch := omega) only [AA] | ((with_reducible refine EA ?_)) | ((refine Cb ?_ ?_); (focus (intro q hq; simp only [DK]; rw [upd_ne (by omega)]; exact hsup q (by omega))); intro _gm _nm _hgm _hnm) | ((refine Fk _hnm (AN _ _ _) ?_); intro _hn2; subst _hn2) | (with_reducible first | exact AI | refine BT ?_ | intro _g _hg | refine A9 ?_ ?_ | intro _hc) | omega)
       all_goals (refine Ab ?_; rw [hE])
      ·rw [if_neg hjn] at hE
       have hjn' : ¬ (0 < (i : Int) ∧ a = [106, 115, 111, 110]) := fun h => hjn ⟨by omega, hj.2 h.2⟩
       by_cases j2 : a = [106, 115, 111, 110]
       ·have j1' : ¬ (0 : Int) < i := fun h => hjn' ⟨h, j2⟩
        subst j2
        repeat' (first | simp -implicitDefEqProofs [CQ, Cg, Cd, CT, Cf, CY, CV, CI, c68, -getElem?_pos, splice, hm, hx2, hi', r1, r2, j1'] | simp (disch := omega) only [AA] | ((with_reducible refine EA ?_)) | ((refine Cb ?_ ?_); (focus (intro q hq; simp only [DK]; rw [upd_ne (by omega)]; exact hsup q (by omega))); intro _gm _nm _hgm _hnm) | ((refine Fk _hnm (AN _ _ _) ?_); intro _hn2; subst _hn2) | (with_reducible first | exact AI | refine BT ?_ | intro _g _hg | refine A9 ?_ ?_ | intro _hc) | omega)
        exact hJ (m - 1) _ (by omega) ⟨i + 1, _, _, by omega, rfl, by omega, ((hS.upd (by omega) _).upd (by omega) _).upd (by omega) _, fun q hq => by rw [upd_ne (by omega), upd_ne (by omega), upd_ne (by omega)]; exact hsup q (by omega), by rw [hE]⟩
       ·repeat' (first | simp -implicitDefEqProofs [CQ, Cg, Cd, CT, Cf, CY, CV, CI, c68, -getElem?_pos, splice, hm, hx2, hi', r1, r2, j2] | simp (disch := omega) only [AA] | ((with_reducible refine EA ?_)) | ((refine Cb ?_ ?_); (focus (intro q hq; simp only [DK]; rw [upd_ne (by omega)]; exact hsup q (by omega))); intro _gm _nm _hgm _hnm) | ((refine Fk _hnm (AN _ _ _) ?_); intro _hn2; subst _hn2) | (with_reducible first | exact AI | refine BT ?_ | intro _g _hg | refine A9 ?_ ?_ | intro _hc) | omega)
        exact hJ (m - 1) _ (by omega) ⟨i + 1, _, _, by omega, rfl, by omega, ((hS.upd (by omega) _).upd (by omega) _).upd (by omega) _, fun q hq => by rw [upd_ne (by omega), upd_ne (by omega), upd_ne (by omega)]; exact hsup q (by omega), by rw [hE]⟩
   ·have hi0 : i = fs.length := by omega
    subst hi0
    have hi' : ¬ (fs.length : Int) < fs.length := by omega
    rw [List.drop_length] at hE
    rw [hE]
    repeat' (first | simp -implicitDefEqProofs [CQ, Cg, Cd, CT, Cf, CY, CV, CI, c68, -getElem?_pos, hi', ID] | simp (disch := omega) only [AA] | (with_reducible first | exact AI | refine BT ?_ | intro _g _hg | refine A9 ?_ ?_ | intro _hc) | omega)
    all_goals exact A1 _
 by_cases k4 : k = 4
 ·cases b1
  ·rw [if_pos (.inl ⟨k4, rfl⟩)]
   repeat' (first | simp -implicitDefEqProofs [c68, -getElem?_pos, k4] | simp (disch := omega) only [AA] | ((with_reducible refine A8 107 ?_); (refine' CallP.sf ?_ (h1) ?_); (focus first | (with_reducible exact A0 _) | (simp [A5, A4, A1, A0]; done))) | ((with_reducible refine A8 108 ?_); (refine' CallP.sf ?_ (h2) ?_); (focus first | (with_reducible exact A0 _) | (simp [A5, A4, A1, A0]; done))) | (with_reducible first | exact AI | refine BT ?_ | intro _g _hg | refine A9 ?_ ?_ | intro _hc) | omega)
   all_goals exact A1 _
  ·have k1 : k ≠ 1 := by omega
   cases b2
   ·rw [if_pos (.inr ⟨k1, rfl⟩)]
    repeat' (first | simp -implicitDefEqProofs [c68, -getElem?_pos, k4] | simp (disch := omega) only [AA] | ((with_reducible refine A8 107 ?_); (refine' CallP.sf ?_ (h1) ?_); (focus first | (with_reducible exact A0 _) | (simp [A5, A4, A1, A0]; done))) | ((with_reducible refine A8 108 ?_); (refine' CallP.sf ?_ (h2) ?_); (focus first | (with_reducible exact A0 _) | (simp [A5, A4, A1, A0]; done))) | (with_reducible first | exact AI | refine BT ?_ | intro _g _hg | refine A9 ?_ ?_ | intro _hc) | omega)
    all_goals exact A1 _
   ·rw [if_neg (by simp)]
    repeat' (first | simp -implicitDefEqProofs [c68, -getElem?_pos, k4] | simp (disch := omega) only [AA] | ((with_reducible refine A8 107 ?_); (refine' CallP.sf ?_ (h1) ?_); (focus first | (with_reducible exact A0 _) | (simp [A5, A4, A1, A0]; done))) | ((with_reducible refine A8 108 ?_); (refine' CallP.sf ?_ (h2) ?_); (focus first | (with_reducible exact A0 _) | (simp [A5, A4, A1, A0]; done))) | (with_reducible first | exact AI | refine BT ?_ | intro _g _hg | refine A9 ?_ ?_ | intro _hc) | omega)
    all_goals (subst k4; exact fin _ _ (by assumption) rfl)
 ·by_cases k1 : k = 1
  ·rw [if_neg (by simp [k4, k1])]
   repeat' (first | simp -implicitDefEqProofs [c68, -getElem?_pos, k1] | simp (disch := omega) only [AA] | ((with_reducible refine A8 107 ?_); (refine' CallP.sf ?_ (h1) ?_); (focus first | (with_reducible exact A0 _) | (simp [A5, A4, A1, A0]; done))) | ((with_reducible refine A8 108 ?_); (refine' CallP.sf ?_ (h2) ?_); (focus first | (with_reducible exact A0 _) | (simp [A5, A4, A1, A0]; done))) | (with_reducible first | exact AI | refine BT ?_ | intro _g _hg | refine A9 ?_ ?_ | intro _hc) | omega)
   all_goals (subst k1; exact fin _ _ (by assumption) rfl)
  ·cases b2
   ·rw [if_pos (.inr ⟨k1, rfl⟩)]
    repeat' (first | simp -implicitDefEqProofs [c68, -getElem?_pos, k4, k1] | simp (disch := omega) only [AA] | ((with_reducible refine A8 107 ?_); (refine' CallP.sf ?_ (h1) ?_); (focus first | (with_reducible exact A0 _) | (simp [A5, A4, A1, A0]; done))) | ((with_reducible refine A8 108 ?_); (refine' CallP.sf ?_ (h2) ?_); (focus first | (with_reducible exact A0 _) | (simp [A5, A4, A1, A0]; done))) | (with_reducible first | exact AI | refine BT ?_ | intro _g _hg | refine A9 ?_ ?_ | intro _hc) | omega)
    all_goals exact A1 _
   ·rw [if_neg (by simp [k4])]
    repeat' (first | simp -implicitDefEqProofs [c68, -getElem?_pos, k4, k1] | simp (disch := omega) only [AA] | ((with_reducible refine A8 107 ?_); (refine' CallP.sf ?_ (h1) ?_); (focus first | (with_reducible exact A0 _) | (simp [A5, A4, A1, A0]; done))) | ((with_reducible refine A8 108 ?_); (refine' CallP.sf ?_ (h2) ?_); (focus first | (with_reducible exact A0 _) | (simp [A5, A4, A1, A0]; done))) | (with_reducible first | exact AI | refine BT ?_ | intro _g _hg | refine A9 ?_ ?_ | intro _hc) | omega)
    all_goals exact fin _ _ (by assumption) rfl
theorem Ld {P : Program} {f : Nat} {args : List AV} {n : Nat} {H : A3} {R R' : Gk} (h : ACalls P f args n H R) (k : ∀ r n' H', R r n' H' → R' r n' H') : ACalls P f args n H R' := fun hs w0 G w vs hl hr hv => (h hs w0 G w vs hl hr hv).mono fun e w' ⟨v, r, G', n', H', e1, e2, e3⟩ => ⟨v, r, G', n', H', e1, k _ _ _ e2, e3⟩
def Bs (n0 : Nat) (H0 : A3) (g : Nat) (b : AE) (bs : List (Nat × AObj)) (n : Nat) (H : A3) : Prop :=
 ∃ a0 xb, Owns n0 H0 ((g, bOb a0 xb) :: bs) [Zr xb b] n H ∧ (a0 = .np ∨ a0 = .ptr g 0) ∧ (∀ x ∈ bs, x.1 ≠ g) ∧ (b = [] → ∃ z, xb = .sl z [] .nil)
def JG (n : Nat) (H : A3) : List (Nat × AObj) → Prop
 | [] => True
 | (g, ob) :: r => (H g = some ob ∧ g < n) ∧ JG n H r
section
variable {n0 g n : Nat} {H0 H : A3} {b : AE} {bs : List (Nat × AObj)}
theorem Bs.le (h : Bs n0 H0 g b bs n H) : n0 ≤ n := by obtain ⟨_, _, h, _⟩ := h; exact h.le
theorem Bs.same (h : Bs n0 H0 g b bs n H) : SameB n0 H0 H := by obtain ⟨_, _, h, _⟩ := h; exact h.same
theorem Bs.sup (h : Bs n0 H0 g b bs n H) : ∀ q, n ≤ q → H q = none := by obtain ⟨_, _, h, _⟩ := h; exact h.mem.sup
theorem Bs.at_ (h : Bs n0 H0 g b bs n H) {g5 : Nat} {ob : AObj} (hm : (g5, ob) ∈ bs) : H g5 = some ob ∧ g5 < n := by
 obtain ⟨_, _, h, _⟩ := h
 have h1 := (h.box _ (List.mem_cons_of_mem _ hm)).1
 exact ⟨h1, h.mem.lt h1⟩
theorem Bs.facts (h : Bs n0 H0 g b bs n H) : JG n H bs := by
 have key : ∀ l : List (Nat × AObj), (∀ x ∈ l, x ∈ bs) → JG n H l := by
  intro l
  induction l with
  | nil => intro _; trivial
  | cons x r ih =>
   intro hl
   obtain ⟨g5, ob⟩ := x
   have hx : (g5, ob) ∈ bs := hl _ List.mem_cons_self
   exact ⟨Bs.at_ h hx, ih fun y hy => hl y (List.mem_cons_of_mem _ hy)⟩
 exact key bs fun _ h => h
theorem Bs.lt (h : Bs n0 H0 g b bs n H) : g < n ∧ n0 ≤ g := by
 obtain ⟨_, _, h, _⟩ := h
 obtain ⟨h1, h2, _⟩ := h.box _ List.mem_cons_self
 exact ⟨h.mem.lt h1, h2⟩
theorem Bs.less {bs' : List (Nat × AObj)} (h : Bs n0 H0 g b bs n H) (hs : ∀ x ∈ bs', x ∈ bs) : Bs n0 H0 g b bs' n H := by
 obtain ⟨a0, xb, h, h1, h2, h3⟩ := h
 refine ⟨a0, xb, ⟨h.mem, fun x hx => ?_, h.row, h.apart⟩, h1, fun x hx => h2 x (hs x hx), h3⟩
 rcases List.mem_cons.1 hx with rfl | hx
 ·exact h.box _ List.mem_cons_self
 ·exact h.box _ (List.mem_cons_of_mem _ (hs _ hx))
theorem Bs.add (h : Bs n0 H0 g b bs n H) {g5 : Nat} (hg : n ≤ g5) (ob : AObj) (hr : ∀ e m, ob ≠ .row e m) : Bs n0 H0 g b ((g5, ob) :: bs) (g5 + 1) (upd H g5 (some ob)) := by
 have hl := h.lt
 obtain ⟨a0, xb, h, h1, h2, h3⟩ := h
 have h' := h.addOb hg ob hr
 refine ⟨a0, xb, ⟨h'.mem, fun x hx => ?_, h'.row, h'.apart⟩, h1, fun x hx => ?_, h3⟩
 ·refine h'.box x ?_
  simp only [List.mem_cons] at hx ⊢
  rcases hx with h | h | h
  ·exact .inr (.inl h)
  ·exact .inl h
  ·exact .inr (.inr h)
 ·rcases List.mem_cons.1 hx with rfl | hx
  ·simp only; omega
  ·exact h2 x hx
theorem Bs.add2 (h : Bs n0 H0 g b bs n H) {g5 : Nat} (hg : n ≤ g5) (ob0 : Option AObj) (e : TypeId) (cs : List AV) : Bs n0 H0 g b ((g5, .cells e cs) :: bs) (g5 + 1) (upd (upd H g5 ob0) g5 (some (.cells e cs))) := by
 rw [DK]; exact h.add hg _ (by intro e m h; cases h)
theorem Bs.start (hs : ∀ k, n ≤ k → H k = none) (hg : n ≤ g) : Bs n H g [] [] (g + 1) (upd H g (some (bOb .np (.sl 0 [] .nil)))) :=
 ⟨.np, .sl 0 [] .nil, ((Owns.start hs).addBox hg _ _).addNil _ _ _, .inl rfl, by simp, fun _ => ⟨0, rfl⟩⟩
theorem Bs.write (h : Bs n0 H0 g b bs n H) (c : AE) (hc : c ≠ [] ∨ b ≠ []) (hlen : b.length + c.length ≤ 1000000000000) :
  ACalls Tryz.prog 62 [.ptr g 0, .str c] n H fun _ n' H' => n ≤ n' ∧ Bs n0 H0 g (b ++ c) bs n' H' := by
 obtain ⟨a0, xb, h, h1, h2, h3⟩ := h
 refine Ld (QZ c h h1 h2 hlen) fun r n' H' ⟨_, hle, xb', hO⟩ => ⟨hle, _, xb', hO, .inr rfl, h2, fun e => ?_⟩
 have := List.append_eq_nil_iff.1 e
 rcases hc with hc | hc
 ·exact absurd this.2 hc
 ·exact absurd this.1 hc
theorem Bs.rel {b' : AE} (e : b = b') (h : Bs n0 H0 g b bs n H) : Bs n0 H0 g b' bs n H := e ▸ h
theorem Bs.str (h : Bs n0 H0 g b bs n H) (hlen : b.length ≤ 1000000000) : APureAt Tryz.prog 47 [.ptr g 0] n H (.str b) := by
 obtain ⟨a0, xb, h, h1, h2, h3⟩ := h
 exact Ts h h1 h3 hlen
end
theorem B7 (k : Int) (t n : AE) (pa : List AE) (fs : List (AE × Int)) (b e : List Pt) : Hq (.mk k t n pa fs b e) = .agg [aI k, .str t, .str n, CG pa, Aq fs, .sl 7 (AB b) .ro, .sl 7 (AB e) .ro] := by rw [Hq]
theorem Tx {l : List Pt} {i : Nat} {x : Pt} (h : l[i]? = some x) : DC (l.take (i + 1)) = DC (l.take i) ++ ZP x := by
 rw [List.take_add_one, h, Rp]
 simp [DC]
theorem Sb (l : List Pt) (i : Nat) : (DC (l.take i)).length ≤ (DC l).length := by
 conv => rhs; rw [← List.take_append_drop i l, Rp]
 simp
theorem Vl {l : List (AE × Int)} {i : Nat} {x : AE × Int} (h : l[i]? = some x) : (l.take (i + 1)).flatMap Q5 = (l.take i).flatMap Q5 ++ Q5 x := by
 rw [List.take_add_one, h]
 simp
theorem Yn (fs : List (AE × Int)) (hf : ∀ f ∈ fs, f.1.length ≤ 24 ∧ 0 ≤ f.2 ∧ f.2 ≤ 200) (hfl : fs.length ≤ 8) (n : Nat) (H : A3) (g : Nat) (acc : AE) (hacc : acc ≠ []) (hal : acc.length ≤ 950000000) (v9 v10 v11 : AV) (Q : AExit → AS → Prop)
  (n1 : Nat) (H1 : A3) (hB0 : Bs n H g acc [] n1 H1) (hQ : ∀ n2 H2, Bs n H g (acc ++ fs.flatMap Q5) [] n2 H2 → Q (.exit 3) ⟨[(3, .ptr g 0), (9, v9), (10, v10), (11, v11), (40, Aq fs), (41, aI fs.length), (42, aI fs.length), (43, .bool false)], n2, H2⟩) :
  LoopK (fun Q s => aw Tryz.prog c31_L8 Q s) Q ⟨[(3, .ptr g 0), (9, v9), (10, v10), (11, v11), (40, Aq fs), (41, aI fs.length), (42, aI 0)], n1, H1⟩ := by
 
 refine LoopK.go (fun m st => ∃ (j n2 : Nat) (H2 : A3), j + m = fs.length ∧ st = ⟨[(3, .ptr g 0), (9, v9), (10, v10), (11, v11), (40, Aq fs), (41, aI fs.length), (42, aI j)], n2, H2⟩ ∧ Bs n H g (acc ++ (fs.take j).flatMap Q5) [] n2 H2) fs.length ⟨0, _, _, by omega, rfl, by simpa using hB0⟩ ?_
 clear hB0
 rintro m st ⟨j, n2, H2, hjm, rfl, hB⟩ J hJ
 have _hq : True := trivial
 by_cases hj : j < fs.length
 ·obtain ⟨x, hx⟩ : ∃ x, fs[j]? = some x := ⟨_, List.getElem?_eq_getElem hj⟩
  have hx2 := Px hx
  have hj' : (j : Int) < fs.length := by omega
  have htk := Vl hx
  obtain ⟨f1, f2, f3⟩ := hf x (List.mem_of_getElem? hx)
  have hm := Pw x.1
  have hk3 := HO x.1
  have hln := HP (fs.take j) fun y hy => hf y (List.mem_of_mem_take hy)
  have hl8 : (fs.take j).length ≤ 8 := by simp; omega
  obtain ⟨a, b⟩ := x
  simp only at f1 f2 f3 hm hk3 htk
  have hi := VK b (by omega)
  have hil := Pc (n := b) (by omega)
  have e0 : Q5 (a, b) = 124 :: a ++ if IA a = 2 then 32 :: Lib.itoa b else [] := rfl
  rw [e0] at htk
  clear e0
  have hfr : ((fs.take j).flatMap Q5).length ≤ 300 := by omega
  generalize (fs.take j).flatMap Q5 = fl at *
  generalize Lib.itoa b = ib at *
  generalize IA a = c at *
  have hcl : (acc ++ fl) ≠ [] := by simp [hacc]
  have hcn : (acc ++ fl).length ≤ 950000300 := by simp; omega
  have e1 : acc ++ (fl ++ (124 :: a ++ if c = 2 then 32 :: ib else [])) = (acc ++ fl) ++ (124 :: a) ++ if c = 2 then 32 :: ib else [] := by simp
  generalize acc ++ fl = ac2 at *
  rcases hk3 with rfl | rfl | rfl
  ·simp only [if_true, show ¬ ((0 : Nat) = 2) by decide, if_false, List.append_nil] at hm htk e1
   repeat' (first | simp -implicitDefEqProofs [CO, Ce, CX, CR, CU, CW, Cl, CK, Ci, Bv, Bw, Bu, Bt, VX, -getElem?_pos, splice, hm, hx2, hj', _hq] | simp (disch := omega) only [AA] | ((with_reducible refine Al 62 ?_); (refine ⟨_, Bs.write (by assumption) _ ?_ ?_, ?_⟩); (rotate_left 2); (rintro _ _n2 _H2 _hn2 _hs2 ⟨_hle2, _hB⟩); (have _hq := Bs.facts _hB); (dsimp only [JG] at _hq)) | ((with_reducible refine Al 62 ?_); (refine ⟨_, Bs.write (by exact Bs.add2 (by assumption) (by assumption) _ _ _) _ ?_ ?_, ?_⟩); (rotate_left 2); (rintro _ _n2 _H2 _hn2 _hs2 ⟨_hle2, _hB⟩); (have _hq := Bs.facts _hB); (dsimp only [JG] at _hq)) | ((with_reducible refine Al 62 ?_); (refine ⟨_, Bs.write (by exact Bs.add (by assumption) (by assumption) _ (by intro e m h; cases h)) _ ?_ ?_, ?_⟩); (rotate_left 2); (rintro _ _n2 _H2 _hn2 _hs2 ⟨_hle2, _hB⟩); (have _hq := Bs.facts _hB); (dsimp only [JG] at _hq)) | ((with_reducible refine EA ?_)) | ((refine Cb ?_ ?_); (focus exact Bs.sup (by assumption)); intro _gm _nm _hgm _hnm) | ((refine Fk _hnm (AN _ _ _) ?_); intro _hn2; subst _hn2) | ((with_reducible refine A8 65 ?_); (refine' CallP.sf ?_ (hi) ?_); (focus first | (with_reducible exact A0 _) | (simp [A5, A4, A1, A0]; done))) | (with_reducible first | exact AI | refine AP ?_ | intro _g _hg | refine A9 ?_ ?_ | intro _hc) | omega)
   all_goals exact hJ (m - 1) _ (by omega) ⟨j + 1, _, _, by omega, rfl, by rw [htk, e1]; exact ((Bs.add (by assumption) (by assumption) _ (by intro e m h; cases h))).less (by simp)⟩
  ·simp only [show ¬ ((1 : Nat) = 0) by decide, show ¬ ((1 : Nat) = 2) by decide, if_false, List.append_nil, decide_false] at hm htk e1
   repeat' (first | simp -implicitDefEqProofs [CO, Ce, CX, CR, CU, CW, Cl, CK, Ci, Bv, Bw, Bu, Bt, VX, -getElem?_pos, splice, hm, hx2, hj', _hq] | simp (disch := omega) only [AA] | ((with_reducible refine Al 62 ?_); (refine ⟨_, Bs.write (by assumption) _ ?_ ?_, ?_⟩); (rotate_left 2); (rintro _ _n2 _H2 _hn2 _hs2 ⟨_hle2, _hB⟩); (have _hq := Bs.facts _hB); (dsimp only [JG] at _hq)) | ((with_reducible refine Al 62 ?_); (refine ⟨_, Bs.write (by exact Bs.add2 (by assumption) (by assumption) _ _ _) _ ?_ ?_, ?_⟩); (rotate_left 2); (rintro _ _n2 _H2 _hn2 _hs2 ⟨_hle2, _hB⟩); (have _hq := Bs.facts _hB); (dsimp only [JG] at _hq)) | ((with_reducible refine Al 62 ?_); (refine ⟨_, Bs.write (by exact Bs.add (by assumption) (by assumption) _ (by intro e m h; cases h)) _ ?_ ?_, ?_⟩); (rotate_left 2); (rintro _ _n2 _H2 _hn2 _hs2 ⟨_hle2, _hB⟩); (have _hq := Bs.facts _hB); (dsimp only [JG] at _hq)) | ((with_reducible refine EA ?_)) | ((refine Cb ?_ ?_); (focus exact Bs.sup (by assumption)); intro _gm _nm _hgm _hnm) | ((refine Fk _hnm (AN _ _ _) ?_); intro _hn2; subst _hn2) | ((with_reducible refine A8 65 ?_); (refine' CallP.sf ?_ (hi) ?_); (focus first | (with_reducible exact A0 _) | (simp [A5, A4, A1, A0]; done))) | (with_reducible first | exact AI | refine AP ?_ | intro _g _hg | refine A9 ?_ ?_ | intro _hc) | omega)
   all_goals exact hJ (m - 1) _ (by omega) ⟨j + 1, _, _, by omega, rfl, by rw [htk, e1]; exact ((Bs.add (by assumption) (by assumption) _ (by intro e m h; cases h))).less (by simp)⟩
  ·simp only [show ¬ ((2 : Nat) = 0) by decide, if_false, if_true, decide_true] at hm htk e1
   repeat' (first | simp -implicitDefEqProofs [CO, Ce, CX, CR, CU, CW, Cl, CK, Ci, Bv, Bw, Bu, Bt, VX, -getElem?_pos, splice, hm, hx2, hj', _hq] | simp (disch := omega) only [AA] | ((with_reducible refine Al 62 ?_); (refine ⟨_, Bs.write (by assumption) _ ?_ ?_, ?_⟩); (rotate_left 2); (rintro _ _n2 _H2 _hn2 _hs2 ⟨_hle2, _hB⟩); (have _hq := Bs.facts _hB); (dsimp only [JG] at _hq)) | ((with_reducible refine Al 62 ?_); (refine ⟨_, Bs.write (by exact Bs.add2 (by assumption) (by assumption) _ _ _) _ ?_ ?_, ?_⟩); (rotate_left 2); (rintro _ _n2 _H2 _hn2 _hs2 ⟨_hle2, _hB⟩); (have _hq := Bs.facts _hB); (dsimp only [JG] at _hq)) | ((with_reducible refine Al 62 ?_); (refine ⟨_, Bs.write (by exact Bs.add (by assumption) (by assumption) _ (by intro e m h; cases h)) _ ?_ ?_, ?_⟩); (rotate_left 2); (rintro _ _n2 _H2 _hn2 _hs2 ⟨_hle2, _hB⟩); (have _hq := Bs.facts _hB); (dsimp only [JG] at _hq)) | ((with_reducible refine EA ?_)) | ((refine Cb ?_ ?_); (focus exact Bs.sup (by assumption)); intro _gm _nm _hgm _hnm) | ((refine Fk _hnm (AN _ _ _) ?_); intro _hn2; subst _hn2) | ((with_reducible refine A8 65 ?_); (refine' CallP.sf ?_ (hi) ?_); (focus first | (with_reducible exact A0 _) | (simp [A5, A4, A1, A0]; done))) | (with_reducible first | exact AI | refine AP ?_ | intro _g _hg | refine A9 ?_ ?_ | intro _hc) | omega)
   all_goals exact hJ (m - 1) _ (by omega) ⟨j + 1, _, _, by omega, rfl, by rw [htk, e1]; exact Bs.less (by assumption) (by simp)⟩
 ·have hj0 : j = fs.length := by omega
  subst hj0
  have hj' : ¬ (fs.length : Int) < fs.length := by omega
  rw [List.take_length] at hB
  repeat' (first | simp -implicitDefEqProofs [CO, Ce, CX, CR, CU, CW, Cl, CK, Ci, Bv, Bw, Bu, Bt, VX, -getElem?_pos, hj'] | simp (disch := omega) only [AA] | (with_reducible first | exact AI | refine AP ?_ | intro _g _hg | refine A9 ?_ ?_ | intro _hc) | omega)
  exact hQ _ _ hB
structure PtC (x : Pt) (k : Int) (t nm : AE) (pa : List AE) (fs : List (AE × Int)) (eb ee : List AV) : Prop where
 q1 : t.length ≤ 1048576
 q2 : k = 1 → t ≠ []
 q3 : nm.length ≤ 24
 q4 : pa.length ≤ 8
 q5 : ∀ s ∈ pa, s.length ≤ 24
 q6 : fs.length ≤ 8
 q7 : ∀ f ∈ fs, f.1.length ≤ 24 ∧ 0 ≤ f.2 ∧ f.2 ≤ 200
 tb : APure Tryz.prog 31 [.sl 7 eb .ro] (.str (DC x.b))
 te : APure Tryz.prog 31 [.sl 7 ee .ro] (.str (DC x.e))
 le : ee.length = x.e.length
 lb : (DC x.b).length ≤ 900000000
 le2 : (DC x.e).length ≤ 900000000
theorem A47 (l : List Pt) (hl : l.length ≤ 2000000) (hlen : (DC l).length ≤ 900000000) (hp : ∀ x ∈ l, ∃ k t nm pa fs eb ee b e, x = .mk k t nm pa fs b e ∧ Hq x = .agg [aI k, .str t, .str nm, CG pa, Aq fs, .sl 7 eb .ro, .sl 7 ee .ro] ∧ PtC x k t nm pa fs eb ee) : APure Tryz.prog 31 [Cr l] (.str (DC l)) := by
 have hel := B3 l
 obtain ⟨z, hz⟩ : ∃ z, DC l = z := ⟨_, rfl⟩
 rw [hz]
 refine A6 Tryz.func31 A5p rfl fun n H hH => ?_
 repeat' (first | simp -implicitDefEqProofs [VX, -getElem?_pos, hel] | simp (disch := omega) only [AA] | (with_reducible first | exact AI | refine AP ?_ | intro _g _hg | refine A9 ?_ ?_ | intro _hc) | omega)
 refine LoopK.go (fun m st => ∃ (i n2 : Nat) (H2 : A3), i + m = l.length ∧ st = ⟨[(3, .ptr _g 0), (9, Cr l), (10, aI l.length), (11, aI i)], n2, H2⟩ ∧ Bs n H _g (DC (l.take i)) [] n2 H2) l.length ⟨0, _, _, by omega, rfl, Bs.start hH (by assumption)⟩ ?_
 rintro m st ⟨i, n2, H2, him, rfl, hB⟩ J hJ
 have _hq : True := trivial
 by_cases hi : i < l.length
 ·obtain ⟨x, hx⟩ : ∃ x, l[i]? = some x := ⟨_, List.getElem?_eq_getElem hi⟩
  have hx2 := GW hx
  have hi' : (i : Int) < l.length := by omega
  have htk := Tx hx
  have hle1 := Sb l i
  have hle2 := Sb l (i + 1)
  rw [htk] at hle2
  obtain ⟨k, t, nm, pa, fs, eb, ee, b, e, rfl, hxe, C⟩ := hp x (List.mem_of_getElem? hx)
  rw [hxe] at hx2
  obtain ⟨q1, q2, q3, q4, q5, q6, q7, tb, te, le, lb, le2⟩ := C
  have e0 : ZP (.mk k t nm pa fs b e) = if k = 1 then E1 t else if k = 2 then opS ++ T7 pa ++ fs.flatMap Q5 ++ clS else (if k = 3 then ifS ++ T7 pa ++ clS else N6 ++ nm ++ Wn ++ T7 pa ++ clS) ++ DC b ++ (if e = [] then [] else N3 ++ DC e) ++ OY := by rw [ZP]
  rw [e0] at htk hle2
  have hj := V7 pa [46] (by omega) (by have := Pd q4 q5; unfold T7 at this; omega)
  have hwl := Pd q4 q5
  have hrl := IR t
  change APure _ _ [CG pa, .str [46]] (.str (T7 pa)) at hj
  change APure _ _ _ (.str (DC b)) at tb
  change APure _ _ _ (.str (DC e)) at te
  change ee.length = e.length at le
  change (DC b).length ≤ _ at lb
  change (DC e).length ≤ _ at le2
  clear e0 hxe hx hp
  generalize DC (l.take i) = ac at *
  generalize T7 pa = wh at *
  generalize DC b = xb at *
  generalize DC e = xe at *
  have hac : ac.length ≤ 900000000 := by omega
  clear hle1
  by_cases k1 : k = 1
  ·have hrp := A1p t (by omega)
   have hrn := ZZ t (q2 k1)
   unfold opS Pm at hrp
   rw [if_pos k1] at htk hle2
   generalize E1 t = rt at *
   subst k1
   
   repeat' (first | simp -implicitDefEqProofs [CO, Ce, CX, CR, CU, CW, Cl, CK, Ci, Bv, Bw, Bu, Bt, VX, -getElem?_pos, splice, hel, hx2, hi', _hq, hrn] | simp (disch := omega) only [AA] | ((with_reducible refine Al 62 ?_); (refine ⟨_, Bs.write (by assumption) _ ?_ ?_, ?_⟩); (rotate_left 2); (rintro _ _n2 _H2 _hn2 _hs2 ⟨_hle2, _hB⟩); (have _hq := Bs.facts _hB); (dsimp only [JG] at _hq)) | ((with_reducible refine Al 62 ?_); (refine ⟨_, Bs.write (by exact Bs.add2 (by assumption) (by assumption) _ _ _) _ ?_ ?_, ?_⟩); (rotate_left 2); (rintro _ _n2 _H2 _hn2 _hs2 ⟨_hle2, _hB⟩); (have _hq := Bs.facts _hB); (dsimp only [JG] at _hq)) | ((with_reducible refine Al 62 ?_); (refine ⟨_, Bs.write (by exact Bs.add (by assumption) (by assumption) _ (by intro e m h; cases h)) _ ?_ ?_, ?_⟩); (rotate_left 2); (rintro _ _n2 _H2 _hn2 _hs2 ⟨_hle2, _hB⟩); (have _hq := Bs.facts _hB); (dsimp only [JG] at _hq)) | ((with_reducible refine A8 52 ?_); (refine' CallP.sf ?_ (hj) ?_); (focus first | (with_reducible exact A0 _) | (simp [A5, A4, A1, A0]; done))) | ((with_reducible refine A8 63 ?_); (refine' CallP.sf ?_ (hrp) ?_); (focus first | (with_reducible exact A0 _) | (simp [A5, A4, A1, A0]; done))) | (with_reducible first | exact AI | refine AP ?_ | intro _g _hg | refine A9 ?_ ?_ | intro _hc) | omega)
   all_goals exact hJ (m - 1) _ (by omega) ⟨i + 1, _, _, by omega, rfl, by rw [htk]; exact Bs.less (by assumption) (by simp)⟩
  ·rw [if_neg k1] at htk hle2
   by_cases k2 : k = 2
   ·rw [if_pos k2] at htk hle2
    have hfl := HP fs q7
    have hfl2 : fs.length * 30 ≤ 240 := by omega
    subst k2
    
    repeat' (first | simp -implicitDefEqProofs [CO, Ce, CX, CR, CU, CW, Cl, CK, Ci, Bv, Bw, Bu, Bt, VX, -getElem?_pos, splice, hel, hx2, hi', _hq] | simp (disch := omega) only [AA] | ((with_reducible refine Al 62 ?_); (refine ⟨_, Bs.write (by assumption) _ ?_ ?_, ?_⟩); (rotate_left 2); (rintro _ _n2 _H2 _hn2 _hs2 ⟨_hle2, _hB⟩); (have _hq := Bs.facts _hB); (dsimp only [JG] at _hq)) | ((with_reducible refine Al 62 ?_); (refine ⟨_, Bs.write (by exact Bs.add2 (by assumption) (by assumption) _ _ _) _ ?_ ?_, ?_⟩); (rotate_left 2); (rintro _ _n2 _H2 _hn2 _hs2 ⟨_hle2, _hB⟩); (have _hq := Bs.facts _hB); (dsimp only [JG] at _hq)) | ((with_reducible refine Al 62 ?_); (refine ⟨_, Bs.write (by exact Bs.add (by assumption) (by assumption) _ (by intro e m h; cases h)) _ ?_ ?_, ?_⟩); (rotate_left 2); (rintro _ _n2 _H2 _hn2 _hs2 ⟨_hle2, _hB⟩); (have _hq := Bs.facts _hB); (dsimp only [JG] at _hq)) | ((with_reducible refine A8 52 ?_); (refine' CallP.sf ?_ (hj) ?_); (focus first | (with_reducible exact A0 _) | (simp [A5, A4, A1, A0]; done))) | (with_reducible first | exact AI | refine AP ?_ | intro _g _hg | refine A9 ?_ ?_ | intro _hc) | omega)
    have hB4 := _hB.less (bs' := []) (by simp)
    refine Yn fs q7 q6 n H _ _ ?_ ?_ _ _ _ _ _ _ hB4 fun n3 H3 hB3 => ?_
    ·simp
    ·simp; omega
    have _hq : True := trivial
    have hfl3 : (fs.flatMap Q5).length ≤ 240 := by omega
    generalize fs.flatMap Q5 = ft at *
    repeat' (first | simp -implicitDefEqProofs [CO, Ce, CX, CR, CU, CW, Cl, CK, Ci, Bv, Bw, Bu, Bt, VX, -getElem?_pos, _hq] | simp (disch := omega) only [AA] | ((with_reducible refine Al 62 ?_); (refine ⟨_, Bs.write (by assumption) _ ?_ ?_, ?_⟩); (rotate_left 2); (rintro _ _n2 _H2 _hn2 _hs2 ⟨_hle2, _hB⟩); (have _hq := Bs.facts _hB); (dsimp only [JG] at _hq)) | ((with_reducible refine Al 62 ?_); (refine ⟨_, Bs.write (by exact Bs.add2 (by assumption) (by assumption) _ _ _) _ ?_ ?_, ?_⟩); (rotate_left 2); (rintro _ _n2 _H2 _hn2 _hs2 ⟨_hle2, _hB⟩); (have _hq := Bs.facts _hB); (dsimp only [JG] at _hq)) | ((with_reducible refine Al 62 ?_); (refine ⟨_, Bs.write (by exact Bs.add (by assumption) (by assumption) _ (by intro e m h; cases h)) _ ?_ ?_, ?_⟩); (rotate_left 2); (rintro _ _n2 _H2 _hn2 _hs2 ⟨_hle2, _hB⟩); (have _hq := Bs.facts _hB); (dsimp only [JG] at _hq)) | (with_reducible first | exact AI | refine AP ?_ | intro _g _hg | refine A9 ?_ ?_ | intro _hc) | omega)
    all_goals exact hJ (m - 1) _ (by omega) ⟨i + 1, _, _, by omega, rfl, by rw [htk]; refine Bs.rel ?_ (Bs.less (by assumption) (by simp)); simp [opS, clS]⟩
   ·rw [if_neg k2] at htk hle2
    by_cases he0 : e = []
    ·have hee : ee = [] := by
      rw [he0] at le; exact List.length_eq_zero_iff.1 le
     rw [if_pos he0] at htk hle2
     subst hee
     by_cases k3 : k = 3
     ·rw [if_pos k3] at htk hle2
      subst k3
      
      repeat' (first | simp -implicitDefEqProofs [CO, Ce, CX, CR, CU, CW, Cl, CK, Ci, Bv, Bw, Bu, Bt, VX, -getElem?_pos, splice, hel, hx2, hi', _hq] | simp (disch := omega) only [AA] | ((with_reducible refine Al 62 ?_); (refine ⟨_, Bs.write (by assumption) _ ?_ ?_, ?_⟩); (rotate_left 2); (rintro _ _n2 _H2 _hn2 _hs2 ⟨_hle2, _hB⟩); (have _hq := Bs.facts _hB); (dsimp only [JG] at _hq)) | ((with_reducible refine Al 62 ?_); (refine ⟨_, Bs.write (by exact Bs.add2 (by assumption) (by assumption) _ _ _) _ ?_ ?_, ?_⟩); (rotate_left 2); (rintro _ _n2 _H2 _hn2 _hs2 ⟨_hle2, _hB⟩); (have _hq := Bs.facts _hB); (dsimp only [JG] at _hq)) | ((with_reducible refine Al 62 ?_); (refine ⟨_, Bs.write (by exact Bs.add (by assumption) (by assumption) _ (by intro e m h; cases h)) _ ?_ ?_, ?_⟩); (rotate_left 2); (rintro _ _n2 _H2 _hn2 _hs2 ⟨_hle2, _hB⟩); (have _hq := Bs.facts _hB); (dsimp only [JG] at _hq)) | ((with_reducible refine A8 52 ?_); (refine' CallP.sf ?_ (hj) ?_); (focus first | (with_reducible exact A0 _) | (simp [A5, A4, A1, A0]; done))) | ((with_reducible refine A8 31 ?_); (refine' CallP.sf ?_ (tb) ?_); (focus first | (with_reducible exact A0 _) | (simp [A5, A4, A1, A0]; done))) | (with_reducible first | exact AI | refine AP ?_ | intro _g _hg | refine A9 ?_ ?_ | intro _hc) | omega)
      all_goals exact hJ (m - 1) _ (by omega) ⟨i + 1, _, _, by omega, rfl, by rw [htk]; refine Bs.rel ?_ (Bs.less (by assumption) (by simp)); simp [ifS, clS, OY]⟩
     ·rw [if_neg k3] at htk hle2
      
      repeat' (first | simp -implicitDefEqProofs [CO, Ce, CX, CR, CU, CW, Cl, CK, Ci, Bv, Bw, Bu, Bt, VX, -getElem?_pos, splice, hel, hx2, hi', _hq, k1, k2, k3] | simp (disch := omega) only [AA] | ((with_reducible refine Al 62 ?_); (refine ⟨_, Bs.write (by assumption) _ ?_ ?_, ?_⟩); (rotate_left 2); (rintro _ _n2 _H2 _hn2 _hs2 ⟨_hle2, _hB⟩); (have _hq := Bs.facts _hB); (dsimp only [JG] at _hq)) | ((with_reducible refine Al 62 ?_); (refine ⟨_, Bs.write (by exact Bs.add2 (by assumption) (by assumption) _ _ _) _ ?_ ?_, ?_⟩); (rotate_left 2); (rintro _ _n2 _H2 _hn2 _hs2 ⟨_hle2, _hB⟩); (have _hq := Bs.facts _hB); (dsimp only [JG] at _hq)) | ((with_reducible refine Al 62 ?_); (refine ⟨_, Bs.write (by exact Bs.add (by assumption) (by assumption) _ (by intro e m h; cases h)) _ ?_ ?_, ?_⟩); (rotate_left 2); (rintro _ _n2 _H2 _hn2 _hs2 ⟨_hle2, _hB⟩); (have _hq := Bs.facts _hB); (dsimp only [JG] at _hq)) | ((with_reducible refine A8 52 ?_); (refine' CallP.sf ?_ (hj) ?_); (focus first | (with_reducible exact A0 _) | (simp [A5, A4, A1, A0]; done))) | ((with_reducible refine A8 31 ?_); (refine' CallP.sf ?_ (tb) ?_); (focus first | (with_reducible exact A0 _) | (simp [A5, A4, A1, A0]; done))) | (with_reducible first | exact AI | refine AP ?_ | intro _g _hg | refine A9 ?_ ?_ | intro _hc) | omega)
      all_goals exact hJ (m - 1) _ (by omega) ⟨i + 1, _, _, by omega, rfl, by rw [htk]; refine Bs.rel ?_ (Bs.less (by assumption) (by simp)); simp [N6, Wn, clS, OY]⟩
    ·have hel2 : (0 : Int) < ee.length := by
      have := List.length_pos_iff.2 he0
      omega
     have hel3 : ¬ ee = [] := by rintro rfl; simp at hel2
     rw [if_neg he0] at htk hle2
     by_cases k3 : k = 3
     ·rw [if_pos k3] at htk hle2
      subst k3
      
      repeat' (first | simp -implicitDefEqProofs [CO, Ce, CX, CR, CU, CW, Cl, CK, Ci, Bv, Bw, Bu, Bt, VX, -getElem?_pos, splice, hel, hx2, hi', _hq, hel2, hel3] | simp (disch := omega) only [AA] | ((with_reducible refine Al 62 ?_); (refine ⟨_, Bs.write (by assumption) _ ?_ ?_, ?_⟩); (rotate_left 2); (rintro _ _n2 _H2 _hn2 _hs2 ⟨_hle2, _hB⟩); (have _hq := Bs.facts _hB); (dsimp only [JG] at _hq)) | ((with_reducible refine Al 62 ?_); (refine ⟨_, Bs.write (by exact Bs.add2 (by assumption) (by assumption) _ _ _) _ ?_ ?_, ?_⟩); (rotate_left 2); (rintro _ _n2 _H2 _hn2 _hs2 ⟨_hle2, _hB⟩); (have _hq := Bs.facts _hB); (dsimp only [JG] at _hq)) | ((with_reducible refine Al 62 ?_); (refine ⟨_, Bs.write (by exact Bs.add (by assumption) (by assumption) _ (by intro e m h; cases h)) _ ?_ ?_, ?_⟩); (rotate_left 2); (rintro _ _n2 _H2 _hn2 _hs2 ⟨_hle2, _hB⟩); (have _hq := Bs.facts _hB); (dsimp only [JG] at _hq)) | ((with_reducible refine A8 52 ?_); (refine' CallP.sf ?_ (hj) ?_); (focus first | (with_reducible exact A0 _) | (simp [A5, A4, A1, A0]; done))) | ((with_reducible refine A8 31 ?_); (refine' CallP.sf ?_ (tb) ?_); (focus first | (with_reducible exact A0 _) | (simp [A5, A4, A1, A0]; done))) | ((with_reducible refine A8 31 ?_); (refine' CallP.sf ?_ (te) ?_); (focus first | (with_reducible exact A0 _) | (simp [A5, A4, A1, A0]; done))) | (with_reducible first | exact AI | refine AP ?_ | intro _g _hg | refine A9 ?_ ?_ | intro _hc) | omega)
      all_goals exact hJ (m - 1) _ (by omega) ⟨i + 1, _, _, by omega, rfl, by rw [htk]; refine Bs.rel ?_ (Bs.less (by assumption) (by simp)); simp [ifS, clS, OY, N3]⟩
     ·rw [if_neg k3] at htk hle2
      
      repeat' (first | simp -implicitDefEqProofs [CO, Ce, CX, CR, CU, CW, Cl, CK, Ci, Bv, Bw, Bu, Bt, VX, -getElem?_pos, splice, hel, hx2, hi', _hq, k1, k2, k3, hel2, hel3] | simp (disch := omega) only [AA] | ((with_reducible refine Al 62 ?_); (refine ⟨_, Bs.write (by assumption) _ ?_ ?_, ?_⟩); (rotate_left 2); (rintro _ _n2 _H2 _hn2 _hs2 ⟨_hle2, _hB⟩); (have _hq := Bs.facts _hB); (dsimp only [JG] at _hq)) | ((with_reducible refine Al 62 ?_); (refine ⟨_, Bs.write (by exact Bs.add2 (by assumption) (by assumption) _ _ _) _ ?_ ?_, ?_⟩); (rotate_left 2); (rintro _ _n2 _H2 _hn2 _hs2 ⟨_hle2, _hB⟩); (have _hq := Bs.facts _hB); (dsimp only [JG] at _hq)) | ((with_reducible refine Al 62 ?_); (refine ⟨_, Bs.write (by exact Bs.add (by assumption) (by assumption) _ (by intro e m h; cases h)) _ ?_ ?_, ?_⟩); (rotate_left 2); (rintro _ _n2 _H2 _hn2 _hs2 ⟨_hle2, _hB⟩); (have _hq := Bs.facts _hB); (dsimp only [JG] at _hq)) | ((with_reducible refine A8 52 ?_); (refine' CallP.sf ?_ (hj) ?_); (focus first | (with_reducible exact A0 _) | (simp [A5, A4, A1, A0]; done))) | ((with_reducible refine A8 31 ?_); (refine' CallP.sf ?_ (tb) ?_); (focus first | (with_reducible exact A0 _) | (simp [A5, A4, A1, A0]; done))) | ((with_reducible refine A8 31 ?_); (refine' CallP.sf ?_ (te) ?_); (focus first | (with_reducible exact A0 _) | (simp [A5, A4, A1, A0]; done))) | (with_reducible first | exact AI | refine AP ?_ | intro _g _hg | refine A9 ?_ ?_ | intro _hc) | omega)
      all_goals exact hJ (m - 1) _ (by omega) ⟨i + 1, _, _, by omega, rfl, by rw [htk]; refine Bs.rel ?_ (Bs.less (by assumption) (by simp)); simp [N6, Wn, clS, OY, N3]⟩
 ·have hi0 : i = l.length := by omega
  subst hi0
  have hi' : ¬ (l.length : Int) < l.length := by omega
  rw [List.take_length, hz] at hB
  have hstr := hB.str (by rw [← hz]; omega)
  have hsame := hB.same
  have hle := hB.le
  clear hp
  repeat' (first | simp -implicitDefEqProofs [CO, Ce, CX, CR, CU, CW, Cl, CK, Ci, Bv, Bw, Bu, Bt, VX, -getElem?_pos, hel, hi'] | simp (disch := omega) only [AA] | ((with_reducible refine Al 47 ?_); (refine' CallK.sfAt ?_ (hstr) ?_); (focus first | (with_reducible exact A0 _) | (simp [A5, A4, A1, A0]; done))) | (with_reducible first | exact AI | refine AP ?_ | intro _g _hg | refine A9 ?_ ?_ | intro _hc) | omega)
  all_goals first | exact A1 _ | exact hle | exact hsame
theorem HN : ∀ {l : List Pt} {x : Pt}, x ∈ l → Cn x ≤ AX l
 | y :: r, x, hx => by
  simp only [AX]
  rcases List.mem_cons.1 hx with rfl | hx
  ·omega
  ·have := HN hx; omega
theorem GI : ∀ l : List Pt, l.length ≤ AX l
 | [] => by simp [AX]
 | x :: r => by
  have := GI r
  have : 1 ≤ Cn x := by cases x; unfold Cn; omega
  simp only [AX, List.length_cons]; omega
theorem Re {l : List Pt} (ho : Jj l) (hs : AX l ≤ 200) (hp : ∀ x ∈ l, Qu x → Cn x ≤ 201 → APure Tryz.prog 31 [.sl 7 (AB x.b) .ro] (.str (DC x.b)) ∧ APure Tryz.prog 31 [.sl 7 (AB x.e) .ro] (.str (DC x.e))) : APure Tryz.prog 31 [Cr l] (.str (DC l)) := by
 have hlen := GI l
 have htl := Gf l ho
 refine A47 l (by omega) (by omega) fun x hx => ?_
 have hox := PP ho hx
 have hsx := HN hx
 obtain ⟨hb, he⟩ := hp x hx hox (by omega)
 obtain ⟨k, t, nm, pa, fs, b, e⟩ := x
 have ho' := hox
 simp only [Qu] at ho'
 obtain ⟨h1, h2, h3, h4, h5, h6, h7, h8, h9⟩ := ho'
 unfold Cn at hsx
 have lb := Gf b h8
 have le := Gf e h9
 exact ⟨k, t, nm, pa, fs, AB b, AB e, b, e, rfl, B7 _ _ _ _ _ _ _, h1, h2, h3, h4, h5, h6, h7, hb, he, B3 e, by show (DC b).length ≤ _; omega, by show (DC e).length ≤ _; omega⟩
theorem A34 (p : Pt) : Qu p → Cn p ≤ 201 → APure Tryz.prog 31 [.sl 7 (AB p.b) .ro] (.str (DC p.b)) ∧ APure Tryz.prog 31 [.sl 7 (AB p.e) .ro] (.str (DC p.e)) := by
 refine Pt.ind (Q := fun p => Qu p → Cn p ≤ 201 → APure Tryz.prog 31 [.sl 7 (AB p.b) .ro] (.str (DC p.b)) ∧ APure Tryz.prog 31 [.sl 7 (AB p.e) .ro] (.str (DC p.e))) ?_ p
 intro k t nm pa fs b e hb he ho hs
 simp only [Qu] at ho
 obtain ⟨_, _, _, _, _, _, _, ob, oe⟩ := ho
 unfold Cn at hs
 exact ⟨Re (l := b) ob (by omega) hb, Re (l := e) oe (by omega) he⟩
theorem Xh (l : List Pt) (ho : Jj l) (hs : AX l ≤ 200) : APure Tryz.prog 31 [Cr l] (.str (DC l)) := Re ho hs fun x _ hx hs => A34 x hx hs
def Bl {α : Type} (l : List α) : Bool := decide ((0 : Int) < (l.length : Int))
theorem Xl {α : Type} (l : List α) : decide (l ≠ []) = Bl l := by
 unfold Bl
 cases l with
 | nil => simp
 | cons x r => simp
def Ss (k : Int) (t n : AE) (pf ff : Bool) (bf ef : Bool) : Bool :=
 (decide (k = 1) == decide (t = [])) || (decide (k ≠ 4) && decide (n ≠ [])) || (decide (k = 1) && pf) || (decide (k ≠ 2) && ff) || (decide (k < 3) && (bf || ef))
theorem TP (pv k : Int) (t n : AE) (pa : List AE) (fs : List (AE × Int)) (b e : List Pt) : RC pv k t n pa fs b e = (Ss k t n (Bl pa) (Bl fs) (Bl b) (Bl e) || (decide (k = 1) && decide (pv = 1))) := by
 have h1 : decide (pa ≠ []) = Bl pa := by rw [← Xl]
 have h2 : decide (fs ≠ []) = Bl fs := by rw [← Xl]
 have h3 : decide (b ≠ []) = Bl b := by unfold Bl; cases b <;> simp <;> omega
 have h4 : decide (e ≠ []) = Bl e := by unfold Bl; cases e <;> simp <;> omega
 unfold RC Ss
 rw [h1, h2, h3, h4]
def V0 (i d k : Int) (fb : Bool) : Int := if 200 ≤ i then 2 else if 16 < d then 25 else if k < 1 ∨ 4 < k then 5 else if fb = true then 6 else 0
theorem Ym {pv k : Int} {t n : AE} {pa : List AE} {fs : List (AE × Int)} {b e : List Pt} {i d : Nat} {fb : Bool} (hf : Ss k t n (Bl pa) (Bl fs) (Bl b) (Bl e) = fb) : Gw pv i d k t n pa fs b e = if V0 i d k fb ≠ 0 then V0 i d k fb else if k = 1 ∧ pv = 1 then 6 else Gu k n pa fs := by
 unfold Gw V0
 rw [TP, hf]
 by_cases h1 : 200 ≤ i
 ·have h1' : (200 : Int) ≤ (i : Int) := by omega
  simp [h1, h1']
 ·have h1' : ¬ (200 : Int) ≤ (i : Int) := by omega
  by_cases h2 : 16 < d
  ·have h2' : (16 : Int) < (d : Int) := by omega
   simp [h1, h1', h2, h2']
  ·have h2' : ¬ (16 : Int) < (d : Int) := by omega
   simp only [h1, h1', h2, h2', if_false]
   by_cases h3 : k < 1 ∨ 4 < k
   ·simp [h3]
   ·simp only [h3, if_false]
    cases fb
    ·by_cases hk : k = 1 <;> by_cases hp : pv = 1 <;> simp [hk, hp]
    ·simp
theorem Zz (i d k : Int) (t n : AE) (pa : List AE) (fs : List (AE × Int)) (eb ee : List AV) (hl : pa.length ≤ 2000000 ∧ fs.length ≤ 2000000 ∧ eb.length ≤ 2000000 ∧ ee.length ≤ 2000000) : APure Tryz.prog 67 [.agg [aI k, .str t, .str n, CG pa, Aq fs, .sl 7 eb .ro, .sl 7 ee .ro], aI i, aI d] (aI (V0 i d k (Ss k t n (Bl pa) (Bl fs) (Bl eb) (Bl ee)))) := by
 obtain ⟨fb, hfb⟩ : ∃ fb, Ss k t n (Bl pa) (Bl fs) (Bl eb) (Bl ee) = fb := ⟨_, rfl⟩
 rw [hfb]
 obtain ⟨z, hz⟩ : ∃ z, V0 i d k fb = z := ⟨_, rfl⟩
 rw [hz]
 unfold V0 at hz
 obtain ⟨l1, l2, l3, l4⟩ := hl
 by_cases h1 : 200 ≤ i
 ·rw [if_pos h1] at hz
  subst hz
  refine A6 Tryz.func67 U6 rfl fun n H hH => ?_
  repeat' (first | simp -implicitDefEqProofs [HM, HU, HY, H5, HT, HG, Hk, He, c67, -getElem?_pos, h1] | simp (disch := omega) only [AA] | (with_reducible first | exact AI | refine BT ?_ | intro _g _hg | refine A9 ?_ ?_ | intro _hc) | omega)
  all_goals exact A1 _
 ·rw [if_neg h1] at hz
  by_cases h2 : 16 < d
  ·rw [if_pos h2] at hz
   subst hz
   refine A6 Tryz.func67 U6 rfl fun n H hH => ?_
   repeat' (first | simp -implicitDefEqProofs [HM, HU, HY, H5, HT, HG, Hk, He, c67, -getElem?_pos, h1, h2] | simp (disch := omega) only [AA] | (with_reducible first | exact AI | refine BT ?_ | intro _g _hg | refine A9 ?_ ?_ | intro _hc) | omega)
   all_goals exact A1 _
  ·rw [if_neg h2] at hz
   by_cases h3 : k < 1 ∨ 4 < k
   ·rw [if_pos h3] at hz
    subst hz
    rcases h3 with h3 | h3
    ·refine A6 Tryz.func67 U6 rfl fun n H hH => ?_
     repeat' (first | simp -implicitDefEqProofs [HM, HU, HY, H5, HT, HG, Hk, He, c67, -getElem?_pos, h1, h2, h3] | simp (disch := omega) only [AA] | (with_reducible first | exact AI | refine BT ?_ | intro _g _hg | refine A9 ?_ ?_ | intro _hc) | omega)
     all_goals exact A1 _
    ·have h3' : ¬ k < 1 := by omega
     refine A6 Tryz.func67 U6 rfl fun n H hH => ?_
     repeat' (first | simp -implicitDefEqProofs [HM, HU, HY, H5, HT, HG, Hk, He, c67, -getElem?_pos, h1, h2, h3, h3'] | simp (disch := omega) only [AA] | (with_reducible first | exact AI | refine BT ?_ | intro _g _hg | refine A9 ?_ ?_ | intro _hc) | omega)
     all_goals exact A1 _
   ·rw [if_neg h3] at hz
    have h4 : ¬ k < 1 := by omega
    have h5 : ¬ 4 < k := by omega
    refine A6 Tryz.func67 U6 rfl fun n H hH => ?_
    repeat' (first | simp -implicitDefEqProofs [HM, HU, HY, H5, HT, HG, Hk, He, c67, -getElem?_pos, h1, h2, h4, h5] | simp (disch := omega) only [AA] | (with_reducible first | exact AI | refine BT ?_ | intro _g _hg | refine A9 ?_ ?_ | intro _hc) | omega)
    all_goals (refine Ab ?_; rw [← hz, ← hfb]; unfold Ss Bl; grind)
end Go.Proofs.YtnfjgphfaemjcaaGreatDoor
