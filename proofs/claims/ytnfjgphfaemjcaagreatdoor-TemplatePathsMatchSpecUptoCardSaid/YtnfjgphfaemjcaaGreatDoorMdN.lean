/- Templates: words, names, numbers and paths, as the program and the reference know them; no condition. -/
import Derived.Test.YtnfjgphfaemjcaaGreatDoorMgH
import Derived.Test.YtnfjgphfaemjcaaGreatDoorMdM
import Derived.Test.YtnfjgphfaemjcaaGreatDoorAdE
import Derived.Test.YtnfjgphfaemjcaaGreatDoorMgI
set_option linter.all false
set_option linter.unusedSimpArgs false
set_option linter.unusedVariables false
set_option maxHeartbeats 4000000
namespace Go.Proofs.YtnfjgphfaemjcaaGreatDoor
theorem Ad {x y : AV} (h : x = y) : A8 x y := h ▸ A1 x
attribute [local simp] Iz E8 E9 JB Kv JT Jv EA E7 Ff GB Jc Ip JS Jt Iw Ho I0 IS KH Io JE Ix JH JF Pa pe Kd J9 Jz KY J7 Jy JU Ie JR Ju KJ Il JZ FJ Mm MP MS Mx Mj Nv Ny NZ Mr Mq Ml Nr MM No Mz NL NX Mv Mt NB NV FS N6 FG My Np Na Mp Ms Mo Mc Nn N7 Mb NJ MW MU Mf NP O4 Mu Nc Nm NQ NM N3 NC MV N0 FN O2 NE Nx NR Mw Ns O1 NO Nj Nb O0 Mh ND Nh Ma NY MQ MR NH Ku JA Ki Ke K9 Id KE Ii KT JG Ji Hf Jn List.mem_cons guardK DY EN EV Fh Me FE F9 FT FO FC F4 FY FL FW Mi NW F3 KG N4 NN MN NK NS F2 J0 Nk NF Ja KX Nq HM FB FR Fa FX Nz Nu F6 O3 F1 K0 FM FD JN F8 F7 N8 Mk N9 J8 Ng MT Jl Ko Qz IN IH GU IP ID II Dt Eu Ev KZ Ey Es Dv Db Su IF IY Ez IG Hu DT DK BX BK Bw DL Cd ev get put Dz AG DQ JC Ic Iy Jp IC J6 E5 part B0 GL KB Fg isNil Cs D3 DU D2 CW Ih Jb Jx KA Is Kr KP KQ JW KR KN Kl Jr JY JO K8 AV.fits AV.cells ones AV.one Dq Bt Dp DF Dy E3 Ir Ec Ek CY Bd Cx FZ Da AY B3 T8 Fm Ks JP List.getElem?_cons_zero List.getElem?_cons_succ FQ FH FU Kb JM Iq GI Jf JV KU Kn Kg KK Jh Ni JJ Je Jq KI Ij Jo It KL J1 K2 KV Kj Im K4 Jg JK Ka JI K6 Kh
theorem XR (c i : Int) : APure Tryz.prog 27 [aI c, aI i] (aF (c, i)) := by
 refine A9 Tryz.func27 Ym rfl fun n H hH => ?_
 repeat' (first | (simp -implicitDefEqProofs [c27, -getElem?_pos, aF, splice, A8, AA]) | (simp (disch := omega) only [AE]) | (with_reducible first | refine A5 ?_ ?_ ?_ | exact AB | refine SameB.upd ?_ ?_ _ | assumption | refine A2 ?_ | refine KM.of ?_ | refine AD ?_ | refine A3 ?_ | refine A6 ?_ | intro _g _hg | refine AC ?_ ?_ | intro _hc) | omega)
theorem Za (x a b : Int) : APure Tryz.prog 104 [aI x, aI a, aI b] (.bool (decide (a ≤ x) && decide (x ≤ b))) := by
 refine A9 Tryz.func104 Y9 rfl fun n H hH => ?_
 repeat' (first | (simp -implicitDefEqProofs [c104, -getElem?_pos, A8]) | (simp (disch := omega) only [AE]) | (with_reducible first | refine A5 ?_ ?_ ?_ | exact AB | refine SameB.upd ?_ ?_ _ | assumption | refine A2 ?_ | refine KM.of ?_ | refine AD ?_ | intro _g _hg | refine AC ?_ ?_ | intro _hc) | omega)
theorem VM (c : UInt8) : APure Tryz.prog 144 [aB c] (.bool (IK c)) := by
 have hl : IK c = ((decide ((97 : Int) ≤ c.toNat) && decide ((c.toNat : Int) ≤ 122)) || (decide ((65 : Int) ≤ c.toNat) && decide ((c.toNat : Int) ≤ 90)) || decide ((c.toNat : Int) = 95)) := by
  unfold IK
  congr 1
  ·congr 1
   ·congr 1 <;> (apply decide_eq_decide.2; omega)
   ·congr 1 <;> (apply decide_eq_decide.2; omega)
  ·apply decide_eq_decide.2; omega
 obtain ⟨z, hz⟩ : ∃ z, IK c = z := ⟨_, rfl⟩
 rw [hz] at hl ⊢
 refine A9 Tryz.func144 YA rfl fun n H hH => ?_
 repeat' (first | (simp -implicitDefEqProofs [c144, -getElem?_pos]) | (simp (disch := omega) only [AE]) | (with_reducible first | refine A5 ?_ ?_ ?_ | exact AB | refine SameB.upd ?_ ?_ _ | assumption | refine A2 ?_ | refine KM.of ?_ | refine AD ?_ | intro _g _hg | refine AC ?_ ?_ | intro _hc) | omega)
 all_goals (refine Ad ?_; rw [hl]; grind)
theorem VH (c : UInt8) : APure Tryz.prog 145 [aB c] (.bool (BH c)) := by
 have hl : BH c = (decide ((48 : Int) ≤ c.toNat) && decide ((c.toNat : Int) ≤ 57)) := by
  unfold BH
  rw [← Bool.decide_and]; apply decide_eq_decide.2; omega
 obtain ⟨z, hz⟩ : ∃ z, BH c = z := ⟨_, rfl⟩
 rw [hz] at hl ⊢
 refine A9 Tryz.func145 Ye rfl fun n H hH => ?_
 repeat' (first | (simp -implicitDefEqProofs [c145, -getElem?_pos]) | (simp (disch := omega) only [AE]) | (with_reducible first | refine A5 ?_ ?_ ?_ | exact AB | refine SameB.upd ?_ ?_ _ | assumption | refine A2 ?_ | refine KM.of ?_ | refine AD ?_ | intro _g _hg | refine AC ?_ ?_ | intro _hc) | omega)
 all_goals first | (refine Ad ?_; rw [hl]; done) | (refine Ad ?_; rw [hl]; grind)
def Rg : AP := [105, 102, 32, 101, 97, 99, 104, 32, 105, 110, 32, 101, 108, 115, 101, 32, 101, 110, 100, 32, 111, 112, 101, 110]
theorem Vo : APure Tryz.prog 146 [] (Ci VV) := by
 have h := QI Rg (by decide) (by decide) (by decide +kernel)
 have e : Lib.fields Rg = VV := by decide +kernel
 rw [e] at h
 have hw : Rg = [105, 102, 32, 101, 97, 99, 104, 32, 105, 110, 32, 101, 108, 115, 101, 32, 101, 110, 100, 32, 111, 112, 101, 110] := rfl
 rw [hw] at h
 generalize VV = K at *
 refine A9 Tryz.func146 Xz rfl fun n H hH => ?_
 repeat' (first | (simp -implicitDefEqProofs [c146, -getElem?_pos]) | (simp (disch := omega) only [AE]) | ((with_reducible refine AH 178 ?_); (refine' CallP.sf ?_ (h) ?_); (focus first | (with_reducible exact A0 _) | (simp [AA, A8, A1, A0]; done))) | (with_reducible first | refine A5 ?_ ?_ ?_ | exact AB | refine SameB.upd ?_ ?_ _ | assumption | refine A2 ?_ | refine KM.of ?_ | refine AD ?_ | intro _g _hg | refine AC ?_ ?_ | intro _hc) | omega)
 all_goals exact A1 _
def EK (s : AP) : List AP → Nat → Int
 | [], _ => -1
 | x :: xs, k => if x = s then (k : Int) else EK s xs (k + 1)
theorem Kz (s : AP) : ∀ (l : List AP) (k : Nat), 0 ≤ EK s l k ↔ s ∈ l
 | [], _ => by simp [EK]
 | x :: l, k => by
  unfold EK
  split
  ·rename_i h; simp [h]
  ·rename_i h; rw [Kz s l (k + 1)]; simp [Ne.symm h]
theorem Tx (l : List AP) (x : AP) (hmx : l.length ≤ 140737488355328) : APure Tryz.prog 91 [Ci l, .str x] (.int .i64 (EK x l 0)) := by
 refine A9 Tryz.func91 ZW rfl fun n H hH => ?_
 repeat' (first | (simp -implicitDefEqProofs [c91, -getElem?_pos, A8]) | (simp (disch := omega) only [AE]) | (with_reducible first | refine A5 ?_ ?_ ?_ | exact AB | refine SameB.upd ?_ ?_ _ | assumption | refine A2 ?_ | refine KM.of ?_ | refine AD ?_ | intro _g _hg | refine AC ?_ ?_ | intro _hc) | omega)
 refine LoopK.go (fun m s => ∃ (k : Nat), k + m = l.length ∧ s = ⟨[(0, Ci l), (1, .str x), (7, .int .i64 l.length), (8, .int .i64 k)], n, H⟩ ∧ EK x l 0 = EK x (l.drop k) k) l.length ⟨0, by omega, rfl, by simp⟩ ?_
 rintro m s ⟨k, hkm, rfl, hE⟩ J hJ
 by_cases hk : k < l.length
 ·obtain ⟨y, hy⟩ : ∃ y, l[k]? = some y := ⟨_, List.getElem?_eq_getElem hk⟩
  rw [drop_at hy, EK] at hE
  repeat' (first | (simp -implicitDefEqProofs [ON, OA, OK, Od, c91, -getElem?_pos, A8, hy]) | (simp (disch := omega) only [AE]) | (with_reducible first | refine A5 ?_ ?_ ?_ | exact AB | refine SameB.upd ?_ ?_ _ | assumption | refine A2 ?_ | refine KM.of ?_ | refine AD ?_ | intro _g _hg | refine AC ?_ ?_ | intro _hc) | omega)
  ·rw [hE, if_pos (by simp_all)]
  ·exact hJ (m - 1) _ (by omega) ⟨k + 1, by omega, rfl, by rw [hE, if_neg (fun h => ?_)]; simp_all⟩
 ·have hk0 : k = l.length := by omega
  subst hk0
  simp [EK] at hE
  repeat' (first | (simp -implicitDefEqProofs [ON, OA, OK, Od, c91, -getElem?_pos, A8, hE]) | (simp (disch := omega) only [AE]) | (with_reducible first | refine A5 ?_ ?_ ?_ | exact AB | refine SameB.upd ?_ ?_ _ | assumption | refine A2 ?_ | refine KM.of ?_ | refine AD ?_ | intro _g _hg | refine AC ?_ ?_ | intro _hc) | omega)
theorem GX (l : List AP) (x : AP) (hmx : l.length ≤ 140737488355328) : APure Tryz.prog 53 [Ci l, .str x] (.bool (decide (x ∈ l))) := by
 have h : decide (x ∈ l) = decide (0 ≤ EK x l 0) := decide_eq_decide.2 (Kz x l 0).symm
 rw [h]
 refine A9 Tryz.func53 Z5 rfl fun n H hH => ?_
 repeat' (first | (simp -implicitDefEqProofs [c53, -getElem?_pos, A8]) | (simp (disch := omega) only [AE]) | ((with_reducible refine AH 91 ?_); (refine' CallP.sf ?_ (Tx l x hmx) ?_); (focus first | (with_reducible exact A0 _) | (simp [AA, A8, A1, A0]; done))) | (with_reducible first | refine A5 ?_ ?_ ?_ | exact AB | refine SameB.upd ?_ ?_ _ | assumption | refine A2 ?_ | refine KM.of ?_ | refine AD ?_ | intro _g _hg | refine AC ?_ ?_ | intro _hc) | omega)
def Wg (i : Nat) (c : UInt8) : Bool := IK c || (decide (i ≠ 0) && BH c)
def N5 : Nat → AP → Bool
 | _, [] => true
 | i, c :: r => Wg i c && N5 (i + 1) r
theorem SN : ∀ (r : AP) (i : Nat), 0 < i → N5 i r = r.all fun c => IK c || BH c
 | [], _, _ => rfl
 | c :: r, i, h => by
  have : decide (i ≠ 0) = true := decide_eq_true (by omega)
  simp only [N5, List.all_cons, Wg, this, Bool.true_and, SN r (i + 1) (by omega)]
theorem Vv {c : UInt8} (h : BH c = true) : IK c = false := by
 unfold BH at h
 simp only [decide_eq_true_eq] at h
 unfold IK
 simp only [Bool.or_eq_false_iff, Bool.and_eq_false_iff, decide_eq_false_iff_not]
 exact ⟨⟨by omega, by omega⟩, by omega⟩
theorem VJ {s : AP} : HF s = (decide (s ≠ []) && decide (s.length ≤ 24) && N5 0 s) := by
 unfold HF
 cases s with
 | nil => rfl
 | cons c r =>
  simp only [List.headD_cons, N5, List.all_cons, Wg, SN r 1 (by omega), ne_eq, not_true, decide_false, Bool.false_and, Bool.or_false]
  cases h : BH c with
  | true => rw [Vv h]; simp
  | false => simp [Bool.and_assoc]
theorem Ok (s : AP) (hs : s.length ≤ 2000000) : APure Tryz.prog 107 [.str s] (.bool (Hm s)) := by
 have hw := Vo
 have hcon := GX VV s (by decide)
 have hid : Hm s = (decide (s ≠ []) && decide (s.length ≤ 24) && N5 0 s && !decide (s ∈ VV)) := by unfold Hm; rw [VJ]
 rw [hid]
 generalize VV = K at *
 refine A9 Tryz.func107 XL rfl fun n H hH => ?_
 repeat' (first | (simp -implicitDefEqProofs [c107, -getElem?_pos, A8]) | (simp (disch := omega) only [AE]) | (with_reducible first | refine A5 ?_ ?_ ?_ | exact AB | refine SameB.upd ?_ ?_ _ | assumption | refine A2 ?_ | refine KM.of ?_ | refine AD ?_ | intro _g _hg | refine AC ?_ ?_ | intro _hc) | omega)
 refine LoopK.go (fun m st => ∃ (k : Nat), k + m = s.length ∧ st = ⟨[(0, .str s), (5, aI s.length), (6, aI k)], n, H⟩ ∧ N5 0 s = N5 k (s.drop k)) s.length ⟨0, by omega, rfl, by simp⟩ ?_
 rintro m st ⟨k, hkm, rfl, hE⟩ J hJ
 by_cases hk : k < s.length
 ·obtain ⟨y, hy⟩ : ∃ y, s[k]? = some y := ⟨_, List.getElem?_eq_getElem hk⟩
  rw [drop_at hy, N5] at hE
  have hl := VM y
  have hd := VH y
  have hk' : (k : Int) < s.length := by omega
  unfold Wg at hE
  generalize IK y = bl at *
  generalize BH y = bd at *
  by_cases h0 : k = 0
  ·subst h0
   have hk0 : (0 : Int) < s.length := hk'
   have hne : ¬ s = [] := fun e => by rw [e] at hk; simp at hk
   cases bl
   ·repeat' (first | (simp -implicitDefEqProofs [DZ, De, Dd, Dc, c107, -getElem?_pos, hy, hk, hk0, hne]) | (simp (disch := omega) only [AE]) | ((with_reducible refine AH 144 ?_); (refine' CallP.sf ?_ (hl) ?_); (focus first | (with_reducible exact A0 _) | (simp [AA, A8, A1, A0]; done))) | ((with_reducible refine AH 145 ?_); (refine' CallP.sf ?_ (hd) ?_); (focus first | (with_reducible exact A0 _) | (simp [AA, A8, A1, A0]; done))) | (with_reducible first | refine A5 ?_ ?_ ?_ | exact AB | refine SameB.upd ?_ ?_ _ | assumption | refine A2 ?_ | refine KM.of ?_ | refine AD ?_ | intro _g _hg | refine AC ?_ ?_ | intro _hc) | omega)
    all_goals (refine Ad ?_; rw [hE]; simp)
   ·repeat' (first | (simp -implicitDefEqProofs [DZ, De, Dd, Dc, c107, -getElem?_pos, hy, hk, hk0, hne]) | (simp (disch := omega) only [AE]) | ((with_reducible refine AH 144 ?_); (refine' CallP.sf ?_ (hl) ?_); (focus first | (with_reducible exact A0 _) | (simp [AA, A8, A1, A0]; done))) | ((with_reducible refine AH 145 ?_); (refine' CallP.sf ?_ (hd) ?_); (focus first | (with_reducible exact A0 _) | (simp [AA, A8, A1, A0]; done))) | (with_reducible first | refine A5 ?_ ?_ ?_ | exact AB | refine SameB.upd ?_ ?_ _ | assumption | refine A2 ?_ | refine KM.of ?_ | refine AD ?_ | intro _g _hg | refine AC ?_ ?_ | intro _hc) | omega)
    exact hJ (m - 1) _ (by omega) ⟨1, by omega, rfl, by rw [hE]; simp⟩
  ·have h0' : ¬ (k : Int) = 0 := by omega
   cases bl <;> cases bd
   ·repeat' (first | (simp -implicitDefEqProofs [DZ, De, Dd, Dc, c107, -getElem?_pos, hy, hk', h0']) | (simp (disch := omega) only [AE]) | ((with_reducible refine AH 144 ?_); (refine' CallP.sf ?_ (hl) ?_); (focus first | (with_reducible exact A0 _) | (simp [AA, A8, A1, A0]; done))) | ((with_reducible refine AH 145 ?_); (refine' CallP.sf ?_ (hd) ?_); (focus first | (with_reducible exact A0 _) | (simp [AA, A8, A1, A0]; done))) | (with_reducible first | refine A5 ?_ ?_ ?_ | exact AB | refine SameB.upd ?_ ?_ _ | assumption | refine A2 ?_ | refine KM.of ?_ | refine AD ?_ | intro _g _hg | refine AC ?_ ?_ | intro _hc) | omega)
    all_goals (refine Ad ?_; rw [hE]; simp)
   ·repeat' (first | (simp -implicitDefEqProofs [DZ, De, Dd, Dc, c107, -getElem?_pos, hy, hk', h0']) | (simp (disch := omega) only [AE]) | ((with_reducible refine AH 144 ?_); (refine' CallP.sf ?_ (hl) ?_); (focus first | (with_reducible exact A0 _) | (simp [AA, A8, A1, A0]; done))) | ((with_reducible refine AH 145 ?_); (refine' CallP.sf ?_ (hd) ?_); (focus first | (with_reducible exact A0 _) | (simp [AA, A8, A1, A0]; done))) | (with_reducible first | refine A5 ?_ ?_ ?_ | exact AB | refine SameB.upd ?_ ?_ _ | assumption | refine A2 ?_ | refine KM.of ?_ | refine AD ?_ | intro _g _hg | refine AC ?_ ?_ | intro _hc) | omega)
    exact hJ (m - 1) _ (by omega) ⟨k + 1, by omega, rfl, by rw [hE]; simp [h0]⟩
   ·repeat' (first | (simp -implicitDefEqProofs [DZ, De, Dd, Dc, c107, -getElem?_pos, hy, hk', h0']) | (simp (disch := omega) only [AE]) | ((with_reducible refine AH 144 ?_); (refine' CallP.sf ?_ (hl) ?_); (focus first | (with_reducible exact A0 _) | (simp [AA, A8, A1, A0]; done))) | ((with_reducible refine AH 145 ?_); (refine' CallP.sf ?_ (hd) ?_); (focus first | (with_reducible exact A0 _) | (simp [AA, A8, A1, A0]; done))) | (with_reducible first | refine A5 ?_ ?_ ?_ | exact AB | refine SameB.upd ?_ ?_ _ | assumption | refine A2 ?_ | refine KM.of ?_ | refine AD ?_ | intro _g _hg | refine AC ?_ ?_ | intro _hc) | omega)
    exact hJ (m - 1) _ (by omega) ⟨k + 1, by omega, rfl, by rw [hE]; simp⟩
   ·repeat' (first | (simp -implicitDefEqProofs [DZ, De, Dd, Dc, c107, -getElem?_pos, hy, hk', h0']) | (simp (disch := omega) only [AE]) | ((with_reducible refine AH 144 ?_); (refine' CallP.sf ?_ (hl) ?_); (focus first | (with_reducible exact A0 _) | (simp [AA, A8, A1, A0]; done))) | ((with_reducible refine AH 145 ?_); (refine' CallP.sf ?_ (hd) ?_); (focus first | (with_reducible exact A0 _) | (simp [AA, A8, A1, A0]; done))) | (with_reducible first | refine A5 ?_ ?_ ?_ | exact AB | refine SameB.upd ?_ ?_ _ | assumption | refine A2 ?_ | refine KM.of ?_ | refine AD ?_ | intro _g _hg | refine AC ?_ ?_ | intro _hc) | omega)
    exact hJ (m - 1) _ (by omega) ⟨k + 1, by omega, rfl, by rw [hE]; simp⟩
 ·have hk0 : k = s.length := by omega
  subst hk0
  have hk' : ¬ (s.length : Int) < s.length := by omega
  rw [List.drop_length] at hE
  simp only [N5] at hE
  rw [hE]
  repeat' (first | (simp -implicitDefEqProofs [DZ, De, Dd, Dc, c107, -getElem?_pos, hk']) | (simp (disch := omega) only [AE]) | ((with_reducible refine AH 146 ?_); (refine' CallP.sf ?_ (hw) ?_); (focus first | (with_reducible exact A0 _) | (simp [AA, A8, A1, A0]; done))) | ((with_reducible refine AH 53 ?_); (refine' CallP.sf ?_ (hcon) ?_); (focus first | (with_reducible exact A0 _) | (simp [AA, A8, A1, A0]; done))) | (with_reducible first | refine A5 ?_ ?_ ?_ | exact AB | refine SameB.upd ?_ ?_ _ | assumption | refine A2 ?_ | refine KM.of ?_ | refine AD ?_ | intro _g _hg | refine AC ?_ ?_ | intro _hc) | omega)
  all_goals (refine Ad ?_; grind)
theorem Tm (u : Nat) : (Lib.decDigits u).length ≤ 3 ↔ u ≤ 999 := by
 rw [Lib.decDigits_length]
 constructor
 ·intro h
  have h1 := Lib.lt_pow_nDigits u
  have h2 : 10 ^ Lib.nDigits u ≤ 10 ^ 3 := Nat.pow_le_pow_right (by omega) h
  omega
 ·intro h
  exact Ej 2 u (by omega)
def M2 (s : AP) (m : Int) : Bool := match Lib.atoiAll s with
 | .ok v => decide ((s.length : Int) ≤ m) && decide (0 ≤ v) && decide (Lib.itoa v = s)
 | _ => false
theorem V8 {s : AP} {m : Nat} (hm : m = 3 ∨ m = 9) : M2 s m = ((E0 s).2 && decide (0 ≤ (E0 s).1) && decide ((E0 s).1 < 10 ^ m)) := by
 unfold M2 E0
 split
 ·rename_i v hv
  by_cases h : Lib.itoa v = s
  ·by_cases h0 : 0 ≤ v
   ·obtain ⟨u, rfl⟩ : ∃ u : Nat, v = (u : Int) := ⟨v.toNat, by omega⟩
    have ht := Kf (u : Int)
    rw [h] at ht
    simp only [hv, h, decide_true, Bool.true_and, Bool.and_true, ht]
    have hs : s = Lib.decDigits u := by rw [← h, Lib.itoa_nonneg]
    have e2 : ((u : Int).natAbs) = u := by omega
    rw [e2, hs]
    have h3 := Tm u
    have h9 := IM u
    rcases hm with rfl | rfl
    ·have : decide ((Lib.decDigits u).length ≤ 9) = true ∨ ¬ (u ≤ 999) := by
      by_cases hu : u ≤ 999
      ·exact .inl (decide_eq_true (by omega))
      ·exact .inr hu
     rcases this with h4 | h4
     ·rw [h4]; simp only [Bool.true_and]
      by_cases hu : u ≤ 999
      ·rw [decide_eq_true (by omega), decide_eq_true (by omega), decide_eq_true (by omega)]
       all_goals rfl
      ·rw [decide_eq_false (by omega), decide_eq_false (p := _ < _) (by omega)]; simp
     ·rw [decide_eq_false (p := (((Lib.decDigits u).length : Nat) : Int) ≤ _) (by omega), decide_eq_false (p := (u : Int) < _) (by omega)]; simp
    ·by_cases hu : u ≤ 999999999
     ·rw [decide_eq_true (by omega), decide_eq_true (by omega), decide_eq_true (by omega), decide_eq_true (by omega)]
      all_goals rfl
     ·rw [decide_eq_false (p := (((Lib.decDigits u).length : Nat) : Int) ≤ _) (by omega), decide_eq_false (p := (u : Int) < _) (by omega)]; simp
   ·simp only [hv, h0, decide_false, Bool.and_false, Bool.false_and]
  ·simp only [hv, h, decide_false, Bool.and_false, Bool.false_and]
 ·rename_i h
  split
  ·rename_i v hv; exact absurd hv (h v)
  ·rfl
  ·rfl
theorem W3 (s : AP) : M2 s 3 = Rf s := by
 have h := V8 (s := s) (m := 3) (.inl rfl)
 have e : M2 s 3 = M2 s ((3 : Nat) : Int) := rfl
 rw [e, h]
 unfold Rf
 congr 1
 apply decide_eq_decide.2; omega
theorem Tg (s : AP) (m : Int) (hs : s.length ≤ 2000000) : APure Tryz.prog 114 [.str s, aI m] (.bool (M2 s m)) := by
 cases h : Lib.atoiAll s with
 | ok v =>
  have ha := Sj h hs
  have hb := Lib.atoiAll_bounds h
  have hi := Rv v hb
  unfold M2
  rw [h]
  simp only
  generalize Lib.itoa v = iv at *
  refine A9 Tryz.func114 Rw rfl fun n H hH => ?_
  repeat' (first | (simp -implicitDefEqProofs [c114, -getElem?_pos]) | (simp (disch := omega) only [AE]) | ((with_reducible refine AH 115 ?_); (refine' CallP.sf ?_ (ha) ?_); (focus first | (with_reducible exact A0 _) | (simp [AA, A8, A1, A0]; done))) | ((with_reducible refine AH 65 ?_); (refine' CallP.sf ?_ (hi) ?_); (focus first | (with_reducible exact A0 _) | (simp [AA, A8, A1, A0]; done))) | (with_reducible first | refine A5 ?_ ?_ ?_ | exact AB | refine SameB.upd ?_ ?_ _ | assumption | refine A2 ?_ | refine KM.of ?_ | refine AD ?_ | intro _g _hg | refine AC ?_ ?_ | intro _hc) | omega)
  all_goals (refine Ad ?_; grind)
 | range =>
  have ha := UA h hs
  generalize Lib.atoiSat s = z at *
  have hd : M2 s m = false := by unfold M2; rw [h]
  rw [hd]
  refine A9 Tryz.func114 Rw rfl fun n H hH => ?_
  repeat' (first | (simp -implicitDefEqProofs [c114, -getElem?_pos]) | (simp (disch := omega) only [AE]) | ((with_reducible refine AH 115 ?_); (refine' CallP.sf ?_ (ha) ?_); (focus first | (with_reducible exact A0 _) | (simp [AA, A8, A1, A0]; done))) | (with_reducible first | refine A5 ?_ ?_ ?_ | exact AB | refine SameB.upd ?_ ?_ _ | assumption | refine A2 ?_ | refine KM.of ?_ | refine AD ?_ | intro _g _hg | refine AC ?_ ?_ | intro _hc) | omega)
  all_goals exact A1 _
 | _ =>
  have ha := UC (s := s) (by rw [h]; intro v e; cases e) (by rw [h]; intro e; cases e) hs
  have hd : M2 s m = false := by unfold M2; rw [h]
  rw [hd]
  refine A9 Tryz.func114 Rw rfl fun n H hH => ?_
  repeat' (first | (simp -implicitDefEqProofs [c114, -getElem?_pos]) | (simp (disch := omega) only [AE]) | ((with_reducible refine AH 115 ?_); (refine' CallP.sf ?_ (ha) ?_); (focus first | (with_reducible exact A0 _) | (simp [AA, A8, A1, A0]; done))) | (with_reducible first | refine A5 ?_ ?_ ?_ | exact AB | refine SameB.upd ?_ ?_ _ | assumption | refine A2 ?_ | refine KM.of ?_ | refine AD ?_ | intro _g _hg | refine AC ?_ ?_ | intro _hc) | omega)
  all_goals exact A1 _
def Kx (s : AP) : Bool := !Hm s && !Rf s
theorem Y3 (s : AP) (hs : s.length ≤ 2000000) : APure Tryz.prog 148 [.str s] (.bool (Kx s)) := by
 show APure Tryz.prog 148 [.str s] (.bool (!Hm s && !Rf s))
 have h1 := Ok s hs
 have h2 := Tg s 3 hs
 rw [W3] at h2
 generalize Hm s = a at *
 generalize Rf s = b at *
 refine A9 Tryz.func148 YF rfl fun n H hH => ?_
 cases a
 ·repeat' (first | (simp -implicitDefEqProofs [c148, -getElem?_pos]) | (simp (disch := omega) only [AE]) | ((with_reducible refine AH 107 ?_); (refine' CallP.sf ?_ (h1) ?_); (focus first | (with_reducible exact A0 _) | (simp [AA, A8, A1, A0]; done))) | ((with_reducible refine AH 114 ?_); (refine' CallP.sf ?_ (h2) ?_); (focus first | (with_reducible exact A0 _) | (simp [AA, A8, A1, A0]; done))) | (with_reducible first | refine A5 ?_ ?_ ?_ | exact AB | refine SameB.upd ?_ ?_ _ | assumption | refine A2 ?_ | refine KM.of ?_ | refine AD ?_ | intro _g _hg | refine AC ?_ ?_ | intro _hc) | omega)
  all_goals exact A1 _
 ·repeat' (first | (simp -implicitDefEqProofs [c148, -getElem?_pos]) | (simp (disch := omega) only [AE]) | ((with_reducible refine AH 107 ?_); (refine' CallP.sf ?_ (h1) ?_); (focus first | (with_reducible exact A0 _) | (simp [AA, A8, A1, A0]; done))) | ((with_reducible refine AH 114 ?_); (refine' CallP.sf ?_ (h2) ?_); (focus first | (with_reducible exact A0 _) | (simp [AA, A8, A1, A0]; done))) | (with_reducible first | refine A5 ?_ ?_ ?_ | exact AB | refine SameB.upd ?_ ?_ _ | assumption | refine A2 ?_ | refine KM.of ?_ | refine AD ?_ | intro _g _hg | refine AC ?_ ?_ | intro _hc) | omega)
  all_goals exact A1 _
theorem Gn {d : Option Nat} {K : AS → Prop} {en : AL} {n : Nat} {H : A4} {xs a b : List AV} {f : Nat} (hc : DR Tryz.prog f = true) : Cd Tryz.prog d K en n H xs (.fn f a b) = CallK Tryz.prog f (a ++ xs ++ b) d K ⟨en, n, H⟩ := propext ⟨fun h => h.2, fun h => ⟨hc, h⟩⟩
theorem step_ok : DR Tryz.prog 148 = true := by kernel_rfl
def WG : List AP → Int → Int
 | [], _ => -1
 | s :: r, i => if Kx s = true then i else WG r (i + 1)
theorem SM : ∀ (p : List AP) (i : Int), 0 ≤ i → (decide (0 ≤ WG p i) = p.any Kx)
 | [], i, _ => rfl
 | s :: r, i, hi => by
  simp only [WG, List.any_cons]
  split
  ·rename_i h; simp [h, hi]
  ·rename_i h; rw [SM r (i + 1) (by omega)]; simp [h]
theorem Uw (p : List AP) (hl : p.length ≤ 140737488355328) (hb : ∀ s ∈ p, s.length ≤ 2000000) : APure Tryz.prog 179 [Ci p, .fn 148 [] []] (aI (WG p 0)) := by
 
 refine A9 Tryz.func179 YM rfl fun n H hH => ?_
 repeat' (first | (simp -implicitDefEqProofs [c179, -getElem?_pos]) | (simp (disch := omega) only [AE]) | (with_reducible first | refine A5 ?_ ?_ ?_ | exact AB | refine SameB.upd ?_ ?_ _ | assumption | refine A2 ?_ | refine KM.of ?_ | refine AD ?_ | intro _g _hg | refine AC ?_ ?_ | intro _hc) | omega)
 refine LoopK.go (fun r st => ∃ j : Nat, j + r = p.length ∧ st = ⟨[(0, Ci p), (1, .fn 148 [] []), (7, aI p.length), (8, aI j)], n, H⟩ ∧ WG p 0 = WG (p.drop j) j) p.length ⟨0, by omega, by simp, rfl⟩ ?_
 rintro r st ⟨j, hj, rfl, hE⟩ J hJ
 by_cases hjl : j < p.length
 ·obtain ⟨x, hx⟩ : ∃ x, p[j]? = some x := ⟨_, List.getElem?_eq_getElem hjl⟩
  have hjl' : (j : Int) < p.length := by omega
  have hch := Y3 x (hb x (List.mem_of_getElem? hx))
  rw [drop_at hx] at hE
  simp only [WG] at hE
  generalize Kx x = bb at *
  cases bb
  ·
   repeat' (first | (simp -implicitDefEqProofs [HY, HX, HT, Ha, c179, -getElem?_pos, hx, hjl', Gn step_ok, -Cd]) | (simp (disch := omega) only [AE]) | ((with_reducible refine Br 148 ?_); (refine' CallK.sfAt ?_ (hch.at_ _ _) ?_); (focus first | (with_reducible exact A0 _) | (simp [AA, A8, A1, A0]; done))) | (with_reducible first | refine A5 ?_ ?_ ?_ | exact AB | refine SameB.upd ?_ ?_ _ | assumption | refine A2 ?_ | refine KM.of ?_ | refine AD ?_ | intro _g _hg | refine AC ?_ ?_ | intro _hc) | omega)
   exact hJ (r - 1) _ (by omega) ⟨j + 1, by omega, rfl, by rw [hE]; rfl⟩
  ·rw [hE]
   
   repeat' (first | (simp -implicitDefEqProofs [HY, HX, HT, Ha, c179, -getElem?_pos, hx, hjl', Gn step_ok, -Cd]) | (simp (disch := omega) only [AE]) | ((with_reducible refine Br 148 ?_); (refine' CallK.sfAt ?_ (hch.at_ _ _) ?_); (focus first | (with_reducible exact A0 _) | (simp [AA, A8, A1, A0]; done))) | (with_reducible first | refine A5 ?_ ?_ ?_ | exact AB | refine SameB.upd ?_ ?_ _ | assumption | refine A2 ?_ | refine KM.of ?_ | refine AD ?_ | intro _g _hg | refine AC ?_ ?_ | intro _hc) | omega)
   all_goals exact A1 _
 ·have hjl' : ¬ (j : Int) < p.length := by omega
  rw [List.drop_eq_nil_of_le (by omega)] at hE
  rw [hE]
  
  repeat' (first | (simp -implicitDefEqProofs [HY, HX, HT, Ha, c179, -getElem?_pos, hjl', WG]) | (simp (disch := omega) only [AE]) | (with_reducible first | refine A5 ?_ ?_ ?_ | exact AB | refine SameB.upd ?_ ?_ _ | assumption | refine A2 ?_ | refine KM.of ?_ | refine AD ?_ | intro _g _hg | refine AC ?_ ?_ | intro _hc) | omega)
  all_goals exact A1 _
theorem Qb (p : List AP) (hl : p.length ≤ 140737488355328) (hb : ∀ s ∈ p, s.length ≤ 2000000) : APure Tryz.prog 147 [Ci p, .fn 148 [] []] (.bool (p.any Kx)) := by
 have h := Uw p hl hb
 rw [← SM p 0 (by omega)]
 generalize WG p 0 = i at *
 
 refine A9 Tryz.func147 XD rfl fun n H hH => ?_
 repeat' (first | (simp -implicitDefEqProofs [c147, -getElem?_pos]) | (simp (disch := omega) only [AE]) | ((with_reducible refine Br 179 ?_); (refine' CallK.sfAt ?_ (h.at_ _ _) ?_); (focus first | (with_reducible exact A0 _) | (simp [AA, A8, A1, A0]; done))) | (with_reducible first | refine A5 ?_ ?_ ?_ | exact AB | refine SameB.upd ?_ ?_ _ | assumption | refine A2 ?_ | refine KM.of ?_ | refine AD ?_ | intro _g _hg | refine AC ?_ ?_ | intro _hc) | omega)
 all_goals exact A1 _
theorem Xm (p : List AP) (hb : ∀ s ∈ p, s.length ≤ 2000000) (hl : p.length ≤ 140737488355328) : APure Tryz.prog 108 [Ci p] (.bool (Dl p)) := by
 cases p with
 | nil =>
  have e : Dl [] = false := rfl
  rw [e]
  refine A9 Tryz.func108 UN rfl fun n H hH => ?_
  repeat' (first | (simp -implicitDefEqProofs [Em, c108, -getElem?_pos]) | (simp (disch := omega) only [AE]) | (with_reducible first | refine A5 ?_ ?_ ?_ | exact AB | refine SameB.upd ?_ ?_ _ | assumption | refine A2 ?_ | refine KM.of ?_ | refine AD ?_ | intro _g _hg | refine AC ?_ ?_ | intro _hc) | omega)
  all_goals exact A1 _
 | cons h t =>
  have h1 := Ok h (hb h List.mem_cons_self)
  have hc := (Qb (h :: t) hl hb).at_
  have e : Dl (h :: t) = (decide ((t.length : Int) + 1 ≤ 8) && Hm h && !(h :: t).any Kx) := by
   have : (decide (t.length ≤ 7)) = decide ((t.length : Int) + 1 ≤ 8) := decide_eq_decide.2 (by omega)
   simp only [Dl, this, List.any_cons, Kx]
   cases Hm h <;> simp [List.all_eq_not_any_not]
   rfl
  rw [e]
  generalize (h :: t).any Kx = bb at *
  generalize Hm h = ba at *
  have hg : (UG (h :: t))[0]? = some (.str h) := rfl
  refine A9 Tryz.func108 UN rfl fun n H hH => ?_
  cases ba <;> cases bb
  ·repeat' (first | (simp -implicitDefEqProofs [Em, c108, -getElem?_pos]) | (simp (disch := omega) only [AE]) | ((with_reducible refine AH 107 ?_); (refine' CallP.sf ?_ (h1) ?_); (focus first | (with_reducible exact A0 _) | (simp [AA, A8, A1, A0]; done))) | ((with_reducible refine Br 147 ?_); (refine' CallK.sfAt ?_ (hc _ _) ?_); (focus first | (with_reducible exact A0 _) | (simp [AA, A8, A1, A0]; done))) | (with_reducible first | refine A5 ?_ ?_ ?_ | exact AB | refine SameB.upd ?_ ?_ _ | assumption | refine A2 ?_ | refine KM.of ?_ | refine AD ?_ | intro _g _hg | refine AC ?_ ?_ | intro _hc) | omega)
   all_goals (refine Ad ?_; grind)
  ·repeat' (first | (simp -implicitDefEqProofs [Em, c108, -getElem?_pos]) | (simp (disch := omega) only [AE]) | ((with_reducible refine AH 107 ?_); (refine' CallP.sf ?_ (h1) ?_); (focus first | (with_reducible exact A0 _) | (simp [AA, A8, A1, A0]; done))) | ((with_reducible refine Br 147 ?_); (refine' CallK.sfAt ?_ (hc _ _) ?_); (focus first | (with_reducible exact A0 _) | (simp [AA, A8, A1, A0]; done))) | (with_reducible first | refine A5 ?_ ?_ ?_ | exact AB | refine SameB.upd ?_ ?_ _ | assumption | refine A2 ?_ | refine KM.of ?_ | refine AD ?_ | intro _g _hg | refine AC ?_ ?_ | intro _hc) | omega)
   all_goals (refine Ad ?_; grind)
  ·repeat' (first | (simp -implicitDefEqProofs [Em, c108, -getElem?_pos]) | (simp (disch := omega) only [AE]) | ((with_reducible refine AH 107 ?_); (refine' CallP.sf ?_ (h1) ?_); (focus first | (with_reducible exact A0 _) | (simp [AA, A8, A1, A0]; done))) | ((with_reducible refine Br 147 ?_); (refine' CallK.sfAt ?_ (hc _ _) ?_); (focus first | (with_reducible exact A0 _) | (simp [AA, A8, A1, A0]; done))) | (with_reducible first | refine A5 ?_ ?_ ?_ | exact AB | refine SameB.upd ?_ ?_ _ | assumption | refine A2 ?_ | refine KM.of ?_ | refine AD ?_ | intro _g _hg | refine AC ?_ ?_ | intro _hc) | omega)
   all_goals (refine Ad ?_; grind)
  ·repeat' (first | (simp -implicitDefEqProofs [Em, c108, -getElem?_pos]) | (simp (disch := omega) only [AE]) | ((with_reducible refine AH 107 ?_); (refine' CallP.sf ?_ (h1) ?_); (focus first | (with_reducible exact A0 _) | (simp [AA, A8, A1, A0]; done))) | ((with_reducible refine Br 147 ?_); (refine' CallK.sfAt ?_ (hc _ _) ?_); (focus first | (with_reducible exact A0 _) | (simp [AA, A8, A1, A0]; done))) | (with_reducible first | refine A5 ?_ ?_ ?_ | exact AB | refine SameB.upd ?_ ?_ _ | assumption | refine A2 ?_ | refine KM.of ?_ | refine AD ?_ | intro _g _hg | refine AC ?_ ?_ | intro _hc) | omega)
   all_goals (refine Ad ?_; grind)
def okF (c : UInt8) : Bool := IK c || BH c
theorem WQ (c : UInt8) : IK c = ((decide ((97 : Int) ≤ c.toNat) && decide ((c.toNat : Int) ≤ 122)) || (decide ((65 : Int) ≤ c.toNat) && decide ((c.toNat : Int) ≤ 90)) || decide ((c.toNat : Int) = 95)) := by
 unfold IK
 congr 1
 ·congr 1
  ·congr 1 <;> (apply decide_eq_decide.2; omega)
  ·congr 1 <;> (apply decide_eq_decide.2; omega)
 ·apply decide_eq_decide.2; omega
theorem Vs {s : AP} {c : UInt8} (h : s[0]? = some c) : HF s = (decide ((s.length : Int) ≤ 24) && !BH c && s.all okF) := by
 cases s with
 | nil => simp at h
 | cons d r =>
  simp only [List.getElem?_cons_zero, Option.some.injEq] at h
  subst h
  have : decide ((d :: r).length ≤ 24) = decide (((d :: r).length : Int) ≤ 24) := decide_eq_decide.2 (by omega)
  unfold HF
  rw [this]
  simp only [ne_eq, reduceCtorEq, not_false_eq_true, decide_true, Bool.true_and, List.headD_cons]
  rfl
theorem WA (s : AP) (hs : s.length ≤ 2000000) : APure Tryz.prog 142 [.str s] (.bool (HF s)) := by
 by_cases hne : s = []
 ·subst hne
  have e : HF [] = false := rfl
  rw [e]
  refine A9 Tryz.func142 PJ rfl fun n H hH => ?_
  repeat' (first | (simp -implicitDefEqProofs [DC, D6, DD, DH, DG, c142, -getElem?_pos]) | (simp (disch := omega) only [AE]) | (with_reducible first | refine A5 ?_ ?_ ?_ | exact AB | refine SameB.upd ?_ ?_ _ | assumption | refine A2 ?_ | refine KM.of ?_ | refine AD ?_ | intro _g _hg | refine AC ?_ ?_ | intro _hc) | omega)
  all_goals exact A1 _
 ·obtain ⟨c, hg0⟩ : ∃ c, s[0]? = some c := ⟨_, List.getElem?_eq_getElem (List.length_pos_iff.2 hne)⟩
  have hd0 := Oq c
  rw [Vs hg0]
  generalize BH c = b0 at *
  by_cases h24 : (s.length : Int) ≤ 24
  ·rw [decide_eq_true h24]
   have h24' : ¬ (24 : Int) < (s.length : Int) := by omega
   cases b0
   ·simp only [Bool.not_false, Bool.true_and] at *
    obtain ⟨z, hz⟩ : ∃ z, s.all okF = z := ⟨_, rfl⟩
    rw [hz]
    refine A9 Tryz.func142 PJ rfl fun n H hH => ?_
    repeat' (first | (simp -implicitDefEqProofs [DC, D6, DD, DH, DG, c142, -getElem?_pos, h24', hne, hg0]) | (simp (disch := omega) only [AE]) | ((with_reducible refine AH 154 ?_); (refine' CallP.sf ?_ (hd0) ?_); (focus first | (with_reducible exact A0 _) | (simp [AA, A8, A1, A0]; done))) | (with_reducible first | refine A5 ?_ ?_ ?_ | exact AB | refine SameB.upd ?_ ?_ _ | assumption | refine A2 ?_ | refine KM.of ?_ | refine AD ?_ | intro _g _hg | refine AC ?_ ?_ | intro _hc) | omega)
    refine LoopK.go (fun m st => ∃ (k : Nat), k + m = s.length ∧ st = ⟨[(0, .str s), (3, aI k)], n, H⟩ ∧ z = (s.drop k).all okF) s.length ⟨0, by omega, rfl, by rw [← hz]; rfl⟩ ?_
    rintro m st ⟨k, hkm, rfl, hE⟩ J hJ
    by_cases hk : k < s.length
    ·obtain ⟨y, hy⟩ : ∃ y, s[k]? = some y := ⟨_, List.getElem?_eq_getElem hk⟩
     rw [drop_at hy, List.all_cons] at hE
     have hd := Oq y
     have hl := WQ y
     have h95 : y = 95 ↔ (y.toNat : Int) = 95 := ⟨fun e => by rw [e]; rfl, fun e => UInt8.toNat_inj.1 (show y.toNat = 95 by omega)⟩
     have hk' : (k : Int) < s.length := by omega
     unfold okF at hE
     generalize IK y = bl at *
     generalize BH y = bd at *
     clear hz
     cases bl
     ·cases bd
      ·repeat' (first | (simp -implicitDefEqProofs [DC, D6, DD, DH, DG, c142, -getElem?_pos, hy, hk']) | (simp (disch := omega) only [AE]) | ((with_reducible refine AH 154 ?_); (refine' CallP.sf ?_ (hd) ?_); (focus first | (with_reducible exact A0 _) | (simp [AA, A8, A1, A0]; done))) | (with_reducible first | refine A5 ?_ ?_ ?_ | exact AB | refine SameB.upd ?_ ?_ _ | assumption | refine A2 ?_ | refine KM.of ?_ | refine AD ?_ | intro _g _hg | refine AC ?_ ?_ | intro _hc) | omega)
       all_goals first | (exfalso; grind) | (refine Ad ?_; rw [hE]; rfl)
      ·repeat' (first | (simp -implicitDefEqProofs [DC, D6, DD, DH, DG, c142, -getElem?_pos, hy, hk']) | (simp (disch := omega) only [AE]) | ((with_reducible refine AH 154 ?_); (refine' CallP.sf ?_ (hd) ?_); (focus first | (with_reducible exact A0 _) | (simp [AA, A8, A1, A0]; done))) | (with_reducible first | refine A5 ?_ ?_ ?_ | exact AB | refine SameB.upd ?_ ?_ _ | assumption | refine A2 ?_ | refine KM.of ?_ | refine AD ?_ | intro _g _hg | refine AC ?_ ?_ | intro _hc) | omega)
       all_goals first | (exact hJ (m - 1) _ (by omega) ⟨k + 1, by omega, rfl, by rw [hE]; rfl⟩) | (exfalso; grind)
     ·repeat' (first | (simp -implicitDefEqProofs [DC, D6, DD, DH, DG, c142, -getElem?_pos, hy, hk']) | (simp (disch := omega) only [AE]) | ((with_reducible refine AH 154 ?_); (refine' CallP.sf ?_ (hd) ?_); (focus first | (with_reducible exact A0 _) | (simp [AA, A8, A1, A0]; done))) | (with_reducible first | refine A5 ?_ ?_ ?_ | exact AB | refine SameB.upd ?_ ?_ _ | assumption | refine A2 ?_ | refine KM.of ?_ | refine AD ?_ | intro _g _hg | refine AC ?_ ?_ | intro _hc) | omega)
      all_goals first | (exact hJ (m - 1) _ (by omega) ⟨k + 1, by omega, rfl, by rw [hE]; rfl⟩) | (exfalso; grind)
    ·have hk0 : k = s.length := by omega
     subst hk0
     have hk' : ¬ (s.length : Int) < s.length := by omega
     rw [List.drop_length] at hE
     rw [hE]
     repeat' (first | (simp -implicitDefEqProofs [DC, D6, DD, DH, DG, c142, -getElem?_pos, hk']) | (simp (disch := omega) only [AE]) | (with_reducible first | refine A5 ?_ ?_ ?_ | exact AB | refine SameB.upd ?_ ?_ _ | assumption | refine A2 ?_ | refine KM.of ?_ | refine AD ?_ | intro _g _hg | refine AC ?_ ?_ | intro _hc) | omega)
     all_goals exact A1 _
   ·simp only [Bool.not_true, Bool.and_false, Bool.false_and] at *
    refine A9 Tryz.func142 PJ rfl fun n H hH => ?_
    repeat' (first | (simp -implicitDefEqProofs [DC, D6, DD, DH, DG, c142, -getElem?_pos, h24', hne, hg0]) | (simp (disch := omega) only [AE]) | ((with_reducible refine AH 154 ?_); (refine' CallP.sf ?_ (hd0) ?_); (focus first | (with_reducible exact A0 _) | (simp [AA, A8, A1, A0]; done))) | (with_reducible first | refine A5 ?_ ?_ ?_ | exact AB | refine SameB.upd ?_ ?_ _ | assumption | refine A2 ?_ | refine KM.of ?_ | refine AD ?_ | intro _g _hg | refine AC ?_ ?_ | intro _hc) | omega)
    all_goals exact A1 _
  ·rw [decide_eq_false h24]
   have h24' : (24 : Int) < (s.length : Int) := by omega
   simp only [Bool.false_and] at *
   refine A9 Tryz.func142 PJ rfl fun n H hH => ?_
   repeat' (first | (simp -implicitDefEqProofs [DC, D6, DD, DH, DG, c142, -getElem?_pos, h24', hne, hg0]) | (simp (disch := omega) only [AE]) | ((with_reducible refine AH 154 ?_); (refine' CallP.sf ?_ (hd0) ?_); (focus first | (with_reducible exact A0 _) | (simp [AA, A8, A1, A0]; done))) | (with_reducible first | refine A5 ?_ ?_ ?_ | exact AB | refine SameB.upd ?_ ?_ _ | assumption | refine A2 ?_ | refine KM.of ?_ | refine AD ?_ | intro _g _hg | refine AC ?_ ?_ | intro _hc) | omega)
   all_goals exact A1 _
def Tv (s : AP) : Bool := !decide (s = Zm) && !decide (s = Se) && !decide (s = Zt) && !decide (s = SY) && !decide (s = Vt) && !decide (s = SU)
theorem ZM (s : AP) : Hm s = (HF s && Tv s) := by
 unfold Hm Tv
 congr 1
 by_cases h : s ∈ VV
 ·have := h
  simp only [VV, List.mem_cons, List.not_mem_nil, or_false] at this
  rw [decide_eq_true h]
  rcases this with rfl | rfl | rfl | rfl | rfl | rfl <;> decide
 ·have := h
  simp only [VV, List.mem_cons, List.not_mem_nil, or_false, not_or] at this
  rw [decide_eq_false h]
  simp [this]
theorem ME (s : AP) (hs : s.length ≤ 2000000) : APure Tryz.prog 105 [.str s] (.bool (Hm s)) := by
 have h1 := WA s hs
 have hk := ZM s
 unfold Tv Zm Se Zt SY Vt SU at hk
 rw [hk]
 generalize HF s = b at *
 clear hk
 refine A9 Tryz.func105 YT rfl fun n H hH => ?_
 repeat' (first | (simp -implicitDefEqProofs [c105, -getElem?_pos]) | (simp (disch := omega) only [AE]) | ((with_reducible refine AH 142 ?_); (refine' CallP.sf ?_ (h1) ?_); (focus first | (with_reducible exact A0 _) | (simp [AA, A8, A1, A0]; done))) | (with_reducible first | refine A5 ?_ ?_ ?_ | exact AB | refine SameB.upd ?_ ?_ _ | assumption | refine A2 ?_ | refine KM.of ?_ | refine AD ?_ | intro _g _hg | refine AC ?_ ?_ | intro _hc) | omega)
 all_goals (refine Ad ?_; grind)
theorem V6 (s : AP) (hs : s.length ≤ 2000000) : APure Tryz.prog 143 [.str s] (.bool (Rf s)) := by
 have h1 := UL s hs
 obtain ⟨h2, h3⟩ := WW s
 have hx : Rf s = ((GS s).2 && decide (0 ≤ (GS s).1) && decide ((GS s).1 ≤ 999)) := by
  unfold Rf
  rw [← h2]
  cases hb : (GS s).2 with
  | false => simp
  | true => rw [h3 (by rw [← h2]; exact hb)]
 rw [hx]
 generalize (GS s).1 = v at *
 generalize (GS s).2 = b at *
 clear hx h2 h3
 refine A9 Tryz.func143 Xw rfl fun n H hH => ?_
 cases b
 ·repeat' (first | (simp -implicitDefEqProofs [c143, -getElem?_pos]) | (simp (disch := omega) only [AE]) | ((with_reducible refine AH 116 ?_); (refine' CallP.sf ?_ (h1) ?_); (focus first | (with_reducible exact A0 _) | (simp [AA, A8, A1, A0]; done))) | (with_reducible first | refine A5 ?_ ?_ ?_ | exact AB | refine SameB.upd ?_ ?_ _ | assumption | refine A2 ?_ | refine KM.of ?_ | refine AD ?_ | intro _g _hg | refine AC ?_ ?_ | intro _hc) | omega)
  all_goals (refine Ad ?_; grind)
 ·repeat' (first | (simp -implicitDefEqProofs [c143, -getElem?_pos]) | (simp (disch := omega) only [AE]) | ((with_reducible refine AH 116 ?_); (refine' CallP.sf ?_ (h1) ?_); (focus first | (with_reducible exact A0 _) | (simp [AA, A8, A1, A0]; done))) | (with_reducible first | refine A5 ?_ ?_ ?_ | exact AB | refine SameB.upd ?_ ?_ _ | assumption | refine A2 ?_ | refine KM.of ?_ | refine AD ?_ | intro _g _hg | refine AC ?_ ?_ | intro _hc) | omega)
  all_goals (refine Ad ?_; grind)
theorem WB (p : List AP) (hb : ∀ s ∈ p, s.length ≤ 2000000) (hl : p.length ≤ 140737488355328) : APure Tryz.prog 106 [Ci p] (.bool (Dl p)) := by
 cases p with
 | nil =>
  have e : Dl [] = false := rfl
  rw [e]
  refine A9 Tryz.func106 PH rfl fun n H hH => ?_
  repeat' (first | (simp -implicitDefEqProofs [DJ, D9, D8, D7, DB, c106, -getElem?_pos]) | (simp (disch := omega) only [AE]) | (with_reducible first | refine A5 ?_ ?_ ?_ | exact AB | refine SameB.upd ?_ ?_ _ | assumption | refine A2 ?_ | refine KM.of ?_ | refine AD ?_ | intro _g _hg | refine AC ?_ ?_ | intro _hc) | omega)
  all_goals exact A1 _
 | cons h t =>
  have h1 := ME h (hb h List.mem_cons_self)
  have e : Dl (h :: t) = (decide ((t.length : Int) + 1 ≤ 8) && Hm h && t.all fun s => Hm s || Rf s) := by
   have : (decide (t.length ≤ 7)) = decide ((t.length : Int) + 1 ≤ 8) := decide_eq_decide.2 (by omega)
   simp only [Dl, this]
  rw [e]
  have hg : (UG (h :: t))[0]? = some (.str h) := rfl
  obtain ⟨z, hz⟩ : ∃ z, (t.all fun s => Hm s || Rf s) = z := ⟨_, rfl⟩
  rw [hz]
  generalize Hm h = ba at *
  by_cases h8 : (t.length : Int) + 1 ≤ 8
  ·rw [decide_eq_true h8]
   have h8' : ¬ (8 : Int) < (t.length : Int) + 1 := by omega
   cases ba
   ·refine A9 Tryz.func106 PH rfl fun n H hH => ?_
    repeat' (first | (simp -implicitDefEqProofs [DJ, D9, D8, D7, DB, c106, -getElem?_pos, h8']) | (simp (disch := omega) only [AE]) | ((with_reducible refine AH 105 ?_); (refine' CallP.sf ?_ (h1) ?_); (focus first | (with_reducible exact A0 _) | (simp [AA, A8, A1, A0]; done))) | (with_reducible first | refine A5 ?_ ?_ ?_ | exact AB | refine SameB.upd ?_ ?_ _ | assumption | refine A2 ?_ | refine KM.of ?_ | refine AD ?_ | intro _g _hg | refine AC ?_ ?_ | intro _hc) | omega)
    all_goals exact A1 _
   ·simp only [Bool.true_and]
    refine A9 Tryz.func106 PH rfl fun n H hH => ?_
    repeat' (first | (simp -implicitDefEqProofs [DJ, D9, D8, D7, DB, c106, -getElem?_pos, h8']) | (simp (disch := omega) only [AE]) | ((with_reducible refine AH 105 ?_); (refine' CallP.sf ?_ (h1) ?_); (focus first | (with_reducible exact A0 _) | (simp [AA, A8, A1, A0]; done))) | (with_reducible first | refine A5 ?_ ?_ ?_ | exact AB | refine SameB.upd ?_ ?_ _ | assumption | refine A2 ?_ | refine KM.of ?_ | refine AD ?_ | intro _g _hg | refine AC ?_ ?_ | intro _hc) | omega)
    refine LoopK.go (fun m st => ∃ (k : Nat), k + m = t.length ∧ st = ⟨[(0, Ci (h :: t)), (3, aI (k + 1 : Nat))], n, H⟩ ∧ z = (t.drop k).all fun s => Hm s || Rf s) t.length ⟨0, by omega, rfl, by rw [← hz]; rfl⟩ ?_
    rintro m st ⟨k, hkm, rfl, hE⟩ J hJ
    clear hz e
    by_cases hk : k < t.length
    ·obtain ⟨y, hy⟩ : ∃ y, t[k]? = some y := ⟨_, List.getElem?_eq_getElem hk⟩
     have hyb := hb y (List.mem_cons_of_mem _ (List.mem_of_getElem? hy))
     rw [drop_at hy, List.all_cons] at hE
     have hi := ME y hyb
     have hx := V6 y hyb
     have hk' : ((k + 1 : Nat) : Int) < (t.length : Int) + 1 := by omega
     have hk2 : (k : Int) + 1 < (t.length : Int) + 1 := by omega
     generalize Hm y = bi at *
     generalize Rf y = bx at *
     cases bi
     ·cases bx
      ·repeat' (first | (simp -implicitDefEqProofs [DJ, D9, D8, D7, DB, c106, -getElem?_pos, hy, hk', hk2]) | (simp (disch := omega) only [AE]) | ((with_reducible refine AH 105 ?_); (refine' CallP.sf ?_ (hi) ?_); (focus first | (with_reducible exact A0 _) | (simp [AA, A8, A1, A0]; done))) | ((with_reducible refine AH 143 ?_); (refine' CallP.sf ?_ (hx) ?_); (focus first | (with_reducible exact A0 _) | (simp [AA, A8, A1, A0]; done))) | (with_reducible first | refine A5 ?_ ?_ ?_ | exact AB | refine SameB.upd ?_ ?_ _ | assumption | refine A2 ?_ | refine KM.of ?_ | refine AD ?_ | intro _g _hg | refine AC ?_ ?_ | intro _hc) | omega)
       all_goals (refine Ad ?_; rw [hE]; rfl)
      ·repeat' (first | (simp -implicitDefEqProofs [DJ, D9, D8, D7, DB, c106, -getElem?_pos, hy, hk', hk2]) | (simp (disch := omega) only [AE]) | ((with_reducible refine AH 105 ?_); (refine' CallP.sf ?_ (hi) ?_); (focus first | (with_reducible exact A0 _) | (simp [AA, A8, A1, A0]; done))) | ((with_reducible refine AH 143 ?_); (refine' CallP.sf ?_ (hx) ?_); (focus first | (with_reducible exact A0 _) | (simp [AA, A8, A1, A0]; done))) | (with_reducible first | refine A5 ?_ ?_ ?_ | exact AB | refine SameB.upd ?_ ?_ _ | assumption | refine A2 ?_ | refine KM.of ?_ | refine AD ?_ | intro _g _hg | refine AC ?_ ?_ | intro _hc) | omega)
       all_goals (exact hJ (m - 1) _ (by omega) ⟨k + 1, by omega, rfl, by rw [hE]; rfl⟩)
     ·repeat' (first | (simp -implicitDefEqProofs [DJ, D9, D8, D7, DB, c106, -getElem?_pos, hy, hk', hk2]) | (simp (disch := omega) only [AE]) | ((with_reducible refine AH 105 ?_); (refine' CallP.sf ?_ (hi) ?_); (focus first | (with_reducible exact A0 _) | (simp [AA, A8, A1, A0]; done))) | ((with_reducible refine AH 143 ?_); (refine' CallP.sf ?_ (hx) ?_); (focus first | (with_reducible exact A0 _) | (simp [AA, A8, A1, A0]; done))) | (with_reducible first | refine A5 ?_ ?_ ?_ | exact AB | refine SameB.upd ?_ ?_ _ | assumption | refine A2 ?_ | refine KM.of ?_ | refine AD ?_ | intro _g _hg | refine AC ?_ ?_ | intro _hc) | omega)
      all_goals (exact hJ (m - 1) _ (by omega) ⟨k + 1, by omega, rfl, by rw [hE]; rfl⟩)
    ·have hk0 : k = t.length := by omega
     subst hk0
     have hk' : ¬ ((t.length + 1 : Nat) : Int) < (t.length : Int) + 1 := by omega
     rw [List.drop_length] at hE
     rw [hE]
     repeat' (first | (simp -implicitDefEqProofs [DJ, D9, D8, D7, DB, c106, -getElem?_pos, hk']) | (simp (disch := omega) only [AE]) | (with_reducible first | refine A5 ?_ ?_ ?_ | exact AB | refine SameB.upd ?_ ?_ _ | assumption | refine A2 ?_ | refine KM.of ?_ | refine AD ?_ | intro _g _hg | refine AC ?_ ?_ | intro _hc) | omega)
     all_goals exact A1 _
  ·rw [decide_eq_false h8]
   have h8' : (8 : Int) < (t.length : Int) + 1 := by omega
   simp only [Bool.false_and]
   refine A9 Tryz.func106 PH rfl fun n H hH => ?_
   repeat' (first | (simp -implicitDefEqProofs [DJ, D9, D8, D7, DB, c106, -getElem?_pos, h8']) | (simp (disch := omega) only [AE]) | ((with_reducible refine AH 105 ?_); (refine' CallP.sf ?_ (h1) ?_); (focus first | (with_reducible exact A0 _) | (simp [AA, A8, A1, A0]; done))) | (with_reducible first | refine A5 ?_ ?_ ?_ | exact AB | refine SameB.upd ?_ ?_ _ | assumption | refine A2 ?_ | refine KM.of ?_ | refine AD ?_ | intro _g _hg | refine AC ?_ ?_ | intro _hc) | omega)
   all_goals exact A1 _
theorem SR (s : AP) : APure Tryz.prog 37 [.str s] (aI (Hy s : Nat)) := by
 have h1 : Hy s = if s = MC then 1 else if s = M7 then 1 else if s = QE then 1 else if s = I9 then 1 else if s = UI then 2 else if s = LY then 2 else if s = U9 then 2 else 0 := by
  unfold Hy Yy ZS
  simp only [List.mem_cons, List.not_mem_nil, or_false]
  grind
 obtain ⟨z, hz⟩ : ∃ z, Hy s = z := ⟨_, rfl⟩
 rw [hz] at h1 ⊢
 unfold MC M7 QE I9 UI LY U9 at h1
 refine A9 Tryz.func37 ZL rfl fun n H hH => ?_
 repeat' (first | (simp -implicitDefEqProofs [T4, TT, c37, -getElem?_pos]) | (simp (disch := omega) only [AE]) | (with_reducible first | refine A5 ?_ ?_ ?_ | exact AB | refine SameB.upd ?_ ?_ _ | assumption | refine A2 ?_ | refine KM.of ?_ | refine AD ?_ | intro _g _hg | refine AC ?_ ?_ | intro _hc) | omega)
 all_goals (refine Ad ?_; grind)
def PL : List (AV × AV) := [(.str [117, 112, 112, 101, 114], .bool false), (.str [108, 111, 119, 101, 114], .bool false), (.str [116, 114, 105, 109], .bool false), (.str [106, 115, 111, 110], .bool false), (.str [112, 97, 100], .bool true), (.str [114, 105, 103, 104, 116], .bool true), (.str [99, 117, 116], .bool true)]
theorem Tj (n : Nat) (H : A4) : ACalls Tryz.prog 64 [] n H fun r n' H' => ∃ g, n ≤ g ∧ n' = g + 1 ∧ r = .mp g ∧ H' = upd H g (some (.map none PL)) := by
 refine BZ Tryz.func64 ZJ rfl fun hs => ?_
 repeat' (first | (simp -implicitDefEqProofs [c64, -getElem?_pos]) | (simp (disch := omega) only [AE]) | (with_reducible first | refine A5 ?_ ?_ ?_ | exact AB | assumption | refine A2 ?_ | refine KM.of ?_ | refine AD ?_ | refine WK ?_ | intro _g _hg | refine AC ?_ ?_ | intro _hc) | omega)
 simp only [Cq]
 exact Hx (r := .mp _) rfl (by omega) (fun k hk => by rw [upd_ne (by omega)]; exact hs k (by omega)) ⟨_, by omega, rfl, rfl, rfl⟩
theorem QY (s : AP) : BK (.str s) PL = if Hy s = 0 then none else some (.bool (decide (Hy s = 2))) := by
 simp only [PL, BK, DL]
 unfold Hy Yy ZS MC M7 QE I9 UI LY U9
 simp only [List.mem_cons, List.not_mem_nil, or_false, decide_eq_true_eq]
 by_cases h1 : s = [117, 112, 112, 101, 114]
 ·simp [h1]
 by_cases h2 : s = [108, 111, 119, 101, 114]
 ·simp [h2]
 by_cases h3 : s = [116, 114, 105, 109]
 ·simp [h3]
 by_cases h4 : s = [106, 115, 111, 110]
 ·simp [h4]
 by_cases h5 : s = [112, 97, 100]
 ·simp [h5]
 by_cases h6 : s = [114, 105, 103, 104, 116]
 ·simp [h6]
 by_cases h7 : s = [99, 117, 116]
 ·simp [h7]
 simp [h1, h2, h3, h4, h5, h6, h7]
theorem C7 {lo : Nat} {gs : List Nat} {d : Option Nat} {K : AS → Prop} {e : AL} {n : Nat} {H : A4} (hs : ∀ k, n ≤ k → H k = none) (hk : ∀ g n', n ≤ g → (n' = 0 ∨ n' = g + 1) → K ⟨AG e d (.mp g), n', upd H g (some (.map none PL))⟩) : exM Tryz.prog .early lo gs d 64 [] K ⟨e, n, H⟩ (CallK Tryz.prog 64 [] d (KC gs H K) ⟨e, n, H⟩) := by
 refine ⟨fun m => ⟨.mp (max n m), 0, _, KeepM.new (hs _ (by omega)), fun k ob hk _ h => ?_, hk (max n m) 0 (by omega) (.inl rfl)⟩, _, Tj n H, ?_⟩
 ·rw [← h]; exact CV (by simp only [upd]; rw [if_neg (by omega)])
 ·rintro r n' H' hle hsup ⟨g, h1, h2, rfl, rfl⟩
  exact ⟨KeepM.new (hs g h1), hk g n' h1 (.inr h2)⟩
theorem DW {gs : List Nat} {ops : List AOper} {K : AS → Prop} {e : AL} {n : Nat} {H : A4} (h : A7 Tryz.prog .early n gs ops (dryK .early K) ⟨e, n, H⟩) : Yu Tryz.prog .early gs ops K ⟨e, n, H⟩ := ⟨[], h⟩
theorem ET {K : AS → Prop} {e : AL} {n' g : Nat} {H : A4} {ob : AObj} (hn : n' = 0 ∨ n' = g + 1) (hg : H g = some ob) (hk : n' = g + 1 → K ⟨e, n', H⟩) : dryK .early K ⟨e, n', H⟩ := by
 rcases hn with h | h
 ·exact .inl ⟨g, by simp only; omega, by simp only; rw [hg]; simp⟩
 ·exact .inr (hk h)
theorem IJ (s : AP) : Hy s = 0 ∨ Hy s = 1 ∨ Hy s = 2 := by
 unfold Hy
 (repeat' split) <;> simp
theorem PQ {l : List (AP × Int)} {i : Nat} {x : AP × Int} (h : l[i]? = some x) : (l.map Zq)[i]? = some (Zq x) := by rw [List.getElem?_map, h]; rfl
theorem IB (k : Int) (t nm : AP) (pa : List AP) (fs : List (AP × Int)) (lb le : List AV) (hpa : ∀ s ∈ pa, s.length ≤ 2000000) (hpl : pa.length ≤ 2000000) (hn : nm.length ≤ 2000000) (hf : fs.length ≤ 2000000) :
  APure Tryz.prog 68 [.agg [aI k, .str t, .str nm, Ci pa, DE fs, .sl 7 lb .ro, .sl 7 le .ro]] (aI (Oj k nm pa fs)) := by
 have h1 := Ok nm hn
 have h2 := Xm pa hpa (by omega)
 have hA : Oj k nm pa fs = if (k = 4 ∧ Hm nm = false) ∨ (k ≠ 1 ∧ Dl pa = false) then 7 else if 8 < fs.length then 2 else HW 0 fs := rfl
 rw [hA]
 generalize Hm nm = b1 at *
 generalize Dl pa = b2 at *
 obtain ⟨z, hz⟩ : ∃ z, (if 8 < fs.length then 2 else HW 0 fs) = z := ⟨_, rfl⟩
 rw [hz]
 refine A9 Tryz.func68 ZB rfl fun n H hH => ?_
 have fin : ∀ g e, n ≤ g → get e 1 = .ptr g 0 → aw Tryz.prog c68_k8 (Kt (aI z) n H c68.res) ⟨e, g + 1, upd H g (some (.cells 55 [aI k, .str t, .str nm, Ci pa, DE fs, .sl 7 lb .ro, .sl 7 le .ro]))⟩ := by
  clear h1 h2 hA
  intro g e hg he
  by_cases h8 : (8 : Int) < fs.length
  ·rw [if_pos (by omega)] at hz
   subst hz
   repeat' (first | (simp -implicitDefEqProofs [C6, CH, C2, C4, CM, CT, CC, Bx, c68, -getElem?_pos, he, h8]) | (simp (disch := omega) only [AE]) | (with_reducible first | refine A5 ?_ ?_ ?_ | exact AB | refine SameB.upd ?_ ?_ _ | assumption | refine A2 ?_ | refine KM.of ?_ | refine AD ?_ | refine A3 ?_ | refine A6 ?_ | intro _g _hg | refine AC ?_ ?_ | intro _hc) | omega)
   all_goals exact A1 _
  ·rw [if_neg (by omega)] at hz
   repeat' (first | (simp -implicitDefEqProofs [C6, CH, C2, C4, CM, CT, CC, Bx, c68, -getElem?_pos, he, h8]) | (simp (disch := omega) only [AE]) | (with_reducible first | refine A5 ?_ ?_ ?_ | exact AB | refine SameB.upd ?_ ?_ _ | assumption | refine A2 ?_ | refine KM.of ?_ | refine AD ?_ | refine A3 ?_ | refine A6 ?_ | intro _g _hg | refine AC ?_ ?_ | intro _hc) | omega)
   refine LoopK.go (fun m st => ∃ (i n' : Nat) (H' : A4), i + m = fs.length ∧ st = ⟨[(32, DE fs), (33, aI fs.length), (34, aI i)], n', H'⟩ ∧ n ≤ n' ∧ SameB n H H' ∧ (∀ q, n' ≤ q → H' q = none) ∧ z = HW i (fs.drop i)) fs.length ⟨0, _, _, by omega, rfl, by omega, (SameB.rfl_ n H).upd hg _, fun q hq => by rw [upd_ne (by omega)]; exact hH q (by omega), hz.symm⟩ ?_
   rintro m st ⟨i, n1, H1, him, rfl, hn1, hS, hsup, hE⟩ J hJ
   clear hz he
   by_cases hi : i < fs.length
   ·obtain ⟨x, hx⟩ : ∃ x, fs[i]? = some x := ⟨_, List.getElem?_eq_getElem hi⟩
    have hx2 := PQ hx
    have hi' : (i : Int) < fs.length := by omega
    rw [drop_at hx, HW] at hE
    have hm := QY x.1
    have hk3 := IJ x.1
    have hj : x.1 = I9 ↔ x.1 = [106, 115, 111, 110] := Iff.rfl
    obtain ⟨a, b⟩ := x
    simp only at hE hm hk3 hj
    generalize Hy a = c at *
    rcases hk3 with rfl | rfl | rfl
    ·simp only [if_true] at hE hm
     repeat' (first | (simp -implicitDefEqProofs [C6, CH, C2, C4, CM, CT, CC, Bx, c68, -getElem?_pos, splice, hm, hx2, hi']) | (simp (disch := omega) only [AE]) | ((with_reducible refine DW ?_)) | ((refine C7 ?_ ?_); (focus (intro q hq; simp only [Cq]; rw [upd_ne (by omega)]; exact hsup q (by omega))); intro _gm _nm _hgm _hnm) | ((refine ET _hnm (AY _ _ _) ?_); intro _hn2; subst _hn2) | (with_reducible first | refine A5 ?_ ?_ ?_ | exact AB | refine SameB.upd ?_ ?_ _ | assumption | refine A2 ?_ | refine KM.of ?_ | refine AD ?_ | refine A3 ?_ | refine A6 ?_ | intro _g _hg | refine AC ?_ ?_ | intro _hc) | omega)
     all_goals (refine Ad ?_; rw [hE])
    ·simp only [show ¬ ((1 : Nat) = 0) by decide, show ¬ ((1 : Nat) = 2) by decide, show ¬ ((2 : Nat) = 0) by decide, show ¬ ((2 : Nat) = 1) by decide, if_false, decide_true, decide_false, true_and, false_and, or_false] at hE hm
     by_cases hr : (b < 0 ∨ 200 < b) ∨ b ≠ 0
     ·rw [if_pos hr] at hE
      repeat' (first | (simp -implicitDefEqProofs [C6, CH, C2, C4, CM, CT, CC, Bx, c68, -getElem?_pos, splice, hm, hx2, hi']) | (simp (disch := omega) only [AE]) | ((with_reducible refine DW ?_)) | ((refine C7 ?_ ?_); (focus (intro q hq; simp only [Cq]; rw [upd_ne (by omega)]; exact hsup q (by omega))); intro _gm _nm _hgm _hnm) | ((refine ET _hnm (AY _ _ _) ?_); intro _hn2; subst _hn2) | (with_reducible first | refine A5 ?_ ?_ ?_ | exact AB | refine SameB.upd ?_ ?_ _ | assumption | refine A2 ?_ | refine KM.of ?_ | refine AD ?_ | refine A3 ?_ | refine A6 ?_ | intro _g _hg | refine AC ?_ ?_ | intro _hc) | omega)
      all_goals first | (refine Ad ?_; rw [hE]; done) | (exfalso; omega) | skip
     ·rw [if_neg hr] at hE
      have r1 : ¬ b < 0 := by omega
      have r2 : ¬ 200 < b := by omega
      have r3 : b = 0 := by omega
      by_cases hjn : 0 < i ∧ a = I9
      ·rw [if_pos hjn] at hE
       obtain ⟨j1, j2⟩ := hjn
       have j1' : (0 : Int) < i := by omega
       rw [hj] at j2
       subst j2
       repeat' (first | (simp -implicitDefEqProofs [C6, CH, C2, C4, CM, CT, CC, Bx, c68, -getElem?_pos, splice, hm, hx2, hi', r1, r2, r3, j1']) | (simp (disch := omega) only [AE]) | ((with_reducible refine DW ?_)) | ((refine C7 ?_ ?_); (focus (intro q hq; simp only [Cq]; rw [upd_ne (by omega)]; exact hsup q (by omega))); intro _gm _nm _hgm _hnm) | ((refine ET _hnm (AY _ _ _) ?_); intro _hn2; subst _hn2) | (with_reducible first | refine A5 ?_ ?_ ?_ | exact AB | refine SameB.upd ?_ ?_ _ | assumption | refine A2 ?_ | refine KM.of ?_ | refine AD ?_ | refine A3 ?_ | refine A6 ?_ | intro _g _hg | refine AC ?_ ?_ | intro _hc) | omega)
       all_goals (refine Ad ?_; rw [hE])
      ·rw [if_neg hjn] at hE
       have hjn' : ¬ (0 < (i : Int) ∧ a = [106, 115, 111, 110]) := fun h => hjn ⟨by omega, hj.2 h.2⟩
       by_cases j2 : a = [106, 115, 111, 110]
       ·have j1' : ¬ (0 : Int) < i := fun h => hjn' ⟨h, j2⟩
        subst j2
        repeat' (first | (simp -implicitDefEqProofs [C6, CH, C2, C4, CM, CT, CC, Bx, c68, -getElem?_pos, splice, hm, hx2, hi', r1, r2, r3, j1']) | (simp (disch := omega) only [AE]) | ((with_reducible refine DW ?_)) | ((refine C7 ?_ ?_); (focus (intro q hq; simp only [Cq]; rw [upd_ne (by omega)]; exact hsup q (by omega))); intro _gm _nm _hgm _hnm) | ((refine ET _hnm (AY _ _ _) ?_); intro _hn2; subst _hn2) | (with_reducible first | refine A5 ?_ ?_ ?_ | exact AB | refine SameB.upd ?_ ?_ _ | assumption | refine A2 ?_ | refine KM.of ?_ | refine AD ?_ | refine A3 ?_ | refine A6 ?_ | intro _g _hg | refine AC ?_ ?_ | intro _hc) | omega)
        exact hJ (m - 1) _ (by omega) ⟨i + 1, _, _, by omega, rfl, by omega, ((hS.upd (by omega) _).upd (by omega) _).upd (by omega) _, fun q hq => by rw [upd_ne (by omega), upd_ne (by omega), upd_ne (by omega)]; exact hsup q (by omega), by rw [hE]⟩
       ·repeat' (first | (simp -implicitDefEqProofs [C6, CH, C2, C4, CM, CT, CC, Bx, c68, -getElem?_pos, splice, hm, hx2, hi', r1, r2, r3, j2]) | (simp (disch := omega) only [AE]) | ((with_reducible refine DW ?_)) | ((refine C7 ?_ ?_); (focus (intro q hq; simp only [Cq]; rw [upd_ne (by omega)]; exact hsup q (by omega))); intro _gm _nm _hgm _hnm) | ((refine ET _hnm (AY _ _ _) ?_); intro _hn2; subst _hn2) | (with_reducible first | refine A5 ?_ ?_ ?_ | exact AB | refine SameB.upd ?_ ?_ _ | assumption | refine A2 ?_ | refine KM.of ?_ | refine AD ?_ | refine A3 ?_ | refine A6 ?_ | intro _g _hg | refine AC ?_ ?_ | intro _hc) | omega)
        exact hJ (m - 1) _ (by omega) ⟨i + 1, _, _, by omega, rfl, by omega, ((hS.upd (by omega) _).upd (by omega) _).upd (by omega) _, fun q hq => by rw [upd_ne (by omega), upd_ne (by omega), upd_ne (by omega)]; exact hsup q (by omega), by rw [hE]⟩
    ·simp only [show ¬ ((1 : Nat) = 0) by decide, show ¬ ((1 : Nat) = 2) by decide, show ¬ ((2 : Nat) = 0) by decide, show ¬ ((2 : Nat) = 1) by decide, if_false, decide_true, decide_false, true_and, false_and, or_false] at hE hm
     by_cases hr : b < 0 ∨ 200 < b
     ·rw [if_pos hr] at hE
      repeat' (first | (simp -implicitDefEqProofs [C6, CH, C2, C4, CM, CT, CC, Bx, c68, -getElem?_pos, splice, hm, hx2, hi']) | (simp (disch := omega) only [AE]) | ((with_reducible refine DW ?_)) | ((refine C7 ?_ ?_); (focus (intro q hq; simp only [Cq]; rw [upd_ne (by omega)]; exact hsup q (by omega))); intro _gm _nm _hgm _hnm) | ((refine ET _hnm (AY _ _ _) ?_); intro _hn2; subst _hn2) | (with_reducible first | refine A5 ?_ ?_ ?_ | exact AB | refine SameB.upd ?_ ?_ _ | assumption | refine A2 ?_ | refine KM.of ?_ | refine AD ?_ | refine A3 ?_ | refine A6 ?_ | intro _g _hg | refine AC ?_ ?_ | intro _hc) | omega)
      all_goals first | (refine Ad ?_; rw [hE]; done) | (exfalso; omega) | skip
     ·rw [if_neg hr] at hE
      have r1 : ¬ b < 0 := by omega
      have r2 : ¬ 200 < b := by omega
      by_cases hjn : 0 < i ∧ a = I9
      ·rw [if_pos hjn] at hE
       obtain ⟨j1, j2⟩ := hjn
       have j1' : (0 : Int) < i := by omega
       rw [hj] at j2
       subst j2
       repeat' (first | (simp -implicitDefEqProofs [C6, CH, C2, C4, CM, CT, CC, Bx, c68, -getElem?_pos, splice, hm, hx2, hi', r1, r2, j1']) | (simp (disch := omega) only [AE]) | ((with_reducible refine DW ?_)) | ((refine C7 ?_ ?_); (focus (intro q hq; simp only [Cq]; rw [upd_ne (by omega)]; exact hsup q (by omega))); intro _gm _nm _hgm _hnm) | ((refine ET _hnm (AY _ _ _) ?_); intro _hn2; subst _hn2) | (with_reducible first | refine A5 ?_ ?_ ?_ | exact AB | refine SameB.upd ?_ ?_ _ | assumption | refine A2 ?_ | refine KM.of ?_ | refine AD ?_ | refine A3 ?_ | refine A6 ?_ | intro _g _hg | refine AC ?_ ?_ | intro _hc) | omega)
       all_goals (refine Ad ?_; rw [hE])
      ·rw [if_neg hjn] at hE
       have hjn' : ¬ (0 < (i : Int) ∧ a = [106, 115, 111, 110]) := fun h => hjn ⟨by omega, hj.2 h.2⟩
       by_cases j2 : a = [106, 115, 111, 110]
       ·have j1' : ¬ (0 : Int) < i := fun h => hjn' ⟨h, j2⟩
        subst j2
        repeat' (first | (simp -implicitDefEqProofs [C6, CH, C2, C4, CM, CT, CC, Bx, c68, -getElem?_pos, splice, hm, hx2, hi', r1, r2, j1']) | (simp (disch := omega) only [AE]) | ((with_reducible refine DW ?_)) | ((refine C7 ?_ ?_); (focus (intro q hq; simp only [Cq]; rw [upd_ne (by omega)]; exact hsup q (by omega))); intro _gm _nm _hgm _hnm) | ((refine ET _hnm (AY _ _ _) ?_); intro _hn2; subst _hn2) | (with_reducible first | refine A5 ?_ ?_ ?_ | exact AB | refine SameB.upd ?_ ?_ _ | assumption | refine A2 ?_ | refine KM.of ?_ | refine AD ?_ | refine A3 ?_ | refine A6 ?_ | intro _g _hg | refine AC ?_ ?_ | intro _hc) | omega)
        exact hJ (m - 1) _ (by omega) ⟨i + 1, _, _, by omega, rfl, by omega, ((hS.upd (by omega) _).upd (by omega) _).upd (by omega) _, fun q hq => by rw [upd_ne (by omega), upd_ne (by omega), upd_ne (by omega)]; exact hsup q (by omega), by rw [hE]⟩
       ·repeat' (first | (simp -implicitDefEqProofs [C6, CH, C2, C4, CM, CT, CC, Bx, c68, -getElem?_pos, splice, hm, hx2, hi', r1, r2, j2]) | (simp (disch := omega) only [AE]) | ((with_reducible refine DW ?_)) | ((refine C7 ?_ ?_); (focus (intro q hq; simp only [Cq]; rw [upd_ne (by omega)]; exact hsup q (by omega))); intro _gm _nm _hgm _hnm) | ((refine ET _hnm (AY _ _ _) ?_); intro _hn2; subst _hn2) | (with_reducible first | refine A5 ?_ ?_ ?_ | exact AB | refine SameB.upd ?_ ?_ _ | assumption | refine A2 ?_ | refine KM.of ?_ | refine AD ?_ | refine A3 ?_ | refine A6 ?_ | intro _g _hg | refine AC ?_ ?_ | intro _hc) | omega)
        exact hJ (m - 1) _ (by omega) ⟨i + 1, _, _, by omega, rfl, by omega, ((hS.upd (by omega) _).upd (by omega) _).upd (by omega) _, fun q hq => by rw [upd_ne (by omega), upd_ne (by omega), upd_ne (by omega)]; exact hsup q (by omega), by rw [hE]⟩
   ·have hi0 : i = fs.length := by omega
    subst hi0
    have hi' : ¬ (fs.length : Int) < fs.length := by omega
    rw [List.drop_length] at hE
    rw [hE]
    repeat' (first | (simp -implicitDefEqProofs [C6, CH, C2, C4, CM, CT, CC, Bx, c68, -getElem?_pos, hi', HW]) | (simp (disch := omega) only [AE]) | (with_reducible first | refine A5 ?_ ?_ ?_ | exact AB | refine SameB.upd ?_ ?_ _ | assumption | refine A2 ?_ | refine KM.of ?_ | refine AD ?_ | refine A3 ?_ | refine A6 ?_ | intro _g _hg | refine AC ?_ ?_ | intro _hc) | omega)
    all_goals exact A1 _
 by_cases k4 : k = 4
 ·cases b1
  ·rw [if_pos (.inl ⟨k4, rfl⟩)]
   repeat' (first | (simp -implicitDefEqProofs [c68, -getElem?_pos, k4]) | (simp (disch := omega) only [AE]) | ((with_reducible refine AH 107 ?_); (refine' CallP.sf ?_ (h1) ?_); (focus first | (with_reducible exact A0 _) | (simp [AA, A8, A1, A0]; done))) | ((with_reducible refine AH 108 ?_); (refine' CallP.sf ?_ (h2) ?_); (focus first | (with_reducible exact A0 _) | (simp [AA, A8, A1, A0]; done))) | (with_reducible first | refine A5 ?_ ?_ ?_ | exact AB | refine SameB.upd ?_ ?_ _ | assumption | refine A2 ?_ | refine KM.of ?_ | refine AD ?_ | refine A3 ?_ | refine A6 ?_ | intro _g _hg | refine AC ?_ ?_ | intro _hc) | omega)
   all_goals exact A1 _
  ·have k1 : k ≠ 1 := by omega
   cases b2
   ·rw [if_pos (.inr ⟨k1, rfl⟩)]
    repeat' (first | (simp -implicitDefEqProofs [c68, -getElem?_pos, k4]) | (simp (disch := omega) only [AE]) | ((with_reducible refine AH 107 ?_); (refine' CallP.sf ?_ (h1) ?_); (focus first | (with_reducible exact A0 _) | (simp [AA, A8, A1, A0]; done))) | ((with_reducible refine AH 108 ?_); (refine' CallP.sf ?_ (h2) ?_); (focus first | (with_reducible exact A0 _) | (simp [AA, A8, A1, A0]; done))) | (with_reducible first | refine A5 ?_ ?_ ?_ | exact AB | refine SameB.upd ?_ ?_ _ | assumption | refine A2 ?_ | refine KM.of ?_ | refine AD ?_ | refine A3 ?_ | refine A6 ?_ | intro _g _hg | refine AC ?_ ?_ | intro _hc) | omega)
    all_goals exact A1 _
   ·rw [if_neg (by simp)]
    repeat' (first | (simp -implicitDefEqProofs [c68, -getElem?_pos, k4]) | (simp (disch := omega) only [AE]) | ((with_reducible refine AH 107 ?_); (refine' CallP.sf ?_ (h1) ?_); (focus first | (with_reducible exact A0 _) | (simp [AA, A8, A1, A0]; done))) | ((with_reducible refine AH 108 ?_); (refine' CallP.sf ?_ (h2) ?_); (focus first | (with_reducible exact A0 _) | (simp [AA, A8, A1, A0]; done))) | (with_reducible first | refine A5 ?_ ?_ ?_ | exact AB | refine SameB.upd ?_ ?_ _ | assumption | refine A2 ?_ | refine KM.of ?_ | refine AD ?_ | refine A3 ?_ | refine A6 ?_ | intro _g _hg | refine AC ?_ ?_ | intro _hc) | omega)
    all_goals (subst k4; exact fin _ _ (by assumption) rfl)
 ·by_cases k1 : k = 1
  ·rw [if_neg (by simp [k4, k1])]
   repeat' (first | (simp -implicitDefEqProofs [c68, -getElem?_pos, k1]) | (simp (disch := omega) only [AE]) | ((with_reducible refine AH 107 ?_); (refine' CallP.sf ?_ (h1) ?_); (focus first | (with_reducible exact A0 _) | (simp [AA, A8, A1, A0]; done))) | ((with_reducible refine AH 108 ?_); (refine' CallP.sf ?_ (h2) ?_); (focus first | (with_reducible exact A0 _) | (simp [AA, A8, A1, A0]; done))) | (with_reducible first | refine A5 ?_ ?_ ?_ | exact AB | refine SameB.upd ?_ ?_ _ | assumption | refine A2 ?_ | refine KM.of ?_ | refine AD ?_ | refine A3 ?_ | refine A6 ?_ | intro _g _hg | refine AC ?_ ?_ | intro _hc) | omega)
   all_goals (subst k1; exact fin _ _ (by assumption) rfl)
  ·cases b2
   ·rw [if_pos (.inr ⟨k1, rfl⟩)]
    repeat' (first | (simp -implicitDefEqProofs [c68, -getElem?_pos, k4, k1]) | (simp (disch := omega) only [AE]) | ((with_reducible refine AH 107 ?_); (refine' CallP.sf ?_ (h1) ?_); (focus first | (with_reducible exact A0 _) | (simp [AA, A8, A1, A0]; done))) | ((with_reducible refine AH 108 ?_); (refine' CallP.sf ?_ (h2) ?_); (focus first | (with_reducible exact A0 _) | (simp [AA, A8, A1, A0]; done))) | (with_reducible first | refine A5 ?_ ?_ ?_ | exact AB | refine SameB.upd ?_ ?_ _ | assumption | refine A2 ?_ | refine KM.of ?_ | refine AD ?_ | refine A3 ?_ | refine A6 ?_ | intro _g _hg | refine AC ?_ ?_ | intro _hc) | omega)
    all_goals exact A1 _
   ·rw [if_neg (by simp [k4])]
    repeat' (first | (simp -implicitDefEqProofs [c68, -getElem?_pos, k4, k1]) | (simp (disch := omega) only [AE]) | ((with_reducible refine AH 107 ?_); (refine' CallP.sf ?_ (h1) ?_); (focus first | (with_reducible exact A0 _) | (simp [AA, A8, A1, A0]; done))) | ((with_reducible refine AH 108 ?_); (refine' CallP.sf ?_ (h2) ?_); (focus first | (with_reducible exact A0 _) | (simp [AA, A8, A1, A0]; done))) | (with_reducible first | refine A5 ?_ ?_ ?_ | exact AB | refine SameB.upd ?_ ?_ _ | assumption | refine A2 ?_ | refine KM.of ?_ | refine AD ?_ | refine A3 ?_ | refine A6 ?_ | intro _g _hg | refine AC ?_ ?_ | intro _hc) | omega)
    all_goals exact fin _ _ (by assumption) rfl
theorem Rs {P : Program} {f : Nat} {args : List AV} {n : Nat} {H : A4} {R R' : Et} (h : ACalls P f args n H R) (k : ∀ r n' H', R r n' H' → R' r n' H') : ACalls P f args n H R' := fun hs w0 G w vs hl hr hv => (h hs w0 G w vs hl hr hv).mono fun e w' ⟨v, r, G', n', H', e1, e2, e3⟩ => ⟨v, r, G', n', H', e1, k _ _ _ e2, e3⟩
def Bs (n0 : Nat) (H0 : A4) (g : Nat) (b : AP) (bs : List (Nat × AObj)) (n : Nat) (H : A4) : Prop :=
 ∃ a0 xb, Owns n0 H0 ((g, ZG a0 xb) :: bs) [WV xb b] n H ∧ (a0 = .np ∨ a0 = .ptr g 0) ∧ (∀ x ∈ bs, x.1 ≠ g) ∧ (b = [] → ∃ z, xb = .sl z [] .nil)
def HD (n : Nat) (H : A4) : List (Nat × AObj) → Prop
 | [] => True
 | (g, ob) :: r => (H g = some ob ∧ g < n) ∧ HD n H r
section
variable {n0 g n : Nat} {H0 H : A4} {b : AP} {bs : List (Nat × AObj)}
theorem Bs.le (h : Bs n0 H0 g b bs n H) : n0 ≤ n := by obtain ⟨_, _, h, _⟩ := h; exact h.le
theorem Bs.same (h : Bs n0 H0 g b bs n H) : SameB n0 H0 H := by obtain ⟨_, _, h, _⟩ := h; exact h.same
theorem Bs.sup (h : Bs n0 H0 g b bs n H) : ∀ q, n ≤ q → H q = none := by obtain ⟨_, _, h, _⟩ := h; exact h.mem.sup
theorem Bs.at_ (h : Bs n0 H0 g b bs n H) {g5 : Nat} {ob : AObj} (hm : (g5, ob) ∈ bs) : H g5 = some ob ∧ g5 < n := by
 obtain ⟨_, _, h, _⟩ := h
 have h1 := (h.box _ (List.mem_cons_of_mem _ hm)).1
 exact ⟨h1, h.mem.lt h1⟩
theorem Bs.facts (h : Bs n0 H0 g b bs n H) : HD n H bs := by
 have key : ∀ l : List (Nat × AObj), (∀ x ∈ l, x ∈ bs) → HD n H l := by
  intro l
  induction l with
  | nil => intro _; trivial
  | cons x r ih =>
   intro hl
   obtain ⟨g5, ob⟩ := x
   have hx : (g5, ob) ∈ bs := hl _ List.mem_cons_self
   exact ⟨Bs.at_ h hx, ih fun y hy => hl y (List.mem_cons_of_mem _ hy)⟩
 exact key bs fun _ h => h
theorem Bs.lt (h : Bs n0 H0 g b bs n H) : g < n ∧ n0 ≤ g := by
 obtain ⟨_, _, h, _⟩ := h
 obtain ⟨h1, h2, _⟩ := h.box _ List.mem_cons_self
 exact ⟨h.mem.lt h1, h2⟩
theorem Bs.less {bs' : List (Nat × AObj)} (h : Bs n0 H0 g b bs n H) (hs : ∀ x ∈ bs', x ∈ bs) : Bs n0 H0 g b bs' n H := by
 obtain ⟨a0, xb, h, h1, h2, h3⟩ := h
 refine ⟨a0, xb, ⟨h.mem, fun x hx => ?_, h.row, h.apart⟩, h1, fun x hx => h2 x (hs x hx), h3⟩
 rcases List.mem_cons.1 hx with rfl | hx
 ·exact h.box _ List.mem_cons_self
 ·exact h.box _ (List.mem_cons_of_mem _ (hs _ hx))
theorem Bs.add (h : Bs n0 H0 g b bs n H) {g5 : Nat} (hg : n ≤ g5) (ob : AObj) (hr : ∀ e m, ob ≠ .row e m) : Bs n0 H0 g b ((g5, ob) :: bs) (g5 + 1) (upd H g5 (some ob)) := by
 have hl := h.lt
 obtain ⟨a0, xb, h, h1, h2, h3⟩ := h
 have h' := h.addOb hg ob hr
 refine ⟨a0, xb, ⟨h'.mem, fun x hx => ?_, h'.row, h'.apart⟩, h1, fun x hx => ?_, h3⟩
 ·refine h'.box x ?_
  simp only [List.mem_cons] at hx ⊢
  rcases hx with h | h | h
  ·exact .inr (.inl h)
  ·exact .inl h
  ·exact .inr (.inr h)
 ·rcases List.mem_cons.1 hx with rfl | hx
  ·simp only; omega
  ·exact h2 x hx
theorem Bs.add2 (h : Bs n0 H0 g b bs n H) {g5 : Nat} (hg : n ≤ g5) (ob0 : Option AObj) (e : TypeId) (cs : List AV) : Bs n0 H0 g b ((g5, .cells e cs) :: bs) (g5 + 1) (upd (upd H g5 ob0) g5 (some (.cells e cs))) := by
 rw [Cq]; exact h.add hg _ (by intro e m h; cases h)
theorem Bs.start (hs : ∀ k, n ≤ k → H k = none) (hg : n ≤ g) : Bs n H g [] [] (g + 1) (upd H g (some (ZG .np (.sl 0 [] .nil)))) :=
 ⟨.np, .sl 0 [] .nil, ((Owns.start hs).addBox hg _ _).addNil _ _ _, .inl rfl, by simp, fun _ => ⟨0, rfl⟩⟩
theorem Bs.write (h : Bs n0 H0 g b bs n H) (c : AP) (hc : c ≠ [] ∨ b ≠ []) (hlen : b.length + c.length ≤ 1000000000000) :
  ACalls Tryz.prog 62 [.ptr g 0, .str c] n H fun _ n' H' => n ≤ n' ∧ Bs n0 H0 g (b ++ c) bs n' H' := by
 obtain ⟨a0, xb, h, h1, h2, h3⟩ := h
 refine Rs (MX c h h1 h2 hlen) fun r n' H' ⟨_, hle, xb', hO⟩ => ⟨hle, _, xb', hO, .inr rfl, h2, fun e => ?_⟩
 have := List.append_eq_nil_iff.1 e
 rcases hc with hc | hc
 ·exact absurd this.2 hc
 ·exact absurd this.1 hc
theorem Bs.rel {b' : AP} (e : b = b') (h : Bs n0 H0 g b bs n H) : Bs n0 H0 g b' bs n H := e ▸ h
theorem Bs.str (h : Bs n0 H0 g b bs n H) (hlen : b.length ≤ 1000000000) : APureAt Tryz.prog 47 [.ptr g 0] n H (.str b) := by
 obtain ⟨a0, xb, h, h1, h2, h3⟩ := h
 exact Ps h h1 h3 hlen
end
end Go.Proofs.YtnfjgphfaemjcaaGreatDoor
