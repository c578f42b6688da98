/- Templates: the reference's text of one; no condition. -/
import Derived.Test.YtnfjgphfaemjcaaGreatDoorMgI
import Derived.Test.YtnfjgphfaemjcaaGreatDoorMdQ
import Derived.Test.YtnfjgphfaemjcaaGreatDoorMgJ
import Derived.Test.YtnfjgphfaemjcaaGreatDoorMgG
import Derived.WalkKit
import Derived.Lib.Hide
import Derived.Lib.AppendZeros
import Derived.Lib.AppendZerosOnto
import Derived.Test.YtnfjgphfaemjcaaGreatDoorMdO
import Derived.Test.YtnfjgphfaemjcaaGreatDoorAdE
import Derived.Test.YtnfjgphfaemjcaaGreatDoorMgL
import Derived.Test.YtnfjgphfaemjcaaGreatDoorMdN
import Derived.Test.YtnfjgphfaemjcaaGreatDoorMdM
import Derived.ProofKit
import Derived.OpenShut
import Derived.LaidLaws
import Derived.Deep.DeepHandedRow
import Derived.Deep.DeepWitnessRowRef
import Derived.Lib.LaidTab
import Derived.Lib.LaidU8
import Derived.MakeChecks
import Derived.Lay
set_option linter.all false
set_option linter.unusedSimpArgs false
set_option linter.unusedVariables false
set_option maxHeartbeats 4000000
namespace Go.Proofs.YtnfjgphfaemjcaaGreatDoor
open Go.RowKit
theorem U5 : ∃ i z, Tryz.prog.info? 55 = some i ∧ i.zero = some z ∧ z.cells.size = 7 ∧ i.size = 7 ∧ i.bytes = 136 := by
 have h : ((Tryz.prog.info? 55).bind fun i => i.zero.map fun z => (z.cells.size, i.size, i.bytes)) = some (7, 7, 136) := by kernel_rfl
 cases hi : Tryz.prog.info? 55 with
 | none => rw [hi] at h; cases h
 | some i =>
  rw [hi] at h
  simp only [Option.bind_some] at h
  cases hz : i.zero with
  | none => rw [hz] at h; cases h
  | some z =>
   rw [hz] at h
   simp only [Option.map_some, Option.some.injEq, Prod.mk.injEq] at h
   exact ⟨i, z, rfl, hz, h⟩
set_option maxRecDepth 100000 in
theorem Xk (k : Nat) (w : World) (h0 : 0 < k) (hm : k ≤ 4000000) : ∃ (cs : Array Value) (cp : Nat), k ≤ cp ∧ cp ≤ maxLen ∧ cs.size = cp * 7 ∧
  Calls Tryz.prog 162 #[.slice none 0 0, .int .i64 k] w fun e w' => e = .returned (.slice (some ⟨w.heap.size, 0, none⟩) 0 cp) ∧ w' = w.drew.alloc (.cells cs 55) := by
 obtain ⟨i0, zv, hi, hz0, hzc, hz1, hz2⟩ := U5
 have hrun := fun (w : World) (ty : TypeId) => Lib.run_append_grow_zeros (P := Tryz.prog) w 22 3 ty 55 i0 _ .i64 .i64 Tryz.underlying22 Tryz.underlying3 hi hz0 none 0 0 [] (by exact run_firstCells_none w.drew i0.size 0 0 0) k (by omega) (by omega) (by omega) (by omega) (by rw [hz2]; omega) (by rw [hz2]; exact growslice_fits (by omega) (by omega))
 have hge := grownCap_ge w (0 + k) 0 55
 have hle := grownCap_le_maxLen w (0 + k) 0 55 (by simp only [maxLen]; omega)
 obtain ⟨cp, hcp⟩ : ∃ cp, cp = grownCap w (0 + k) 0 55 := ⟨_, rfl⟩
 have hrun' := fun ty => hrun w ty
 rw [← hcp] at hge hle
 simp only [← hcp] at hrun'
 simp only [Nat.zero_add] at hge hle hrun'
 obtain ⟨cs, hcs⟩ : ∃ cs : Array Value, cs = #[] ++ Builtin.zeroCells zv.cells k ++ Builtin.zeroCells zv.cells (cp - k) := ⟨_, rfl⟩
 simp only [← hcs] at hrun'
 have hsz : cs.size = cp * 7 := by
  rw [hcs]; simp [size_zeroCells, hzc]; omega
 refine ⟨cs, cp, hge, hle, hsz, ?_⟩
 clear hrun hcs hsz hge hle hcp
 have hn1 : ¬ ((k : Int) < 0) := by omega
 have hn2 : (0 : Int) < (k : Int) := by omega
 have b1 : 0 ≤ cp := Nat.zero_le _
 have HRun := Lib.hid hrun'
 clear hrun'
 go_enter Tryz.func162, Tryz.ntmps162
 go_wp2_with (at_builtin; refine Lib.wpList_append_run _ rfl _ _ 22 3 rfl _ _ rfl rfl _ _ (HRun.out _) ?_)
 go_ret
 exact ⟨rfl, rfl⟩
theorem YQ (n : Nat) (H : A2) : ACalls Tryz.prog 162 [.sl 0 [] .nil, .int .i64 0] n H fun r n' H' => r = .sl 0 [] .nil ∧ n' = n ∧ H' = H := by
 intro hs w0 G w vs hl hr0 hrep
 cases hrep with | cons h1 h2 =>
 cases h2 with | cons h2 h3 =>
 cases h3
 cases h1
 cases h2
 have key : Calls Tryz.prog 162 #[.slice none 0 0, .int .i64 0] w fun e w' => e = .returned (.slice none 0 0) ∧ w' = w := by
  go_enter Tryz.func162, Tryz.ntmps162
  go_wp2
  go_ret
  exact ⟨rfl, rfl⟩
 refine key.mono ?_
 rintro e w' ⟨rfl, rfl⟩
 exact ⟨_, _, G, n, H, rfl, ⟨rfl, rfl, rfl⟩, .slnil, Gh.Le.rfl_ _, Nat.le_refl _, hr0⟩
theorem YL (k : Nat) (h0 : 0 < k) (hm : k ≤ 4000000) (n : Nat) (H : A2) : ACalls Tryz.prog 162 [.sl 0 [] .nil, .int .i64 k] n H fun r n' H' => ∃ g, n ≤ g ∧ r = .sl 7 [] (.own g) ∧ n' = g + 1 ∧ H' = upd H g (some (.row 55 0)) := by
 intro hs w0 G w vs hl hr0 hrep
 cases hrep with | cons h1 h2 =>
 cases h2 with | cons h2 h3 =>
 cases h3
 cases h1
 cases h2
 obtain ⟨cs, cp, c1, c2, c3, hc⟩ := Xk k w h0 hm
 refine hc.mono ?_
 rintro e w' ⟨rfl, rfl⟩
 have hsz7 : Aq Tryz.prog 55 = 7 := by
  obtain ⟨i0, zv, hi, hz0, hzc, hz1, hz2⟩ := U5
  simp [Aq, hi, hz1]
 have hrel := (hr0.same (w' := w.drew) rfl rfl rfl rfl).newRow (w' := w.drew.alloc (.cells cs 55)) (cur := cs) (e := 55) (fz := (0, 0)) (vs := []) (c := some (55, cp)) (ob := some (.row 55 0)) rfl rfl rfl rfl
  (fun j u hu => by cases hu) (fun e' c' hc => by injection hc with hc; injection hc with a b; subst a; subst b; exact ⟨rfl, by rw [hsz7]; exact c3⟩)
  (.inr ⟨0, _, rfl, rfl, by simp, Nat.zero_le _, c2, by simp⟩)
 have hle := (hr0.same (w' := w.drew) rfl rfl rfl rfl).addLe [] (some (55, cp))
 refine ⟨_, .sl 7 [] (.own w.heap.size), _, w.heap.size + 1, _, rfl, ⟨w.heap.size, hr0.hi, rfl, rfl, rfl⟩, ?_, hle, by have := hr0.hi; omega, hrel⟩
 exact .slown (e := 55) .nil (Gh.add_sealed _ _ _) ⟨by simp, c2, by omega, by simp, by simp [AD]⟩ rfl (by simp [Gh.add])
attribute [local simp] Jm Dg Dj KG JZ J0 KK DQ DZ EU FW I7 Id IP KJ IM IT KR JD K4 IH Ix J2 Ju KD R5 pe Jg J3 JV K7 KF Jn Ip J9 KQ Jw KT ID J8 F0 Nd NU MY Mh MU Mj MN ML Nf MK M9 MQ NP Nn Mn Ms Np MB Mi M8 NA F2 NG FC MA NB No NL NF NX N2 NK Mp MH MC Nh MF N6 NC NM MG NN NZ MO Mm ND Nk NR NI Eu NJ Mv MX NE Me Mb NT MI NS Md Mt ME MJ N8 Nm MV NQ NO Mo I6 K5 Jv Ji Jb JQ I5 IZ IL Ig JA HM K9 List.mem_cons guardK Cs E6 EM Fd Ng Ew F1 Ez Es Ep F8 Eq F7 Ef MS MR Er Jq Ml NV Nl MM Mx El JG N3 Mc JT Jp Nc Gp F5 Ey Et FA Ni N5 F9 N4 Ej KI En Ek JE Ev FB My MT Mr IX Mu Nq J4 Jo Qz I0 Hd G4 HQ Hu Hx DC Ea EW JB Eb Ee DG Cv Su Hc HS Ec Hq Hs Cl Ch B1 Au Ba Ci Cb ev get put Dx AB CS K8 I4 Io Jh Hy Ib DP part Am Fo IF Fb isNil CI CP Cp CQ CR Im JM IC Ia Jx JO JS JN IA It KA IU Jt IK Is K0 AV.fits AV.cells ones AV.one D7 BY DB CY DK DM KO E5 EG C5 BB CD ER Cw AY Ao TZ FO K3 I9 List.getElem?_cons_zero List.getElem?_cons_succ Ei Eg Eh JC K2 Jy Fp Ih IQ IR Jz JP Iu J7 Mg Ij Ii JF IE KN JY IB JI Ie KH KP JW Je IG Jl JK Jk Jd J6 Jj
theorem Vf (eb ee : List AV) (hb : eb.length ≤ 1000000) (he : ee.length ≤ 1000000) (h0 : 0 < eb.length + ee.length) : APure Tryz.prog 123 [.sl 1 [.sl 7 eb .ro, .sl 7 ee .ro] .ro] (.sl 7 (eb ++ ee) .ro) := by
 have hgr := YL (eb.length + ee.length) h0 (by omega)
 have hcast : ((eb.length + ee.length : Nat) : Int) = (eb.length : Int) + ee.length := by omega
 rw [hcast] at hgr
 have h1 : ¬ ((0 : Int) + eb.length < 0) := by omega
 have h2 : ¬ ((eb.length : Int) + ee.length < 0) := by omega
 have h3 : ¬ ((eb.length : Int) < 0) := by omega
 refine AM Tryz.func123 Uq rfl fun n H hH => ?_
 repeat' (first | (simp -implicitDefEqProofs [c123, -getElem?_pos]) | (simp (disch := omega) only [AJ]) | (with_reducible first | refine A8 ?_ ?_ ?_ | exact AG | assumption | refine A3 ?_ | refine KM.of ?_ | refine AI ?_ | intro _g _hg | refine AK ?_ ?_ | intro _hc) | omega)
 refine LoopK.round ?_
 repeat' (first | (simp -implicitDefEqProofs [Ag, Aj, Ah, Af, Al, Ak, Ai, Ae, c123, -getElem?_pos, h1, h2, h3]) | (simp (disch := omega) only [AJ]) | (with_reducible first | refine A8 ?_ ?_ ?_ | exact AG | assumption | refine A3 ?_ | refine KM.of ?_ | refine AI ?_ | intro _g _hg | refine AK ?_ ?_ | intro _hc) | omega)
 refine LoopK.round ?_
 repeat' (first | (simp -implicitDefEqProofs [Ag, Aj, Ah, Af, Al, Ak, Ai, Ae, c123, -getElem?_pos, h1, h2, h3]) | (simp (disch := omega) only [AJ]) | (with_reducible first | refine A8 ?_ ?_ ?_ | exact AG | assumption | refine A3 ?_ | refine KM.of ?_ | refine AI ?_ | intro _g _hg | refine AK ?_ ?_ | intro _hc) | omega)
 refine LoopK.round ?_
 repeat' (first | (simp -implicitDefEqProofs [Ag, Aj, Ah, Af, Al, Ak, Ai, Ae, c123, -getElem?_pos, h1, h2, h3]) | (simp (disch := omega) only [AJ]) | ((with_reducible refine Ad 162 ?_); refine ⟨_, hgr _ _, ?_⟩; rintro r n' H' hn hs ⟨gg, hg, rfl, rfl, rfl⟩) | (with_reducible first | refine A8 ?_ ?_ ?_ | exact AG | assumption | refine A3 ?_ | refine KM.of ?_ | refine AI ?_ | intro _g _hg | refine AK ?_ ?_ | intro _hc) | omega)
 refine LoopK.round ?_
 repeat' (first | (simp -implicitDefEqProofs [Ag, Aj, Ah, Af, Al, Ak, Ai, Ae, c123, -getElem?_pos, h1, h2, h3]) | (simp (disch := omega) only [AJ]) | (with_reducible first | refine A8 ?_ ?_ ?_ | exact AG | assumption | refine A3 ?_ | refine KM.of ?_ | refine AI ?_ | intro _g _hg | refine AK ?_ ?_ | intro _hc) | omega)
 refine ⟨.inl rfl, eb, A0 _, by simp only [List.length_nil]; omega, by simp only [List.length_nil, maxLen]; omega, rfl, AY _ _ _, fun g1 n1 q1 q2 q3 => ?_⟩
 simp only [List.nil_append, List.length_nil, Nat.zero_add]
 repeat' (first | (simp -implicitDefEqProofs [Ag, Aj, Ah, Af, Al, Ak, Ai, Ae, c123, -getElem?_pos, h1, h2, h3]) | (simp (disch := omega) only [AJ]) | (with_reducible first | refine A8 ?_ ?_ ?_ | exact AG | assumption | refine A3 ?_ | refine KM.of ?_ | refine AI ?_ | intro _g _hg | refine AK ?_ ?_ | intro _hc) | omega)
 refine LoopK.round ?_
 repeat' (first | (simp -implicitDefEqProofs [Ag, Aj, Ah, Af, Al, Ak, Ai, Ae, c123, -getElem?_pos, h1, h2, h3]) | (simp (disch := omega) only [AJ]) | (with_reducible first | refine A8 ?_ ?_ ?_ | exact AG | assumption | refine A3 ?_ | refine KM.of ?_ | refine AI ?_ | intro _g _hg | refine AK ?_ ?_ | intro _hc) | omega)
 refine ⟨.inl rfl, ee, A0 _, by omega, by simp only [maxLen]; omega, rfl, AY _ _ _, fun g2 n2 q4 q5 q6 => ?_⟩
 repeat' (first | (simp -implicitDefEqProofs [Ag, Aj, Ah, Af, Al, Ak, Ai, Ae, c123, -getElem?_pos, h1, h2, h3]) | (simp (disch := omega) only [AJ]) | (with_reducible first | refine A8 ?_ ?_ ?_ | exact AG | assumption | refine A3 ?_ | refine KM.of ?_ | refine AI ?_ | intro _g _hg | refine AK ?_ ?_ | intro _hc) | omega)
 refine LoopK.round ?_
 repeat' (first | (simp -implicitDefEqProofs [Ag, Aj, Ah, Af, Al, Ak, Ai, Ae, c123, -getElem?_pos, h1, h2, h3]) | (simp (disch := omega) only [AJ]) | (with_reducible first | refine A8 ?_ ?_ ?_ | exact AG | assumption | refine A3 ?_ | refine KM.of ?_ | refine AI ?_ | intro _g _hg | refine AK ?_ ?_ | intro _hc) | omega)
 all_goals simp only at hg q1 q2 q4 q5
 ·exact ⟨7, _, _, rfl, .inl rfl, .inl rfl, A0 _⟩
 ·omega
 ·intro q hq
  simp (disch := omega) only [upd_ne]
theorem Vl : APure Tryz.prog 123 [.sl 1 [.sl 7 [] .ro, .sl 7 [] .ro] .ro] (.sl 0 [] .ro) := by
 refine AM Tryz.func123 Uq rfl fun n H hH => ?_
 repeat' (first | (simp -implicitDefEqProofs [c123, -getElem?_pos]) | (simp (disch := omega) only [AJ]) | (with_reducible first | refine A8 ?_ ?_ ?_ | exact AG | assumption | refine A3 ?_ | refine KM.of ?_ | refine AI ?_ | intro _g _hg | refine AK ?_ ?_ | intro _hc) | omega)
 refine LoopK.round ?_
 repeat' (first | (simp -implicitDefEqProofs [Ag, Aj, Ah, Af, Al, Ak, Ai, Ae, c123, -getElem?_pos]) | (simp (disch := omega) only [AJ]) | (with_reducible first | refine A8 ?_ ?_ ?_ | exact AG | assumption | refine A3 ?_ | refine KM.of ?_ | refine AI ?_ | intro _g _hg | refine AK ?_ ?_ | intro _hc) | omega)
 refine LoopK.round ?_
 repeat' (first | (simp -implicitDefEqProofs [Ag, Aj, Ah, Af, Al, Ak, Ai, Ae, c123, -getElem?_pos]) | (simp (disch := omega) only [AJ]) | (with_reducible first | refine A8 ?_ ?_ ?_ | exact AG | assumption | refine A3 ?_ | refine KM.of ?_ | refine AI ?_ | intro _g _hg | refine AK ?_ ?_ | intro _hc) | omega)
 refine LoopK.round ?_
 repeat' (first | (simp -implicitDefEqProofs [Ag, Aj, Ah, Af, Al, Ak, Ai, Ae, c123, -getElem?_pos]) | (simp (disch := omega) only [AJ]) | ((with_reducible refine Ad 162 ?_); refine ⟨_, YQ _ _, ?_⟩; rintro r n' H' hn hs ⟨rfl, rfl, rfl⟩) | (with_reducible first | refine A8 ?_ ?_ ?_ | exact AG | assumption | refine A3 ?_ | refine KM.of ?_ | refine AI ?_ | intro _g _hg | refine AK ?_ ?_ | intro _hc) | omega)
 refine LoopK.round ?_
 repeat' (first | (simp -implicitDefEqProofs [Ag, Aj, Ah, Af, Al, Ak, Ai, Ae, c123, -getElem?_pos]) | (simp (disch := omega) only [AJ]) | (with_reducible first | refine A8 ?_ ?_ ?_ | exact AG | assumption | refine A3 ?_ | refine KM.of ?_ | refine AI ?_ | intro _g _hg | refine AK ?_ ?_ | intro _hc) | omega)
 refine ⟨.inr rfl, [], rfl, by simp, by simp [maxLen], fun _ => ?_, fun h => (h rfl).elim⟩
 repeat' (first | (simp -implicitDefEqProofs [Ag, Aj, Ah, Af, Al, Ak, Ai, Ae, c123, -getElem?_pos]) | (simp (disch := omega) only [AJ]) | (with_reducible first | refine A8 ?_ ?_ ?_ | exact AG | assumption | refine A3 ?_ | refine KM.of ?_ | refine AI ?_ | intro _g _hg | refine AK ?_ ?_ | intro _hc) | omega)
 refine LoopK.round ?_
 repeat' (first | (simp -implicitDefEqProofs [Ag, Aj, Ah, Af, Al, Ak, Ai, Ae, c123, -getElem?_pos]) | (simp (disch := omega) only [AJ]) | (with_reducible first | refine A8 ?_ ?_ ?_ | exact AG | assumption | refine A3 ?_ | refine KM.of ?_ | refine AI ?_ | intro _g _hg | refine AK ?_ ?_ | intro _hc) | omega)
 refine ⟨.inr rfl, [], rfl, by simp, by simp [maxLen], fun _ => ?_, fun h => (h rfl).elim⟩
 repeat' (first | (simp -implicitDefEqProofs [Ag, Aj, Ah, Af, Al, Ak, Ai, Ae, c123, -getElem?_pos]) | (simp (disch := omega) only [AJ]) | (with_reducible first | refine A8 ?_ ?_ ?_ | exact AG | assumption | refine A3 ?_ | refine KM.of ?_ | refine AI ?_ | intro _g _hg | refine AK ?_ ?_ | intro _hc) | omega)
 refine LoopK.round ?_
 repeat' (first | (simp -implicitDefEqProofs [Ag, Aj, Ah, Af, Al, Ak, Ai, Ae, c123, -getElem?_pos]) | (simp (disch := omega) only [AJ]) | (with_reducible first | refine A8 ?_ ?_ ?_ | exact AG | assumption | refine A3 ?_ | refine KM.of ?_ | refine AI ?_ | intro _g _hg | refine AK ?_ ?_ | intro _hc) | omega)
 all_goals exact ⟨0, _, _, rfl, .inl rfl, .inr ⟨rfl, rfl⟩, rfl⟩
theorem QM (x y : AV) (t : Tok) : AC [.sl 1 [x, y] t] [.sl 1 [x, y] .ro] := ⟨_, _, rfl, ⟨1, _, _, rfl, .inl rfl, .inl rfl, A0 _⟩, rfl⟩
def Ti (x : Pt) : Prop := APure Tryz.prog 80 [E8 x] (aI (CH x))
theorem Rw {l : List Pt} {i : Nat} {x : Pt} (h : l[i]? = some x) : Ab (l.take (i + 1)) = Ab (l.take i) + CH x := by
 rw [List.take_add_one, h, Fe]
 simp [Ab]
theorem Uk (k : Int) (t nm : AF) (pa : List AF) (fs : List (AF × Int)) (b e : List Pt) (hs : Ab b + Ab e ≤ 1000000) (hp : ∀ x ∈ b ++ e, Ti x) : Ti (.mk k t nm pa fs b e) := by
 have hb := FM b
 have he := FM e
 unfold Ti
 rw [BZ]
 have hlb := C7 b
 have hle := C7 e
 by_cases h0 : 0 < b.length + e.length
 ·have hc := Vf (AH b) (AH e) (by omega) (by omega) (by omega)
  rw [← Nr] at hc
  have hsz : CH (.mk k t nm pa fs b e) = 1 + Ab (b ++ e) := by rw [Fe]; unfold CH; omega
  rw [hsz]
  have hsm : Ab (b ++ e) ≤ 1000000 := by rw [Fe]; omega
  generalize b ++ e = l at *
  have hel := C7 l
  generalize AH b = eb at *
  generalize AH e = ee at *
  have hll := FM l
  clear hsz hlb hle hb he h0 hs
  refine AM Tryz.func80 XB rfl fun n H hH => ?_
  repeat' (first | (simp -implicitDefEqProofs [c80, -getElem?_pos, hel]) | (simp (disch := omega) only [AJ]) | ((with_reducible refine AP 123 ?_); refine ⟨_, _, hc, QM _ _ _, ?_⟩) | (with_reducible first | refine A8 ?_ ?_ ?_ | exact AG | assumption | refine A3 ?_ | refine KM.of ?_ | refine AI ?_ | refine A5 ?_ | refine AR ?_ | refine A7 ?_ | refine AW ?_ | refine AQ ?_ | intro _g _hg | refine AK ?_ ?_ | intro _hc) | omega)
  refine LoopK.go (fun m st => ∃ (i n2 : Nat) (H2 : A2), i + m = l.length ∧ st = ⟨[(3, aI ((1 + Ab (l.take i) : Nat))), (11, .sl 7 (AH l) .ro), (12, aI l.length), (13, aI i)], n2, H2⟩ ∧ n ≤ n2 ∧ SameB n H H2 ∧ ∀ q, n2 ≤ q → H2 q = none) l.length ⟨0, _, _, by omega, by simp [Ab]; exact ⟨rfl, rfl⟩, ?_, ?_, ?_⟩ ?_
  ·omega
  ·intro q hq
   simp (disch := omega) only [upd_ne]
  ·intro q hq
   simp (disch := omega) only [upd_ne]
   exact hH q (by omega)
  rintro m st ⟨i, n2, H2, him, rfl, hn2, hS, hsup⟩ J hJ
  by_cases hi : i < l.length
  ·obtain ⟨x, hx⟩ : ∃ x, l[i]? = some x := ⟨_, List.getElem?_eq_getElem hi⟩
   have hx2 := GD hx
   have hi' : (i : Int) < l.length := by omega
   have htk := Rw hx
   have hpx := hp x (List.mem_of_getElem? hx)
   have hle1 : Ab (l.take (i + 1)) ≤ Ab l := by
    conv => rhs; rw [← List.take_append_drop (i + 1) l, Fe]
    omega
   obtain ⟨k, t, nm, pa, fs, b, e⟩ := x
   unfold Ti at hpx
   rw [BZ] at hx2 hpx
   generalize CH (.mk k t nm pa fs b e) = sx at *
   have hsum : ((1 + Ab (l.take (i + 1)) : Nat) : Int) = ((1 + Ab (l.take i) : Nat) : Int) + sx := by omega
   generalize AH b = eb at *
   generalize AH e = ee at *
   clear hp
   repeat' (first | (simp -implicitDefEqProofs [J5, II, IW, KE, c80, -getElem?_pos, splice, hel, hx2, hi']) | (simp (disch := omega) only [AJ]) | ((with_reducible refine AP 80 ?_); (refine' CallP.sf ?_ (hpx) ?_); (focus first | (with_reducible exact A0 _) | (simp [AC, AA, A1, A0]; done))) | (with_reducible first | refine A8 ?_ ?_ ?_ | exact AG | assumption | refine A3 ?_ | refine KM.of ?_ | refine AI ?_ | refine A5 ?_ | refine AR ?_ | refine A7 ?_ | refine AW ?_ | refine AQ ?_ | intro _g _hg | refine AK ?_ ?_ | intro _hc) | omega)
   all_goals exact hJ (m - 1) _ (by omega) ⟨i + 1, _, _, by omega, by rw [hsum]; rfl, by omega, (hS.upd (by omega) _).upd (by omega) _, fun q hq => by rw [upd_ne (by omega), upd_ne (by omega)]; exact hsup q (by omega)⟩
  ·have hi0 : i = l.length := by omega
   subst hi0
   have hi' : ¬ (l.length : Int) < l.length := by omega
   rw [List.take_length]
   clear hp hJ
   repeat' (first | (simp -implicitDefEqProofs [J5, II, IW, KE, c80, -getElem?_pos, hel, hi']) | (simp (disch := omega) only [AJ]) | (with_reducible first | refine A8 ?_ ?_ ?_ | exact AG | assumption | refine A3 ?_ | refine KM.of ?_ | refine AI ?_ | refine A5 ?_ | refine AR ?_ | refine A7 ?_ | refine AW ?_ | refine AQ ?_ | intro _g _hg | refine AK ?_ ?_ | intro _hc) | omega)
   all_goals first | exact A1 _ | exact hn2 | exact hS
 ·have hb0 : b = [] := List.length_eq_zero_iff.1 (by omega)
  have he0 : e = [] := List.length_eq_zero_iff.1 (by omega)
  subst hb0; subst he0
  have hsz : CH (.mk k t nm pa fs [] []) = 1 := by unfold CH; simp [Ab]
  rw [hsz]
  have hc := Vl
  have e0 : AH [] = [] := by rw [AH]
  rw [e0]
  refine AM Tryz.func80 XB rfl fun n H hH => ?_
  repeat' (first | (simp -implicitDefEqProofs [c80, -getElem?_pos]) | (simp (disch := omega) only [AJ]) | ((with_reducible refine AP 123 ?_); refine ⟨_, _, hc, QM _ _ _, ?_⟩) | (with_reducible first | refine A8 ?_ ?_ ?_ | exact AG | assumption | refine A3 ?_ | refine KM.of ?_ | refine AI ?_ | refine A5 ?_ | refine AR ?_ | refine A7 ?_ | refine AW ?_ | refine AQ ?_ | intro _g _hg | refine AK ?_ ?_ | intro _hc) | omega)
  refine LoopK.round ?_
  repeat' (first | (simp -implicitDefEqProofs [J5, II, IW, KE, c80, -getElem?_pos]) | (simp (disch := omega) only [AJ]) | (with_reducible first | refine A8 ?_ ?_ ?_ | exact AG | assumption | refine A3 ?_ | refine KM.of ?_ | refine AI ?_ | refine A5 ?_ | refine AR ?_ | refine A7 ?_ | refine AW ?_ | refine AQ ?_ | intro _g _hg | refine AK ?_ ?_ | intro _hc) | omega)
  all_goals first | exact A1 _ | omega | (intro q hq; simp (disch := omega) only [upd_ne])
theorem WJ (p : Pt) : CH p ≤ 1000000 → Ti p := by
 refine Pt.ind (Q := fun p => CH p ≤ 1000000 → Ti p) ?_ p
 intro k t nm pa fs b e hb he hs
 unfold CH at hs
 refine Uk k t nm pa fs b e (by omega) fun x hx => ?_
 rcases List.mem_append.1 hx with hx | hx
 ·have := GQ hx; exact hb x hx (by omega)
 ·have := GQ hx; exact he x hx (by omega)
theorem OT (p : Pt) (hs : CH p ≤ 1000000) : APure Tryz.prog 80 [E8 p] (aI (CH p)) := WJ p hs
def sv (l : List (List UInt8)) : AV := .sl 1 (l.map .str) .ro
def z0 : AV := .sl 0 [] .nil
def pF : AV := .agg [.int .i64 2, .str [], .str [], .sl 1 [.str [120]] .ro, .sl 2 [.agg [.str [112, 97, 100], .int .i64 3]] .ro, z0, z0]
def pT : AV := .agg [.int .i64 1, .str [59], .str [], z0, z0, z0, z0]
def pE : AV := .agg [.int .i64 4, .str [], .str [120], .sl 1 [.str [108]] .ro, z0, .sl 7 [pF, pT] .ro, z0]
def pB : AV := .agg [.int .i64 4, .str [], .str [120], .sl 1 [.str [108]] .ro, z0, z0, z0]
def qF : Pt := .mk 2 [] [] [[120]] [([112, 97, 100], 3)] [] []
def qT : Pt := .mk 1 [59] [] [] [] [] []
def qE : Pt := .mk 4 [] [120] [[108]] [] [qF, qT] []
def qB : Pt := .mk 4 [] [120] [[108]] [] [] []
theorem APure.to {P : Program} {f : Nat} {a : List AV} {v v' : AV} (h : APure P f a v) (e : v = v') : APure P f a v' := e ▸ h
theorem APure.arg {P : Program} {f : Nat} {a a' : List AV} {v : AV} (h : APure P f a' v) (hs : AC a a') : APure P f a v := fun n H => ACalls.sim (h n H) hs
theorem EH (z : Nat) : AA z0 (.sl z [] .ro) := ⟨_, _, _, rfl, .inl rfl, .inr ⟨rfl, rfl⟩, rfl⟩
theorem HR {k t n pa fs b e pa' fs' b' e' : AV} (h1 : AA pa pa') (h2 : AA fs fs') (h3 : AA b b') (h4 : AA e e') : AA (.agg [k, t, n, pa, fs, b, e]) (.agg [k, t, n, pa', fs', b', e']) :=
 ⟨_, rfl, A6 (A1 _) (A6 (A1 _) (A6 (A1 _) (A6 h1 (A6 h2 (A6 h3 (A6 h4 rfl))))))⟩
theorem D4 : AH [] = [] := by rw [AH]
theorem sF : AA pF (E8 qF) := by unfold qF; rw [BZ, D4]; exact HR (A1 _) (A1 _) (EH _) (EH _)
theorem sT : AA pT (E8 qT) := by unfold qT; rw [BZ, D4]; exact HR (EH _) (EH _) (EH _) (EH _)
theorem sB : AA pB (E8 qB) := by unfold qB; rw [BZ, D4]; exact HR (A1 _) (EH _) (EH _) (EH _)
theorem sE : AA pE (E8 qE) := by
 unfold qE; rw [BZ, D4]
 refine HR (A1 _) (EH _) ?_ (EH _)
 have e : AH [qF, qT] = [E8 qF, E8 qT] := by rw [AH, AH, AH]
 rw [e]
 exact ⟨_, _, _, rfl, .inl rfl, .inl rfl, A6 sF (A6 sT rfl)⟩
theorem YU : APure Tryz.prog 80 [pE] (.int .i64 3) := ((OT qE (by simp [qE, qF, qT, CH, Ab])).to (by simp [qE, qF, qT, CH, Ab])).arg (A6 sE rfl)
theorem Yu : APure Tryz.prog 80 [pF] (.int .i64 1) := ((OT qF (by simp [qF, CH, Ab])).to (by simp [qF, CH, Ab])).arg (A6 sF rfl)
theorem Xq : APure Tryz.prog 80 [pT] (.int .i64 1) := ((OT qT (by simp [qT, CH, Ab])).to (by simp [qT, CH, Ab])).arg (A6 sT rfl)
theorem Yy : APure Tryz.prog 68 [pE] (.int .i64 0) := ((GR 4 [] [120] [[108]] [] (AH [qF, qT]) [] (by decide) (by decide) (by decide) (by decide)).to (by kernel_rfl)).arg (A6 (by have := sE; unfold qE at this; rw [BZ, D4] at this; exact this) rfl)
theorem Yo : APure Tryz.prog 68 [pB] (.int .i64 0) := ((GR 4 [] [120] [[108]] [] [] [] (by decide) (by decide) (by decide) (by decide)).to (by kernel_rfl)).arg (A6 (by have := sB; unfold qB at this; rw [BZ, D4] at this; exact this) rfl)
theorem Xs : APure Tryz.prog 68 [pF] (.int .i64 0) := ((GR 2 [] [] [[120]] [([112, 97, 100], 3)] [] [] (by decide) (by decide) (by decide) (by decide)).to (by kernel_rfl)).arg (A6 (by have := sF; unfold qF at this; rw [BZ, D4] at this; exact this) rfl)
theorem YY : APure Tryz.prog 68 [pT] (.int .i64 0) := ((GR 1 [59] [] [] [] [] [] (by decide) (by decide) (by decide) (by decide)).to (by kernel_rfl)).arg (A6 (by have := sT; unfold qT at this; rw [BZ, D4] at this; exact this) rfl)
theorem YG : APure Tryz.prog 31 [.sl 7 [pE] .ro] (.str [60, 37, 101, 97, 99, 104, 32, 120, 32, 105, 110, 32, 108, 37, 62, 60, 37, 120, 124, 112, 97, 100, 32, 51, 37, 62, 59, 60, 37, 101, 110, 100, 37, 62]) := by
 refine ((RK [qE] (PI _ 0 0 0 (by simp [qE, qF, qT, Lb, E4]) (by kernel_rfl)) (by simp [qE, qF, qT, CH, Ab])).to (by kernel_rfl)).arg (A6 ?_ rfl)
 have e : AH [qE] = [E8 qE] := by rw [AH, AH]
 rw [E1, e]
 exact ⟨_, _, _, rfl, .inl rfl, .inl rfl, A6 sE rfl⟩
def kn0 : Lp := [(178, [.str [105, 102, 32, 101, 97, 99, 104, 32, 105, 110, 32, 101, 108, 115, 101, 32, 101, 110, 100, 32, 111, 112, 101, 110]], sv [[105, 102], [101, 97, 99, 104], [105, 110], [101, 108, 115, 101], [101, 110, 100], [111, 112, 101, 110]]),
 (52, [.sl 1 [.str [108]] .ro, .str [46]], .str [108]),
 (52, [.sl 1 [.str [120]] .ro, .str [46]], .str [120]),
 (63, [.str [59], .str [60, 37], .str [60, 37, 111, 112, 101, 110, 37, 62]], .str [59]),
 (65, [.int .i64 3], .str [51]),
 (171, [.str [49, 48]], .int .i64 2),
 (115, [.str [51]], .tup [.int .i64 3, .nif]),
 (41, [.str [49, 48], .str [46]], .tup [.str [49, 48], .str [], .bool false]),
 (39, [.str [60, 37, 101, 97, 99, 104, 32, 120, 32, 105, 110, 32, 108, 37, 62, 60, 37, 120, 124, 112, 97, 100, 32, 51, 37, 62, 59, 60, 37, 101, 110, 100, 37, 62], .str [60, 37]], .int .i64 (0)),
 (41, [.str [101, 97, 99, 104, 32, 120, 32, 105, 110, 32, 108, 37, 62, 60, 37, 120, 124, 112, 97, 100, 32, 51, 37, 62, 59, 60, 37, 101, 110, 100, 37, 62], .str [37, 62]], .tup [.str [101, 97, 99, 104, 32, 120, 32, 105, 110, 32, 108], .str [60, 37, 120, 124, 112, 97, 100, 32, 51, 37, 62, 59, 60, 37, 101, 110, 100, 37, 62], .bool true]),
 (39, [.str [60, 37, 120, 124, 112, 97, 100, 32, 51, 37, 62, 59, 60, 37, 101, 110, 100, 37, 62], .str [60, 37]], .int .i64 (0)),
 (41, [.str [120, 124, 112, 97, 100, 32, 51, 37, 62, 59, 60, 37, 101, 110, 100, 37, 62], .str [37, 62]], .tup [.str [120, 124, 112, 97, 100, 32, 51], .str [59, 60, 37, 101, 110, 100, 37, 62], .bool true]),
 (39, [.str [59, 60, 37, 101, 110, 100, 37, 62], .str [60, 37]], .int .i64 (1)),
 (41, [.str [101, 110, 100, 37, 62], .str [37, 62]], .tup [.str [101, 110, 100], .str [], .bool true]),
 (39, [.str [], .str [60, 37]], .int .i64 (-1)),
 (41, [.str [101, 97, 99, 104, 32, 120, 32, 105, 110, 32, 108], .str [32]], .tup [.str [101, 97, 99, 104], .str [120, 32, 105, 110, 32, 108], .bool true]),
 (41, [.str [120, 32, 105, 110, 32, 108], .str [32, 105, 110, 32]], .tup [.str [120], .str [108], .bool true]),
 (73, [.str [108], .str [46]], sv [[108]]),
 (41, [.str [120, 124, 112, 97, 100, 32, 51], .str [32]], .tup [.str [120, 124, 112, 97, 100], .str [51], .bool true]),
 (73, [.str [120, 124, 112, 97, 100, 32, 51], .str [124]], sv [[120], [112, 97, 100, 32, 51]]),
 (73, [.str [120], .str [46]], sv [[120]]),
 (41, [.str [112, 97, 100, 32, 51], .str [32]], .tup [.str [112, 97, 100], .str [51], .bool true]),
 (41, [.str [101, 110, 100], .str [32]], .tup [.str [101, 110, 100], .str [], .bool false]),
 (80, [pE], .int .i64 3),
 (80, [pF], .int .i64 1),
 (80, [pT], .int .i64 1),
 (68, [pE], .int .i64 0),
 (68, [pF], .int .i64 0),
 (68, [pT], .int .i64 0),
 (68, [pB], .int .i64 0),
 (31, [.sl 7 [pE] .ro], .str [60, 37, 101, 97, 99, 104, 32, 120, 32, 105, 110, 32, 108, 37, 62, 60, 37, 120, 124, 112, 97, 100, 32, 51, 37, 62, 59, 60, 37, 101, 110, 100, 37, 62])]
theorem Ze : APure Tryz.prog 178 [.str [105, 102, 32, 101, 97, 99, 104, 32, 105, 110, 32, 101, 108, 115, 101, 32, 101, 110, 100, 32, 111, 112, 101, 110]] (sv [[105, 102], [101, 97, 99, 104], [105, 110], [101, 108, 115, 101], [101, 110, 100], [111, 112, 101, 110]]) := (Pp [105, 102, 32, 101, 97, 99, 104, 32, 105, 110, 32, 101, 108, 115, 101, 32, 101, 110, 100, 32, 111, 112, 101, 110] (by decide) (by decide) (by decide +kernel)).to (by kernel_rfl)
theorem ZZ : APure Tryz.prog 52 [.sl 1 [.str [108]] .ro, .str [46]] (.str [108]) := (SA [[108]] [46] (by decide) (by decide +kernel)).to (by kernel_rfl)
theorem Zb : APure Tryz.prog 52 [.sl 1 [.str [120]] .ro, .str [46]] (.str [120]) := (SA [[120]] [46] (by decide) (by decide +kernel)).to (by kernel_rfl)
theorem Zr : APure Tryz.prog 63 [.str [59], .str [60, 37], .str [60, 37, 111, 112, 101, 110, 37, 62]] (.str [59]) := (XU [59] (by decide)).to (by kernel_rfl)
theorem ZH : APure Tryz.prog 65 [.int .i64 3] (.str [51]) := (R7 3 (by decide)).to (by kernel_rfl)
theorem Zh : APure Tryz.prog 171 [.str [49, 48]] (.int .i64 2) := WL [49, 48] (by decide) (by decide)
theorem Zf : APure Tryz.prog 115 [.str [51]] (.tup [.int .i64 3, .nif]) := Ob (by kernel_rfl) (by decide)
theorem Zi : APure Tryz.prog 41 [.str [49, 48], .str [46]] (.tup [.str [49, 48], .str [], .bool false]) := (G0 [49, 48] [46] (by decide)).to (by kernel_rfl)
theorem Za : APure Tryz.prog 39 [.str [60, 37, 101, 97, 99, 104, 32, 120, 32, 105, 110, 32, 108, 37, 62, 60, 37, 120, 124, 112, 97, 100, 32, 51, 37, 62, 59, 60, 37, 101, 110, 100, 37, 62], .str [60, 37]] (.int .i64 (0)) := (Ha [60, 37, 101, 97, 99, 104, 32, 120, 32, 105, 110, 32, 108, 37, 62, 60, 37, 120, 124, 112, 97, 100, 32, 51, 37, 62, 59, 60, 37, 101, 110, 100, 37, 62] [60, 37] (by decide)).to (by kernel_rfl)
theorem Z6 : APure Tryz.prog 41 [.str [101, 97, 99, 104, 32, 120, 32, 105, 110, 32, 108, 37, 62, 60, 37, 120, 124, 112, 97, 100, 32, 51, 37, 62, 59, 60, 37, 101, 110, 100, 37, 62], .str [37, 62]] (.tup [.str [101, 97, 99, 104, 32, 120, 32, 105, 110, 32, 108], .str [60, 37, 120, 124, 112, 97, 100, 32, 51, 37, 62, 59, 60, 37, 101, 110, 100, 37, 62], .bool true]) := (G0 [101, 97, 99, 104, 32, 120, 32, 105, 110, 32, 108, 37, 62, 60, 37, 120, 124, 112, 97, 100, 32, 51, 37, 62, 59, 60, 37, 101, 110, 100, 37, 62] [37, 62] (by decide)).to (by kernel_rfl)
theorem YS : APure Tryz.prog 39 [.str [60, 37, 120, 124, 112, 97, 100, 32, 51, 37, 62, 59, 60, 37, 101, 110, 100, 37, 62], .str [60, 37]] (.int .i64 (0)) := (Ha [60, 37, 120, 124, 112, 97, 100, 32, 51, 37, 62, 59, 60, 37, 101, 110, 100, 37, 62] [60, 37] (by decide)).to (by kernel_rfl)
theorem Ya : APure Tryz.prog 41 [.str [120, 124, 112, 97, 100, 32, 51, 37, 62, 59, 60, 37, 101, 110, 100, 37, 62], .str [37, 62]] (.tup [.str [120, 124, 112, 97, 100, 32, 51], .str [59, 60, 37, 101, 110, 100, 37, 62], .bool true]) := (G0 [120, 124, 112, 97, 100, 32, 51, 37, 62, 59, 60, 37, 101, 110, 100, 37, 62] [37, 62] (by decide)).to (by kernel_rfl)
theorem Xv : APure Tryz.prog 39 [.str [59, 60, 37, 101, 110, 100, 37, 62], .str [60, 37]] (.int .i64 (1)) := (Ha [59, 60, 37, 101, 110, 100, 37, 62] [60, 37] (by decide)).to (by kernel_rfl)
theorem Yn : APure Tryz.prog 41 [.str [101, 110, 100, 37, 62], .str [37, 62]] (.tup [.str [101, 110, 100], .str [], .bool true]) := (G0 [101, 110, 100, 37, 62] [37, 62] (by decide)).to (by kernel_rfl)
theorem Yq : APure Tryz.prog 39 [.str [], .str [60, 37]] (.int .i64 (-1)) := (Ha [] [60, 37] (by decide)).to (by kernel_rfl)
theorem XX : APure Tryz.prog 41 [.str [101, 97, 99, 104, 32, 120, 32, 105, 110, 32, 108], .str [32]] (.tup [.str [101, 97, 99, 104], .str [120, 32, 105, 110, 32, 108], .bool true]) := (G0 [101, 97, 99, 104, 32, 120, 32, 105, 110, 32, 108] [32] (by decide)).to (by kernel_rfl)
theorem Y0 : APure Tryz.prog 41 [.str [120, 32, 105, 110, 32, 108], .str [32, 105, 110, 32]] (.tup [.str [120], .str [108], .bool true]) := (G0 [120, 32, 105, 110, 32, 108] [32, 105, 110, 32] (by decide)).to (by kernel_rfl)
theorem Yw : APure Tryz.prog 73 [.str [108], .str [46]] (sv [[108]]) := (Fs [108] 46 (by decide)).to (by kernel_rfl)
theorem YD : APure Tryz.prog 41 [.str [120, 124, 112, 97, 100, 32, 51], .str [32]] (.tup [.str [120, 124, 112, 97, 100], .str [51], .bool true]) := (G0 [120, 124, 112, 97, 100, 32, 51] [32] (by decide)).to (by kernel_rfl)
theorem Y9 : APure Tryz.prog 73 [.str [120, 124, 112, 97, 100, 32, 51], .str [124]] (sv [[120], [112, 97, 100, 32, 51]]) := (Fs [120, 124, 112, 97, 100, 32, 51] 124 (by decide)).to (by kernel_rfl)
theorem Xu : APure Tryz.prog 73 [.str [120], .str [46]] (sv [[120]]) := (Fs [120] 46 (by decide)).to (by kernel_rfl)
theorem Yp : APure Tryz.prog 41 [.str [112, 97, 100, 32, 51], .str [32]] (.tup [.str [112, 97, 100], .str [51], .bool true]) := (G0 [112, 97, 100, 32, 51] [32] (by decide)).to (by kernel_rfl)
theorem Xr : APure Tryz.prog 41 [.str [101, 110, 100], .str [32]] (.tup [.str [101, 110, 100], .str [], .bool false]) := (G0 [101, 110, 100] [32] (by decide)).to (by kernel_rfl)
theorem Xm : APure Tryz.prog 80 [pE] (.int .i64 3) := YU
theorem Xn : APure Tryz.prog 80 [pF] (.int .i64 1) := Yu
theorem Y5 : APure Tryz.prog 80 [pT] (.int .i64 1) := Xq
theorem YX : APure Tryz.prog 68 [pE] (.int .i64 0) := Yy
theorem YJ : APure Tryz.prog 68 [pF] (.int .i64 0) := Xs
theorem YE : APure Tryz.prog 68 [pT] (.int .i64 0) := YY
theorem Y2 : APure Tryz.prog 68 [pB] (.int .i64 0) := Yo
theorem Ym : APure Tryz.prog 31 [.sl 7 [pE] .ro] (.str [60, 37, 101, 97, 99, 104, 32, 120, 32, 105, 110, 32, 108, 37, 62, 60, 37, 120, 124, 112, 97, 100, 32, 51, 37, 62, 59, 60, 37, 101, 110, 100, 37, 62]) := YG
theorem YN : VB Tryz.prog kn0 := ⟨Ze, by kernel_rfl, ZZ, by kernel_rfl, Zb, by kernel_rfl, Zr, by kernel_rfl, ZH, by kernel_rfl, Zh, by kernel_rfl, Zf, by kernel_rfl, Zi, by kernel_rfl, Za, by kernel_rfl, Z6, by kernel_rfl, YS, by kernel_rfl, Ya, by kernel_rfl, Xv, by kernel_rfl, Yn, by kernel_rfl, Yq, by kernel_rfl, XX, by kernel_rfl, Y0, by kernel_rfl, Yw, by kernel_rfl, YD, by kernel_rfl, Y9, by kernel_rfl, Xu, by kernel_rfl, Yp, by kernel_rfl, Xr, by kernel_rfl, Xm, by kernel_rfl, Xn, by kernel_rfl, Y5, by kernel_rfl, YX, by kernel_rfl, YJ, by kernel_rfl, YE, by kernel_rfl, Y2, by kernel_rfl, Ym, by kernel_rfl, trivial⟩
def xpT (P : Program) (T : Lp) : XP := ⟨P, K6, fun _ => false, fun e => Nat.beq e 168 || Nat.beq e 55, Wy T, fun _ => false, fun e => Nat.beq e 55, fun f => bif Nat.beq f 42 then [70] else bif Nat.beq f 16 then [13] else []⟩
theorem Qt : APure Tryz.prog 14 [] (.bool true) := run_pure (X := xpT Tryz.prog kn0) (Sv YN) 3000 (by kernel_rfl) rfl rfl
theorem Tz {l : List Pt} (h : (CO l).1 = 0) : CO l = (0, 0) ∧ (BW 0 0 0 l).2 = 0 ∧ (CJ l).length ≤ 4000 := by
 unfold CO at h ⊢
 by_cases h1 : (BW 0 0 0 l).2 = 0
 ·rw [if_neg (by simpa using h1)] at h ⊢
  by_cases h2 : 4000 < (CJ l).length
  ·rw [if_pos h2] at h; cases h
  ·rw [if_neg h2]; exact ⟨rfl, h1, by omega⟩
 ·rw [if_pos h1] at h; exact absurd h h1
def Kq (l : List Pt) : Prop := APure Tryz.prog 18 [E1 l, E1 l] (.bool true)
theorem Wi (fs : List (AF × Int)) (hf : fs.length ≤ 2000000) (g6 g7 n : Nat) (H : A2) (v0 v1 v5 : AV) (c0 c1 c2 c3 c5 c6 : AV) (Q : AExit → AS → Prop) (h6 : H g6 = some (.cells 55 [c0, c1, c2, c3, Bz fs, c5, c6])) (h7 : H g7 = some (.cells 55 [c0, c1, c2, c3, Bz fs, c5, c6]))
  (hQ : ∀ en, get en 0 = v0 → get en 1 = v1 → get en 5 = v5 → Q (.exit 2) ⟨en, n, H⟩) : LoopK (fun Q s => aw Tryz.prog c18_L5 Q s) Q ⟨[(0, v0), (1, v1), (5, v5), (6, .ptr g6 0), (7, .ptr g7 0), (8, aI 0)], n, H⟩ := by
 
 refine LoopK.go (fun m st => ∃ (j : Nat), j + m = fs.length ∧ st = ⟨[(0, v0), (1, v1), (5, v5), (6, .ptr g6 0), (7, .ptr g7 0), (8, aI j)], n, H⟩) fs.length ⟨0, by omega, rfl⟩ ?_
 rintro m st ⟨j, hjm, rfl⟩ J hJ
 by_cases hj : j < fs.length
 ·obtain ⟨x, hx⟩ : ∃ x, fs[j]? = some x := ⟨_, List.getElem?_eq_getElem hj⟩
  have hx2 := Rv hx
  have hj' : (j : Int) < fs.length := by omega
  obtain ⟨a, b⟩ := x
  repeat' (first | (simp -implicitDefEqProofs [KB, JJ, Iv, -getElem?_pos, h6, h7, hx2, hj']) | (simp (disch := omega) only [AJ]) | (with_reducible first | refine A8 ?_ ?_ ?_ | exact AG | assumption | refine A3 ?_ | refine KM.of ?_ | refine AI ?_ | refine A5 ?_ | refine A7 ?_ | intro _g _hg | refine AK ?_ ?_ | intro _hc) | omega)
  all_goals exact hJ (m - 1) _ (by omega) ⟨j + 1, by omega, rfl⟩
 ·have hj0 : j = fs.length := by omega
  subst hj0
  have hj' : ¬ (fs.length : Int) < fs.length := by omega
  repeat' (first | (simp -implicitDefEqProofs [KB, JJ, Iv, -getElem?_pos, h6, h7, hj']) | (simp (disch := omega) only [AJ]) | (with_reducible first | refine A8 ?_ ?_ ?_ | exact AG | assumption | refine A3 ?_ | refine KM.of ?_ | refine AI ?_ | refine A5 ?_ | refine A7 ?_ | intro _g _hg | refine AK ?_ ?_ | intro _hc) | omega)
  all_goals (refine hQ _ ?_ ?_ ?_ <;> rfl)
theorem PH (l : List Pt) (hl : l.length ≤ 2000000) (hs : E4 l) (hp : ∀ x ∈ l, Kq x.b ∧ Kq x.e) : Kq l := by
 have hel := C7 l
 unfold Kq
 refine AM Tryz.func18 ZR rfl fun n H hH => ?_
 repeat' (first | (simp -implicitDefEqProofs [c18, O7, -getElem?_pos, hel]) | (simp (disch := omega) only [AJ]) | (with_reducible first | refine A8 ?_ ?_ ?_ | exact AG | assumption | refine A3 ?_ | refine KM.of ?_ | refine AI ?_ | refine A5 ?_ | refine A7 ?_ | intro _g _hg | refine AK ?_ ?_ | intro _hc) | omega)
 refine LoopK.go (fun m st => ∃ (i n2 : Nat) (H2 : A2), i + m = l.length ∧ st = ⟨[(0, E1 l), (1, E1 l), (5, aI i)], n2, H2⟩ ∧ n ≤ n2 ∧ SameB n H H2 ∧ ∀ q, n2 ≤ q → H2 q = none) l.length ⟨0, _, _, by omega, rfl, Nat.le_refl _, SameB.rfl_ n H, hH⟩ ?_
 rintro m st ⟨i, n2, H2, him, rfl, hn2, hS, hsup⟩ J hJ
 by_cases hi : i < l.length
 ·obtain ⟨x, hx⟩ : ∃ x, l[i]? = some x := ⟨_, List.getElem?_eq_getElem hi⟩
  have hx2 := GD hx
  have hi' : (i : Int) < l.length := by omega
  have hsx := D9 hs (List.mem_of_getElem? hx)
  obtain ⟨cb, ce⟩ := hp x (List.mem_of_getElem? hx)
  obtain ⟨k, t, nm, pa, fs, b, e⟩ := x
  rw [BZ] at hx2
  simp only [Lb] at hsx
  obtain ⟨s1, s2, s3, s4, s5, s6, s7, s8, s9⟩ := hsx
  change Kq b at cb
  change Kq e at ce
  change APure _ _ [.sl 7 (AH b) .ro, .sl 7 (AH b) .ro] _ at cb
  change APure _ _ [.sl 7 (AH e) .ro, .sl 7 (AH e) .ro] _ at ce
  have hst := TG pa pa (by omega)
  rw [decide_eq_true rfl] at hst
  generalize AH b = eb at *
  generalize AH e = ee at *
  repeat' (first | (simp -implicitDefEqProofs [GZ, GT, -getElem?_pos, hel, hx2, hi']) | (simp (disch := omega) only [AJ]) | (with_reducible first | refine A8 ?_ ?_ ?_ | exact AG | assumption | refine A3 ?_ | refine KM.of ?_ | refine AI ?_ | refine A5 ?_ | refine A7 ?_ | intro _g _hg | refine AK ?_ ?_ | intro _hc) | omega)
  refine LW (Nat.le_refl _) (FreeH.of hsup) fun g6 n6 q1 q2 q3 q4 => ?_
  repeat' (first | (simp -implicitDefEqProofs [GZ, GT, -getElem?_pos]) | (simp (disch := omega) only [AJ]) | (with_reducible first | refine A8 ?_ ?_ ?_ | exact AG | assumption | refine A3 ?_ | refine KM.of ?_ | refine AI ?_ | refine A5 ?_ | refine A7 ?_ | intro _g _hg | refine AK ?_ ?_ | intro _hc) | omega)
  refine LW (by omega) ((FreeH.of hsup).upd _ _) fun g7 n7 r1 r2 r3 r4 => ?_
  have hne : g6 ≠ g7 := by
   rintro rfl; rw [AY] at r2; cases r2
  repeat' (first | (simp -implicitDefEqProofs [GZ, GT, ON, -getElem?_pos, hne, Ne.symm hne, splice]) | (simp (disch := omega) only [AJ]) | ((with_reducible refine AP 23 ?_); (refine' CallP.sf ?_ (hst) ?_); (focus first | (with_reducible exact A0 _) | (simp [AC, AA, A1, A0]; done))) | ((with_reducible refine AP 18 ?_); (refine' CallP.sf ?_ (cb) ?_); (focus first | (with_reducible exact A0 _) | (simp [AC, AA, A1, A0]; done))) | ((with_reducible refine AP 18 ?_); (refine' CallP.sf ?_ (ce) ?_); (focus first | (with_reducible exact A0 _) | (simp [AC, AA, A1, A0]; done))) | (with_reducible first | refine A8 ?_ ?_ ?_ | exact AG | assumption | refine A3 ?_ | refine KM.of ?_ | refine AI ?_ | refine A5 ?_ | refine A7 ?_ | intro _g _hg | refine AK ?_ ?_ | intro _hc) | omega)
  refine Wi fs s5 g6 g7 _ _ _ _ _ _ _ _ _ _ _ _ (by simp (disch := omega) only [upd_ne, AY]; rfl) (by simp (disch := omega) only [upd_ne, AY]) fun en e0 e1 e5 => ?_
  repeat' (first | (simp -implicitDefEqProofs [Nw, -getElem?_pos, e0, e1, e5]) | (simp (disch := omega) only [AJ]) | (with_reducible first | refine A8 ?_ ?_ ?_ | exact AG | assumption | refine A3 ?_ | refine KM.of ?_ | refine AI ?_ | refine A5 ?_ | refine A7 ?_ | intro _g _hg | refine AK ?_ ?_ | intro _hc) | omega)
  exact hJ (m - 1) _ (by omega) ⟨i + 1, _, _, by omega, rfl, by omega, fun q hq => by simp (disch := omega) only [upd_ne]; exact hS q hq, fun q hq => by simp (disch := omega) only [upd_ne]; exact hsup q (by omega)⟩
 ·have hi0 : i = l.length := by omega
  subst hi0
  have hi' : ¬ (l.length : Int) < l.length := by omega
  repeat' (first | (simp -implicitDefEqProofs [Tf, Nw, Iv, JJ, KB, ON, GT, GZ, O7, c18, -getElem?_pos, hel, hi']) | (simp (disch := omega) only [AJ]) | (with_reducible first | refine A8 ?_ ?_ ?_ | exact AG | assumption | refine A3 ?_ | refine KM.of ?_ | refine AI ?_ | refine A5 ?_ | refine A7 ?_ | intro _g _hg | refine AK ?_ ?_ | intro _hc) | omega)
  all_goals first | exact A1 _ | exact hn2 | exact hS
theorem W0 (p : Pt) : Lb p → Kq p.b ∧ Kq p.e := by
 refine Pt.ind (Q := fun p => Lb p → Kq p.b ∧ Kq p.e) ?_ p
 intro k t n pa fs b e hb he hs
 simp only [Lb] at hs
 obtain ⟨s1, s2, s3, s4, s5, s6, s7, s8, s9⟩ := hs
 exact ⟨PH b s6 s8 fun x hx => hb x hx (D9 s8 hx), PH e s7 s9 fun x hx => he x hx (D9 s9 hx)⟩
theorem XY (l : List Pt) (hl : l.length ≤ 2000000) (hs : E4 l) : Kq l := PH l hl hs fun x hx => W0 x (D9 hs hx)
open Go.ChangeShapes Go.WideShapes Go.ChangeAt Go.RowKit Go.Deep
theorem Yc : ownKnob Tryz.prog.godebug = none := by kernel_rfl
theorem Vo : laidOutB Tryz.prog = true := by kernel_rfl
theorem GI {w : World} {v : Value} {x : AV} (h : RepL (R6 w) [v] [x]) : Rep (R6 w) v x := by cases h; assumption
abbrev laidL : List (String × DataW Unit) := Rows.templatePrintMatchesSpecUptoRow.laid
theorem VH {P : Program} {w : World} {name : String} {d : DataW Unit} {k : IntKind} {zs : List Int} {g t e : Nat} {n : Nat} (h : Lib.VarReads P w name d) (hd : d = Lib.tabData k zs) (hg : P.globalNamed name = some g) (hty : (P.globals[g]?).map (·.type) = some t)
  (ht : P.underlying t = some (.array n e)) (he : P.underlying e = some (.int k)) (hce : P.cellsOf e = 1) (hct : P.cellsOf t = n) : ∃ t fz, w.heap[g]? = some (.cells (zs.map fun z => Value.int k z).toArray t fz) := by
 subst hd
 obtain ⟨g', t', cs, fuel, p, hg', ht', hvar, htr⟩ := h
 obtain rfl := Option.some.inj (hg.symm.trans hg')
 obtain rfl := Option.some.inj (hty.symm.trans ht')
 have hc := Lib.cells_of_tab ht he hce hct htr
 unfold World.var? at hvar
 rw [hg, Option.bind_some] at hvar
 split at hvar
 ·rename_i cs' t2 fz hh
  injection hvar with hvar
  subst hvar
  exact ⟨t2, fz, by rw [hh, ← hc]⟩
 ·cases hvar
theorem UW {P : Program} {w : World} {name nm : String} {d0 d : DataW Unit} {g t : Nat} {ms : Array (String × TypeId)} (h : Lib.VarReads P w name d0) (hd : d0 = .iface nm d) (hg : P.globalNamed name = some g) (hty : (P.globals[g]?).map (·.type) = some t)
  (ht : P.underlying t = some (.interface ms)) : ∃ v, w.cell? ⟨g, 0, none⟩ = some v ∧ (v = .nilIface ∨ ∃ te pe, v = .iface te pe) := by
 subst hd
 obtain ⟨g', t', cs, fuel, p, hg', ht', hvar, htr⟩ := h
 obtain rfl := Option.some.inj (hg.symm.trans hg')
 obtain rfl := Option.some.inj (hty.symm.trans ht')
 obtain ⟨_, u, v, hcs, _, _⟩ := iface_of_trod ht htr
 unfold World.var? at hvar
 rw [hg, Option.bind_some] at hvar
 split at hvar
 ·rename_i cs' t2 fz hh
  injection hvar with hvar
  subst hvar
  refine ⟨.iface u v, ?_, .inr ⟨u, v, rfl⟩⟩
  simp [World.cell?, hh, hcs]
  rw [← Array.getElem?_toList, hcs]; rfl
 ·cases hvar
theorem X9 : U8Extra Tryz.prog Ka := ⟨by kernel_rfl, by kernel_rfl, by kernel_rfl, by kernel_rfl, by kernel_rfl, by kernel_rfl, by kernel_rfl⟩
theorem P7 {w : World} (h : laidMetH Tryz.prog laidL w) (hsh : w.ShapedOpen Tryz.prog) : Laid w := by
 rw [MakeChecks.laidMetH_plain _ _ _ (by kernel_rfl)] at h
 have rd : ∀ i (hi : i < laidL.length), Lib.VarReads Tryz.prog w laidL[i].1 laidL[i].2 := fun i hi => Lib.laidMet.reads h (List.getElem_mem hi)
 have e8 : laidL[8].2 = Lib.firstData := by kernel_rfl
 have e3 : laidL[3].2 = Lib.acceptData := by kernel_rfl
 have d8 := rd 8 (by decide)
 have d3 := rd 3 (by decide)
 rw [e8] at d8
 rw [e3] at d3
 have hu := utf8Tabs_of_reads WT X9 d8 d3
 exact ⟨VH (rd 7 (by decide)) (by kernel_rfl) (by kernel_rfl) (by kernel_rfl) Tryz.underlying211 Tryz.underlying5 (by kernel_rfl) (by kernel_rfl),
  VH (rd 2 (by decide)) (by kernel_rfl) (by kernel_rfl) (by kernel_rfl) Tryz.underlying228 Tryz.underlying198 (by kernel_rfl) (by kernel_rfl),
  UW (rd 5 (by decide)) (by rfl) (by kernel_rfl) (by kernel_rfl) Tryz.underlying113,
  UW (rd 4 (by decide)) (by rfl) (by kernel_rfl) (by kernel_rfl) Tryz.underlying113, hu,
  Go.Proofs.cell_of_shapedOpen_int (zero := #[.int .i64 0]) (t := 3) hsh (of_decide_eq_true (by kernel_rfl)) (by kernel_rfl) rfl (by kernel_rfl) (by kernel_rfl) Tryz.underlying3⟩
noncomputable def Cg (os : Os) : World := World.laidAll Tryz.prog os laidL
instance : Inhabited Pt := ⟨.mk 0 [] [] [] [] [] []⟩
section
variable {H : Type} {enc : TypeId × Value → H} {w : World} {base : Nat} {spare : Nat → Bool} {held : Bool} {fuel : Nat}
theorem Qe (d : DataW H) : 1 ≤ Rows.uptoBulk d := by
 cases d with
 | lit v => cases v <;> simp [Rows.uptoBulk]
 | _ => simp [Rows.uptoBulk]
theorem Qp {d : DataW H} : ∀ {l : List (DataW H)}, d ∈ l → Rows.uptoBulk d ≤ Rows.uptoBulkAll l
 | x :: r, h => by
  simp only [Rows.uptoBulkAll]
  rcases List.mem_cons.1 h with rfl | h
  ·omega
  ·have := Qp h; omega
theorem Pn : ∀ l : List (DataW H), l.length ≤ Rows.uptoBulkAll l
 | [] => by simp
 | x :: r => by
  have := Qe x
  have := Pn r
  simp only [Rows.uptoBulkAll, List.length_cons]; omega
theorem Vd : Tryz.prog.cellsOf 9 = 1 := by kernel_rfl
theorem W8 : Tryz.prog.cellsOf 52 = 2 := by kernel_rfl
theorem Sf : Tryz.prog.cellsOf 55 = 7 := by kernel_rfl
theorem XI : Tryz.prog.underlying 55 = some (.struct (Tryz.prog.fieldsOf 55)) := by kernel_rfl
theorem ZA : Tryz.prog.underlying 52 = some (.struct (Tryz.prog.fieldsOf 52)) := by kernel_rfl
theorem ZG : (Tryz.prog.fieldsOf 55).toList.map (fun f => (f.type, f.offset, Tryz.prog.cellsOf f.type)) = [(3, 0, 1), (9, 1, 1), (9, 2, 1), (35, 3, 1), (53, 4, 1), (22, 5, 1), (22, 6, 1)] := by kernel_rfl
theorem ZU : (Tryz.prog.fieldsOf 52).toList.map (fun f => (f.type, f.offset, Tryz.prog.cellsOf f.type)) = [(9, 0, 1), (3, 1, 1)] := by kernel_rfl
theorem H7 {α : Type} {l : List α} (h : l.length = 7) : ∃ a0 a1 a2 a3 a4 a5 a6, l = [a0, a1, a2, a3, a4, a5, a6] := by
 rcases l with _ | ⟨a0, _ | ⟨a1, _ | ⟨a2, _ | ⟨a3, _ | ⟨a4, _ | ⟨a5, _ | ⟨a6, _ | ⟨a7, l⟩⟩⟩⟩⟩⟩⟩⟩ <;> simp at h
 exact ⟨a0, a1, a2, a3, a4, a5, a6, rfl⟩
theorem HH {α : Type} {l : List α} (h : l.length = 2) : ∃ a0 a1, l = [a0, a1] := by
 rcases l with _ | ⟨a0, _ | ⟨a1, _ | ⟨a2, l⟩⟩⟩ <;> simp at h
 exact ⟨a0, a1, rfl⟩
theorem Iq {v : Value} {x : DataW H × List MemPlace} (h : DataW.trod enc Tryz.prog w base spare held fuel 9 [v] = some x) : ∃ s : AF, RepL (R6 w) [v] [.str s] ∧ s.length ≤ Rows.uptoBulk x.1 := by
 obtain ⟨s, h1, _, h3⟩ := OJ Tryz.underlying9 h
 have h3' : s.length + 1 ≤ Rows.uptoBulk x.1 := h3
 exact ⟨s, h1, by omega⟩
theorem SY : ∀ l : List AF, l.length ≤ (l.map fun s : AF => s.length + 1).sum
 | [] => by simp
 | s :: r => by have := SY r; simp only [List.length_cons, List.map_cons, List.sum_cons]; omega
theorem Sr {s : AF} : ∀ {l : List AF}, s ∈ l → s.length ≤ (l.map fun s : AF => s.length + 1).sum
 | x :: r, h => by
  simp only [List.map_cons, List.sum_cons]
  rcases List.mem_cons.1 h with rfl | h
  ·omega
  ·have := Sr h; omega
theorem T1 {α : Type} : ∀ l : List α, (l.map fun _ => 1).sum = l.length
 | [] => rfl
 | x :: r => by rw [List.map_cons, List.sum_cons, T1 r, List.length_cons]; omega
theorem RZ {v : Value} {x : DataW H × List MemPlace} (h : DataW.trod enc Tryz.prog w base spare held fuel 35 [v] = some x) : ∃ l : List AF, RepL (R6 w) [v] [DN l] ∧ l.length ≤ Rows.uptoBulk x.1 ∧ ∀ s ∈ l, s.length ≤ Rows.uptoBulk x.1 := by
 obtain ⟨l, h1, _, h3⟩ := open_list (P := Tryz.prog) AV.str (fun _ => True) (fun s => s.length + 1) Tryz.underlying35 Vd (by decide) (fun a => ⟨rfl, fun y hy => by simp [AV.cells] at hy; subst hy; rfl⟩) (fun k cs y hc hy => by
  rcases cs with _ | ⟨c, _ | ⟨_, _⟩⟩
  ·cases hc
  ·obtain ⟨s, h1, _, h3⟩ := OJ Tryz.underlying9 hy
   exact ⟨s, h1, fun _ => trivial, h3⟩
  ·simp at hc) h
 have h3' : (l.map fun s : AF => s.length + 1).sum + 1 ≤ Rows.uptoBulk x.1 := h3
 exact ⟨l, h1, by have := SY l; omega, fun s hs => by have := Sr hs; omega⟩
theorem Tw {v : Value} {x : DataW H × List MemPlace} (h : DataW.trod enc Tryz.prog w base spare held fuel 53 [v] = some x) : ∃ l : List (AF × Int), RepL (R6 w) [v] [Bz l] ∧ l.length ≤ Rows.uptoBulk x.1 := by
 obtain ⟨l, h1, _, h3⟩ := open_list (P := Tryz.prog) Ty (fun _ => True) (fun _ => 1) Tryz.underlying53 W8 (by decide) (fun a => ⟨rfl, fun y hy => by simp [AV.cells] at hy; rcases hy with rfl | rfl <;> rfl⟩) (fun k cs y hc hy => by
  obtain ⟨ys, m, _, hx, hcl, hyl, hf⟩ := DataW.trod_struct ZA hy
  have hfs := ZU
  obtain ⟨f0, f1, hq⟩ := HH (by have := congrArg List.length ZU; simpa using this : (Tryz.prog.fieldsOf 52).toList.length = 2)
  rw [hq] at hfs
  simp only [List.map_cons, List.map_nil, List.cons.injEq, Prod.mk.injEq, and_true] at hfs
  obtain ⟨⟨t0, o0, k0⟩, ⟨t1, o1, k1⟩⟩ := hfs
  have h0 : (Tryz.prog.fieldsOf 52)[0]? = some f0 := by rw [← Array.getElem?_toList, hq]; rfl
  have h1 : (Tryz.prog.fieldsOf 52)[1]? = some f1 := by rw [← Array.getElem?_toList, hq]; rfl
  have hn : (Tryz.prog.fieldsOf 52).size = 2 := by rw [← Array.length_toList, hq]; rfl
  have g0 := hf 0 f0 h0
  rw [k0, o0, t0] at g0
  have g1 := hf 1 f1 h1
  rw [k1, o1, t1] at g1
  rw [hn] at hyl
  obtain ⟨y0, y1, hys⟩ := HH hyl
  subst hys
  obtain ⟨z0, z1, hz⟩ := HH hc
  subst hz
  simp only [List.drop, List.take] at g0 g1
  obtain ⟨s, r0, _⟩ := Iq g0
  obtain ⟨n1, e1, _, w1⟩ := DataW.trod_int Tryz.underlying3 g1
  simp at e1
  subst e1
  exact ⟨(s, n1), .cons (GI r0) (.cons .int .nil), fun _ => trivial, Qe _⟩) h
 have h3' : (l.map fun _ => 1).sum + 1 ≤ Rows.uptoBulk x.1 := h3
 exact ⟨l, h1, by rw [T1] at h3'; omega⟩
theorem S7 {es sp : List (DataW H)} {d : DataW H} (h : d ∈ es) : SizeOf.sizeOf d < SizeOf.sizeOf (DataW.slice es sp) := by
 have := List.sizeOf_lt_of_mem h
 simp only [DataW.slice.sizeOf_spec]; omega
theorem Qf {es : List (DataW H)} {d : DataW H} (h : d ∈ es) : SizeOf.sizeOf d < SizeOf.sizeOf (DataW.agg es) := by
 have := List.sizeOf_lt_of_mem h
 simp only [DataW.agg.sizeOf_spec]; omega
theorem GA {v : Value} {x : DataW H × List MemPlace} (he : ∀ k cs (y : DataW H × List MemPlace), SizeOf.sizeOf y.1 < SizeOf.sizeOf x.1 → DataW.trod enc Tryz.prog w base spare held k 55 cs = some y → ∃ s : Pt, RepL (R6 w) cs (E8 s).cells ∧ (Rows.uptoBulk y.1 ≤ 1048576 → Lb s))
  (h : DataW.trod enc Tryz.prog w base spare held fuel 22 [v] = some x) : ∃ p : List Pt, Rep (R6 w) v (E1 p) ∧ (Rows.uptoBulk x.1 ≤ 1048576 → p.length ≤ 2000000 ∧ E4 p) := by
 obtain ⟨n, k, X, Y, hr, hX, hY⟩ := LC Tryz.underlying22 Sf (by decide) h
 have hlt : ∀ i, i < n → SizeOf.sizeOf (Y i).1 < SizeOf.sizeOf x.1 := fun i hi => by
  rcases hY with ⟨h0, _⟩ | ⟨sp, h1⟩
  ·omega
  ·rw [h1]; exact S7 (List.mem_map.2 ⟨i, List.mem_range.2 hi, rfl⟩)
 obtain ⟨f, hf⟩ := choose_lt (n := n) (p := fun i (s : Pt) => RepL (R6 w) (X i) (E8 s).cells ∧ (Rows.uptoBulk (Y i).1 ≤ 1048576 → Lb s)) (fun i hi => he k (X i) (Y i) (hlt i hi) (hX i hi).2)
 have hlen : (((List.range n).map f).map E8).length = n := by simp
 have hu : ∀ s : Pt, (E8 s).cells.length = 7 ∧ ∀ y ∈ (E8 s).cells, y.one = true := fun s => by
  obtain ⟨k, t, nm, pa, fs, b, e⟩ := s
  rw [E8]
  refine ⟨rfl, fun y hy => ?_⟩
  simp only [AV.cells, List.mem_cons, List.not_mem_nil, or_false] at hy
  rcases hy with rfl | rfl | rfl | rfl | rfl | rfl | rfl <;> rfl
 refine ⟨(List.range n).map f, ?_, fun hw => ?_⟩
 ·unfold E1
  rw [FJ]
  refine OC hr ?_ hlen (by decide) ?_ ?_
  ·rw [List.map_map]
   exact OF fun i hi => (hf i hi).1
  ·intro y hy
   obtain ⟨a, _, rfl⟩ := List.mem_map.1 hy
   exact (hu a).1
  ·intro y hy
   obtain ⟨z, hz, hy⟩ := List.mem_flatMap.1 hy
   obtain ⟨a, _, rfl⟩ := List.mem_map.1 hz
   exact (hu a).2 y hy
 ·have key : ∀ p : List Pt, (∀ s ∈ p, Lb s) → E4 p := by
   intro p
   induction p with
   | nil => intro _; trivial
   | cons s r ih => intro h; exact ⟨h s List.mem_cons_self, ih fun y hy => h y (List.mem_cons_of_mem _ hy)⟩
  rcases hY with ⟨h0, h1⟩ | ⟨sp, h1⟩
  ·subst h0; exact ⟨by simp, trivial⟩
  ·rw [h1] at hw
   simp only [Rows.uptoBulk] at hw
   refine ⟨?_, key _ fun s hs => ?_⟩
   ·have := Pn ((List.range n).map fun i => (Y i).1)
    simp at this
    simp; omega
   ·obtain ⟨i, hi, rfl⟩ := List.mem_map.1 hs
    have hi' : i < n := List.mem_range.1 hi
    have := Qp (d := (Y i).1) (l := (List.range n).map fun i => (Y i).1) (List.mem_map.2 ⟨i, hi, rfl⟩)
    exact (hf i hi').2 (by omega)
set_option maxRecDepth 100000 in
theorem Ri : ∀ (N : Nat) {fuel : Nat} {cs : List Value} {x : DataW H × List MemPlace}, SizeOf.sizeOf x.1 ≤ N → DataW.trod enc Tryz.prog w base spare held fuel 55 cs = some x → ∃ s : Pt, RepL (R6 w) cs (E8 s).cells ∧ (Rows.uptoBulk x.1 ≤ 1048576 → Lb s) := by
 intro N
 induction N with
 | zero =>
  intro fuel cs x hN h
  obtain ⟨ys, m, _, hx, _⟩ := DataW.trod_struct XI h
  rw [hx] at hN
  simp at hN
 | succ N ih =>
  intro fuel cs x hN h
  obtain ⟨ys, m, _, hx, hcl, hyl, hf⟩ := DataW.trod_struct XI h
  have hfs := ZG
  obtain ⟨f0, f1, f2, f3, f4, f5, f6, hq⟩ := H7 (by have := congrArg List.length ZG; simpa using this : (Tryz.prog.fieldsOf 55).toList.length = 7)
  rw [hq] at hfs
  simp only [List.map_cons, List.map_nil, List.cons.injEq, Prod.mk.injEq, and_true] at hfs
  obtain ⟨⟨t0, o0, k0⟩, ⟨t1, o1, k1⟩, ⟨t2, o2, k2⟩, ⟨t3, o3, k3⟩, ⟨t4, o4, k4⟩, ⟨t5, o5, k5⟩, ⟨t6, o6, k6⟩⟩ := hfs
  have h0 : (Tryz.prog.fieldsOf 55)[0]? = some f0 := by rw [← Array.getElem?_toList, hq]; rfl
  have g0 := hf 0 f0 h0
  rw [k0, o0, t0] at g0
  have h1 : (Tryz.prog.fieldsOf 55)[1]? = some f1 := by rw [← Array.getElem?_toList, hq]; rfl
  have g1 := hf 1 f1 h1
  rw [k1, o1, t1] at g1
  have h2 : (Tryz.prog.fieldsOf 55)[2]? = some f2 := by rw [← Array.getElem?_toList, hq]; rfl
  have g2 := hf 2 f2 h2
  rw [k2, o2, t2] at g2
  have h3 : (Tryz.prog.fieldsOf 55)[3]? = some f3 := by rw [← Array.getElem?_toList, hq]; rfl
  have g3 := hf 3 f3 h3
  rw [k3, o3, t3] at g3
  have h4 : (Tryz.prog.fieldsOf 55)[4]? = some f4 := by rw [← Array.getElem?_toList, hq]; rfl
  have g4 := hf 4 f4 h4
  rw [k4, o4, t4] at g4
  have h5 : (Tryz.prog.fieldsOf 55)[5]? = some f5 := by rw [← Array.getElem?_toList, hq]; rfl
  have g5 := hf 5 f5 h5
  rw [k5, o5, t5] at g5
  have h6 : (Tryz.prog.fieldsOf 55)[6]? = some f6 := by rw [← Array.getElem?_toList, hq]; rfl
  have g6 := hf 6 f6 h6
  rw [k6, o6, t6] at g6
  have hn : (Tryz.prog.fieldsOf 55).size = 7 := by rw [← Array.length_toList, hq]; rfl
  rw [hn] at hyl
  obtain ⟨y0, y1, y2, y3, y4, y5, y6, hys⟩ := H7 hyl
  subst hys
  obtain ⟨z0, z1, z2, z3, z4, z5, z6, hz⟩ := H7 (hcl.trans Sf)
  subst hz
  simp only [List.drop, List.take] at g0 g1 g2 g3 g4 g5 g6
  obtain ⟨n0, e0, _, w0⟩ := DataW.trod_int Tryz.underlying3 g0
  simp at e0
  subst e0
  obtain ⟨n1, r1, v1⟩ := Iq g1
  obtain ⟨n2, r2, v2⟩ := Iq g2
  obtain ⟨n3, r3, v3, v3'⟩ := RZ g3
  obtain ⟨n4, r4, v4⟩ := Tw g4
  have hy5 : SizeOf.sizeOf y5.1 < SizeOf.sizeOf x.1 := by rw [hx]; exact Qf (by simp)
  have hy6 : SizeOf.sizeOf y6.1 < SizeOf.sizeOf x.1 := by rw [hx]; exact Qf (by simp)
  obtain ⟨n5, r5, v5⟩ := GA (fun k cs y hy hk => ih (by omega) hk) g5
  obtain ⟨n6, r6, v6⟩ := GA (fun k cs y hy hk => ih (by omega) hk) g6
  refine ⟨.mk n0 n1 n2 n3 n4 n5 n6, ?_, fun hw => ?_⟩
  ·rw [E8]
   exact .cons .int (.cons (GI r1) (.cons (GI r2) (.cons (GI r3) (.cons (GI r4) (.cons r5 (.cons r6 .nil))))))
  ·rw [hx] at hw
   simp only [Rows.uptoBulk, List.map_cons, List.map_nil, Rows.uptoBulkAll] at hw
   obtain ⟨a1, a2⟩ := v5 (by omega)
   obtain ⟨b1, b2⟩ := v6 (by omega)
   exact ⟨by omega, by omega, by omega, fun s hs => by have := v3' s hs; omega, by omega, a1, b1, a2, b2⟩
theorem Gy {v : Value} {x : DataW H × List MemPlace} (h : DataW.trod enc Tryz.prog w base spare held fuel 22 [v] = some x) : ∃ p : List Pt, Rep (R6 w) v (E1 p) ∧ (Rows.uptoBulk x.1 ≤ 1048576 → p.length ≤ 2000000 ∧ E4 p) :=
 GA (fun _ _ _ _ hk => Ri _ (Nat.le_refl _) hk) h
end
end Go.Proofs.YtnfjgphfaemjcaaGreatDoor
