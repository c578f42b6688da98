/- Streams: the law of simplified streams; no condition. -/
import Derived.Test.YtjdccdelcnmocaaGreatDoorMgJ
import Derived.Test.YtjdccdelcnmocaaGreatDoorMdR
import Derived.Test.YtjdccdelcnmocaaGreatDoorMdP
import Derived.Test.YtjdccdelcnmocaaGreatDoorMdO
set_option linter.all false
set_option linter.unusedSimpArgs false
set_option linter.unusedVariables false
set_option maxHeartbeats 4000000
namespace Go.Proofs.YtjdccdelcnmocaaGreatDoor
theorem SF : ∀ {l : Aq} {cur fin : AZ}, monL cur l fin → (∀ e ∈ l, e.2.length = cur.length) ∧ fin.length = cur.length
 | [], cur, fin, h => ⟨by simp, h.1.symm⟩
 | (x, c) :: r, cur, fin, h => by
  obtain ⟨h1, h2⟩ := SF h.2
  have h3 : cur.length = c.length := h.1.1
  refine ⟨fun e he => ?_, by omega⟩
  rcases List.mem_cons.1 he with rfl | he
  ·exact h3.symm
  ·rw [h1 e he]; exact h3.symm
theorem Sl : ∀ Fs : List Fut, (Fs.map (·.cur)).flatten.length = (Fs.map fun F => F.cur.length).sum
 | [] => rfl
 | F :: Fs => by simp [Sl Fs]
theorem Wz : ∀ Fs : List Fut, (D0 Fs).cur.length = (Fs.map fun F => F.cur.length).sum
 | [] => rfl
 | F :: Fs => by simp [D0, Wz Fs]
theorem Yy (k o n : Int) (F : Fut) : (CC k o n F).cur = F.cur := by
 unfold CC
 (repeat' split) <;> first | rfl | (unfold MO; split <;> rfl)
theorem XA : ∀ s : St, (AY s).cur.length ≤ Ab s := by
 intro s
 refine St.ind (Q := fun s => (AY s).cur.length ≤ Ab s) ?_ s
 intro k o n v p ih
 have hp : ((Es p).map fun F => F.cur.length).sum ≤ Ak p := by
  clear k o n v
  induction p with
  | nil => simp [Es, Ak]
  | cons q r ihr =>
   have := ih q List.mem_cons_self
   have := ihr fun s hs => ih s (List.mem_cons_of_mem _ hs)
   simp [Es, Ak]; omega
 rw [AY, Ab]
 unfold CO
 split
 ·simp [Gi]
 split
 ·simp [Gi]
 split
 ·rw [Wz]; omega
 split
 ·show (Hv (Es p)).cur.length ≤ _
  unfold Hv
  dsimp only
  rw [Sl]; omega
 split
 ·rename_i F e
  rw [e] at hp
  rw [Yy]; simp at hp; omega
 ·rename_i F G e
  rw [e] at hp
  simp at hp
  split <;> simp <;> omega
 ·simp
theorem ZG (s : St) (hz : Ab s ≤ 60) (m : Nat) : (if m ≤ (AY s).l.length then GM (AY s) m else (AY s).fin).length ≤ 60 := by
 have hc := XA s
 obtain ⟨h1, h2⟩ := SF (Qe s).1
 split
 ·rename_i h
  unfold GM
  rw [List.getD_eq_getElem?_getD]
  cases m with
  | zero => simp; omega
  | succ i =>
   obtain ⟨e, he⟩ : ∃ e, (AY s).l[i]? = some e := ⟨_, List.getElem?_eq_getElem (by omega)⟩
   rw [List.getElem?_cons_succ, List.getElem?_map, he]
   have := h1 e (List.mem_of_getElem? he)
   simp; omega
 ·omega
theorem YW {s : St} (hs : HE s) (hm : Ks s) (hz : Ab s ≤ 60) (m : Int) : MX (FZ s) m = MX s m := by
 obtain ⟨a, b, _, c, d⟩ := TQ s hs hm
 unfold MX
 rw [KI hs hm hz, KI a b (by omega), d]
attribute [local simp] Nt GX Gy PR NX Pd OR GG Gx I1 JS Qp Q2 PM RE QS Qq P7 RI Nb No Qt Np Qo QJ WK pe PO Pu Pe R3 QU RG Qh PB Oj Nj NF Nm Qz Gv Pp NY PV Ox NJ Pn OY QT Qy QR R9 PJ Ow Q9 Ot Pg PH O7 Pz NO RA GQ OV H7 OS Nd PG PT Ou Nk Og Qx RD Pf NZ RF PL PX R4 OZ Nc Qs NT Oh Pw P6 R6 Q5 NK Gr PA Q4 Qb OP NM P4 Qn P3 Oq OC PI OG Q8 Ni Nh Q3 Nr ON Qr P1 P5 Ov Nw QQ QO Pc NV PC Px R2 K6 OM List.mem_cons guardK FJ Fz Gu J5 O5 Gk Ge Gz Gj H8 GY GO GV H5 PD QM Gg PZ Oy OB O4 Nv QK GU P2 OQ Ql QP O9 R8 J0 Gq Gn Gm Gs RC Pr H6 Ns Gl Nq GS Gd NQ GL Gp Ok O6 Pa Na PK QD Q7 PU WJ MC MV JD MF MB MU Fe I3 I6 O0 Hz I4 Fd FD YP ME M8 I8 M9 MW El EL C6 Bo Cu EA AH ev get put Fa AN EK QA OI OA QC MH Od FW part BS IH RB Hx isNil Df EC Ep EG EE OW Oc NH OL Ng ML Pk PY Q6 Nf Qc Qv Of Ps OD Pi AV.fits AV.cells ones AV.one FF DC FI EF Fg FS Po Fk GZ Cz Br CH Er Gw AX Bq ZY J8 Oz PP List.getElem?_cons_zero List.getElem?_cons_succ Gc GJ Ga OE OX QB IB Qd Pj Qm Qf Pb QI QL Pq Nz Oa Nu
theorem Ti (s : St) (hf : Cy s) (m : Int) : APure Tryz.prog 12 [encS s, aI m] (.bool true) := by
 have hst := Te
 have hw := I2 s hf
 have hin := Ia m 0 5000
 by_cases h0 : (Eg s).1 = 0
 ·obtain ⟨h1, h2, h3, h4⟩ := J3 h0
  have hg : GoodS s := ⟨hf, h2, h3, h4⟩
  by_cases hm : 0 ≤ m ∧ m ≤ 5000
  ·have hgx := SV s hg
   obtain ⟨f2, f3, _, f4, f5⟩ := TQ s h2 h3
   have hx1 := KI f2 f3 (by omega)
   have hfu := YM s hf
   have hfv := YM (FZ s) hgx.1
   have hwx := I2 (FZ s) hgx.1
   have hsa := A0k (FZ s) hgx.1
   have hr1 := A02 s hf m
   have hr2 := A02 (FZ s) hgx.1 m
   have hn1 := UX s hf (by omega)
   have hn2 := UX (FZ s) hgx.1 (by omega)
   unfold A09 at hfu hfv
   rw [if_pos h0, h1] at hfu
   rw [if_pos (by rw [hx1]), hx1, Zd] at hfv
   rw [h1] at hw
   rw [hx1] at hwx
   rw [YW h2 h3 h4] at hr2
   unfold MX at hr1 hr2
   rw [h1, if_neg (by simp), if_neg (fun h => h hm)] at hr1 hr2
   have hnn : ¬ (Ab s : Int) < Ab (FZ s) := by omega
   have hin2 : (decide ((0 : Int) ≤ m) && decide (m ≤ 5000)) = true := by simp [hm]
   rw [hin2] at hin
   have hbd := Hn s h2
   have hb5 : (AY s).l.length ≤ 5000 := by
    have : AW s ≤ 5000 := by obtain ⟨k, o, m, v, p⟩ := s; exact h3.1
    omega
   generalize hA : ((AY s).l.map (·.1)).take m.toNat = A at *
   have hAl : A.length ≤ 5000 := by rw [← hA]; simp; omega
   have hTl' := ZG s h4 m.toNat
   generalize hT : (if m.toNat ≤ (AY s).l.length then GM (AY s) m.toNat else (AY s).fin) = T at *
   have hTl : T.length ≤ 140737488355328 := by omega
   have hi1 := Tt A A (by omega)
   have hi2 := Tt T T hTl
   rw [decide_eq_true rfl] at hi1 hi2
   generalize decide ((AY s).l.length < m.toNat) = b at *
   clear hbd hb5 hA hT f5 hg hgx
   generalize (Ab (FZ s) : Int) = z2 at *
   generalize (Ab s : Int) = z1 at *
   generalize FZ s = t at *
   generalize A.map aI = ya at *
   generalize T.map aI = tm at *
   obtain ⟨k, o, m', v, p⟩ := s
   obtain ⟨k1, o1, m1, v1, p1⟩ := t
   simp only [AF] at *
   
   refine A7 Tryz.func12 WS rfl fun n H hH => ?_
   repeat' (first | (simp -implicitDefEqProofs [KD, KE, c12, -getElem?_pos, splice, hnn]) | (simp (disch := omega) only [AA]) | ((with_reducible refine Aa 34 ?_); (refine' CallP.sf ?_ (hfu) ?_); (focus first | (with_reducible exact A2 _) | (simp [AQ, AM, A5, A2]; done))) | ((with_reducible refine Aa 34 ?_); (refine' CallP.sf ?_ (hfv) ?_); (focus first | (with_reducible exact A2 _) | (simp [AQ, AM, A5, A2]; done))) | ((with_reducible refine Aa 14 ?_); (refine' CallP.sf ?_ (hw) ?_); (focus first | (with_reducible exact A2 _) | (simp [AQ, AM, A5, A2]; done))) | ((with_reducible refine Aa 14 ?_); (refine' CallP.sf ?_ (hwx) ?_); (focus first | (with_reducible exact A2 _) | (simp [AQ, AM, A5, A2]; done))) | ((with_reducible refine Aa 19 ?_); (refine' CallP.sf ?_ (hin) ?_); (focus first | (with_reducible exact A2 _) | (simp [AQ, AM, A5, A2]; done))) | ((with_reducible refine Aa 26 ?_); (refine' CallP.sf ?_ (hsa) ?_); (focus first | (with_reducible exact A2 _) | (simp [AQ, AM, A5, A2]; done))) | ((with_reducible refine Aa 31 ?_); (refine' CallP.sf ?_ (hn1) ?_); (focus first | (with_reducible exact A2 _) | (simp [AQ, AM, A5, A2]; done))) | ((with_reducible refine Aa 31 ?_); (refine' CallP.sf ?_ (hn2) ?_); (focus first | (with_reducible exact A2 _) | (simp [AQ, AM, A5, A2]; done))) | ((with_reducible refine Aa 18 ?_); (refine' CallP.sf ?_ (hr1) ?_); (focus first | (with_reducible exact A2 _) | (simp [AQ, AM, A5, A2]; done))) | ((with_reducible refine Aa 18 ?_); (refine' CallP.sf ?_ (hr2) ?_); (focus first | (with_reducible exact A2 _) | (simp [AQ, AM, A5, A2]; done))) | ((with_reducible refine Aa 22 ?_); (refine' CallP.sf ?_ (hi1) ?_); (focus first | (with_reducible exact A2 _) | (simp [AQ, AM, A5, A2]; done))) | ((with_reducible refine Aa 22 ?_); (refine' CallP.sf ?_ (hi2) ?_); (focus first | (with_reducible exact A2 _) | (simp [AQ, AM, A5, A2]; done))) | ((with_reducible refine Aa 16 ?_); (refine' CallP.sf ?_ (hst) ?_); (focus first | (with_reducible exact A2 _) | (simp [AQ, AM, A5, A2]; done))) | (with_reducible first | refine A6 ?_ ?_ ?_ | exact AC | assumption | refine A0 ?_ | refine KM.of ?_ | refine AB ?_ | refine A1 ?_ | refine A4 ?_ | intro _g _hg | refine AD ?_ ?_ | intro _hc) | omega)
   all_goals first | exact A5 _ | (intro g hg; simp (disch := omega) only [upd_ne])
  ·rw [h1] at hw
   have hin2 : (decide ((0 : Int) ≤ m) && decide (m ≤ 5000)) = false := by
    cases h : (decide ((0 : Int) ≤ m) && decide (m ≤ 5000)) with
    | false => rfl
    | true => simp at h; exact absurd h hm
   rw [hin2] at hin
   obtain ⟨k, o, m', v, p⟩ := s
   rw [AF] at *
   
   refine A7 Tryz.func12 WS rfl fun n H hH => ?_
   repeat' (first | (simp -implicitDefEqProofs [KD, KE, c12, -getElem?_pos, splice]) | (simp (disch := omega) only [AA]) | ((with_reducible refine Aa 14 ?_); (refine' CallP.sf ?_ (hw) ?_); (focus first | (with_reducible exact A2 _) | (simp [AQ, AM, A5, A2]; done))) | ((with_reducible refine Aa 19 ?_); (refine' CallP.sf ?_ (hin) ?_); (focus first | (with_reducible exact A2 _) | (simp [AQ, AM, A5, A2]; done))) | ((with_reducible refine Aa 16 ?_); (refine' CallP.sf ?_ (hst) ?_); (focus first | (with_reducible exact A2 _) | (simp [AQ, AM, A5, A2]; done))) | (with_reducible first | refine A6 ?_ ?_ ?_ | exact AC | assumption | refine A0 ?_ | refine KM.of ?_ | refine AB ?_ | refine A1 ?_ | refine A4 ?_ | intro _g _hg | refine AD ?_ ?_ | intro _hc) | omega)
   all_goals first | exact A5 _ | (intro g hg; simp (disch := omega) only [upd_ne])
 ·generalize Eg s = f at *
  obtain ⟨k, o, m', v, p⟩ := s
  rw [AF] at *
  have hb : (f.1 == 0) = false := by simpa using h0
  
  refine A7 Tryz.func12 WS rfl fun n H hH => ?_
  repeat' (first | (simp -implicitDefEqProofs [KD, KE, c12, -getElem?_pos, splice, h0, hb]) | (simp (disch := omega) only [AA]) | ((with_reducible refine Aa 14 ?_); (refine' CallP.sf ?_ (hw) ?_); (focus first | (with_reducible exact A2 _) | (simp [AQ, AM, A5, A2]; done))) | ((with_reducible refine Aa 16 ?_); (refine' CallP.sf ?_ (hst) ?_); (focus first | (with_reducible exact A2 _) | (simp [AQ, AM, A5, A2]; done))) | (with_reducible first | refine A6 ?_ ?_ ?_ | exact AC | assumption | refine A0 ?_ | refine KM.of ?_ | refine AB ?_ | refine A1 ?_ | refine A4 ?_ | intro _g _hg | refine AD ?_ ?_ | intro _hc) | omega)
  all_goals first | exact A5 _ | (intro g hg; simp (disch := omega) only [upd_ne])
end Go.Proofs.YtjdccdelcnmocaaGreatDoor
