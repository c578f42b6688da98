/- Streams: the program's capped bound; no condition. -/
import Derived.Test.YtjdccdelcnmocaaGreatDoorMdL
import Derived.Test.YtjdccdelcnmocaaGreatDoorMdO
import Derived.Test.YtjdccdelcnmocaaGreatDoorMgJ
set_option linter.all false
set_option linter.unusedSimpArgs false
set_option linter.unusedVariables false
set_option maxHeartbeats 2000000
namespace Go.Proofs.YtjdccdelcnmocaaGreatDoor
attribute [local simp] Nr F6 Ej Lh Ke MA LY F0 Eg HW HP NA KJ Mo MQ Ml MY LL L9 N3 KY MH MN Nf Nu T7 pe Ki LQ Kx Ng Kw LB Lq Nv LZ NX Nn LI LF FP Mq Ku Mb Kp N6 MX KD Mg Mh M7 Kg Kl KZ NM LC Lc K9 LN NY NC N7 FB M6 Ei Lt N5 Nc Mx N9 KQ LJ Nt KX NQ MM NU MS L4 Nq MW Lx LE Md LD Mt L3 Ka NO Kf Eu NG Mr MD Lv LR NS NL Mv KO Kb KA NI Ma KH Lr KF N1 Mw LW NK M1 Mp LH Mj L8 LX MR MG Nh N2 LG NN List.mem_cons guardK Df Fh GG HG LO Ek EW FD FE Ep Eb F1 EY FM Mz Me Ew KT KP Nm Mn NF Kz Em Mf Ni N8 Ns KK Kj H8 Ef F8 Ex Ev M5 LU En Ms FI M3 F2 Ey MU Er FJ NP MP Lw LP L1 LT N0 Lm T8 Ji Jj ID Jk Jo Jd EL Gi Ge Ky Gm Gc EK Dd UH JV Jg GZ K4 K2 EI EJ Bv Bb Ck DF AI ev get put I1 AO Dv Lu Ko Lo MZ Nk KI FU part Bo I4 Lf I7 isNil D9 DC FT DW Cu L0 ME My MJ LV K0 MK Km KG Na KN NV Ld NZ MC K8 AV.fits AV.cells ones AV.one FZ D6 FV EV Gp Ff M4 Hg HJ D8 Bm CA EZ Hz AK Bl Vy HI MO M9 List.getElem?_cons_zero List.getElem?_cons_succ El EX FC Nb Lj Mc IJ L6 LM Kv Lp Mk L5 N4 MV KL Kt M2
theorem Rz (k o m : Int) (v : List Int) (x : St) (hk : k = 5 ∨ k = 12) (hm : 0 ≤ m ∧ m ≤ 5000) (hx : APure Tryz.prog 70 [encS x] (aI (min (Aa x) 5001 : Nat))) : APure Tryz.prog 70 [encS (.mk k o m v [x])] (aI (min (Aa (.mk k o m v [x])) 5001 : Nat)) := by
 have hxf := BK x
 have hb : min (Aa (.mk k o m v [x])) 5001 = min (DT k m v [min (Aa x) 5001]) 5001 := by
  rw [Aa, P3]; rfl
 rw [hb]
 obtain ⟨b, hb'⟩ : ∃ b, min (Aa x) 5001 = b := ⟨_, rfl⟩
 have hb5 : b ≤ 5001 := by omega
 rw [hb'] at hx ⊢
 obtain ⟨m', rfl⟩ : ∃ m' : Nat, m = m' := ⟨m.toNat, by omega⟩
 rw [AP, Ac, Ac]
 generalize encS x = ex at *
 rcases hk with rfl | rfl
 ·have hz : (min (DT 5 m' v [b]) 5001 : Nat) = min (min m' b) 5001 := by simp [DT]
  rw [hz]
  
  refine AD Tryz.func70 Qj rfl fun n H hH => ?_
  repeat' (first | (simp -implicitDefEqProofs [Dz, Dq, Dr, Dm, E0, Dn, EA, E6, Dp, c70, -getElem?_pos, hxf, -AV.fits, AL, AT]) | (simp (disch := omega) only [AB]) | ((with_reducible refine AN 70 ?_); (refine' CallP.sf ?_ (hx) ?_); (focus first | (with_reducible exact A4 _) | (simp [AT, AL, A6, A4]; done))) | (with_reducible first | refine A5 ?_ ?_ ?_ | exact A7 | refine SameB.upd ?_ ?_ _ | assumption | refine A0 ?_ | refine KM.of ?_ | refine AA ?_ | refine A1 ?_ | refine A3 ?_ | intro _g _hg | refine A9 ?_ ?_ | intro _hc) | omega)
  all_goals (refine BG ?_; grind)
 ·have hz : (min (DT 12 m' v [b]) 5001 : Nat) = min (m' * b) 5001 := by simp [DT]
  rw [hz]
  have hmb : m' * b ≤ 5000 * 5001 := Nat.mul_le_mul (by omega) hb5
  have hmc : ((m' * b : Nat) : Int) = (m' : Int) * b := Int.natCast_mul _ _
  
  refine AD Tryz.func70 Qj rfl fun n H hH => ?_
  repeat' (first | (simp -implicitDefEqProofs [Dz, Dq, Dr, Dm, E0, Dn, EA, E6, Dp, c70, -getElem?_pos, hxf, -AV.fits, AL, AT]) | (simp (disch := omega) only [AB]) | ((with_reducible refine AN 70 ?_); (refine' CallP.sf ?_ (hx) ?_); (focus first | (with_reducible exact A4 _) | (simp [AT, AL, A6, A4]; done))) | (with_reducible first | refine A5 ?_ ?_ ?_ | exact A7 | refine SameB.upd ?_ ?_ _ | assumption | refine A0 ?_ | refine KM.of ?_ | refine AA ?_ | refine A1 ?_ | refine A3 ?_ | intro _g _hg | refine A9 ?_ ?_ | intro _hc) | omega)
  all_goals (rw [← hmc, IntKind.i64_wrap_id (by omega) (by omega)]; omega)
theorem Ro (o m : Int) (v : List Int) (x y : St) (hx : APure Tryz.prog 70 [encS x] (aI (min (Aa x) 5001 : Nat))) (hy : APure Tryz.prog 70 [encS y] (aI (min (Aa y) 5001 : Nat))) : APure Tryz.prog 70 [encS (.mk 15 o m v [x, y])] (aI (min (Aa (.mk 15 o m v [x, y])) 5001 : Nat)) := by
 have hxf := BK x
 have hyf := BK y
 have hb : min (Aa (.mk 15 o m v [x, y])) 5001 = min (min (Aa x) 5001) (min (Aa y) 5001) := by
  simp [Aa, OI, DT]; omega
 rw [hb]
 obtain ⟨b, hb'⟩ : ∃ b, min (Aa x) 5001 = b := ⟨_, rfl⟩
 obtain ⟨c, hc'⟩ : ∃ c, min (Aa y) 5001 = c := ⟨_, rfl⟩
 have hb5 : b ≤ 5001 := by omega
 have hc5 : c ≤ 5001 := by omega
 rw [hb'] at hx ⊢
 rw [hc'] at hy ⊢
 rw [AP, Ac, Ac, Ac]
 generalize encS x = ex at *
 generalize encS y = ey at *
 
 refine AD Tryz.func70 Qj rfl fun n H hH => ?_
 repeat' (first | (simp -implicitDefEqProofs [Dz, Dq, Dr, Dm, E0, Dn, EA, E6, Dp, c70, -getElem?_pos, hxf, hyf, -AV.fits, AL, AT]) | (simp (disch := omega) only [AB]) | ((with_reducible refine AN 70 ?_); (refine' CallP.sf ?_ (hx) ?_); (focus first | (with_reducible exact A4 _) | (simp [AT, AL, A6, A4]; done))) | ((with_reducible refine AN 70 ?_); (refine' CallP.sf ?_ (hy) ?_); (focus first | (with_reducible exact A4 _) | (simp [AT, AL, A6, A4]; done))) | (with_reducible first | refine A5 ?_ ?_ ?_ | exact A7 | refine SameB.upd ?_ ?_ _ | assumption | refine A0 ?_ | refine KM.of ?_ | refine AA ?_ | refine A1 ?_ | refine A3 ?_ | intro _g _hg | refine A9 ?_ ?_ | intro _hc) | omega)
 all_goals first | omega | (refine BG ?_; grind)
theorem P9 {l : List Nat} {i x : Nat} (h : l[i]? = some x) : (l.take (i + 1)).sum = (l.take i).sum + x := by
 rw [List.take_succ, h]; simp
theorem Ud (c : Nat) (p : List St) (h : p.length ≤ 60) (i : Nat) : ((p.map fun s => min (Aa s) c).take i).sum ≤ 60 * c := by
 have g : ∀ l : List Nat, (∀ x ∈ l, x ≤ c) → l.sum ≤ l.length * c := by
  intro l hl
  induction l with
  | nil => simp
  | cons a r ih =>
   have h1 := hl a (by simp)
   have h2 := ih fun x hx => hl x (by simp [hx])
   simp only [List.sum_cons, List.length_cons, Nat.succ_mul]
   omega
 have h1 := g ((p.map fun s => min (Aa s) c).take i) (by
  intro x hx
  obtain ⟨s, _, rfl⟩ := List.mem_map.1 (List.mem_of_mem_take hx)
  omega)
 have h2 : ((p.map fun s => min (Aa s) c).take i).length ≤ 60 := by simp; omega
 exact Nat.le_trans h1 (Nat.mul_le_mul_right c h2)
theorem SV (k o m : Int) (v : List Int) (p : List St) (h1 : k ≠ 1) (h2 : k ≠ 2) (h5 : k ≠ 5) (h12 : k ≠ 12) (h15 : k ≠ 15) (hp : p.length ≤ 60) (hx : ∀ x ∈ p, APure Tryz.prog 70 [encS x] (aI (min (Aa x) 5001 : Nat))) : APure Tryz.prog 70 [encS (.mk k o m v p)] (aI (min (Aa (.mk k o m v p)) 5001 : Nat)) := by
 have hb : min (Aa (.mk k o m v p)) 5001 = min (p.map fun s => min (Aa s) 5001).sum 5001 := by
  rw [Aa, P3, HZ, List.map_map]
  simp [DT, h1, h2, h5, h12, h15, Function.comp_def]
 have hcl := Ud 5001 p hp
 have hpl := BJ p
 rw [hb]
 rw [AP]
 
 refine AD Tryz.func70 Qj rfl fun n H hH => ?_
 repeat' (first | (simp -implicitDefEqProofs [c70, Dz, Dq, Dr, Dm, E0, Dn, EA, E6, Dp, c70, -getElem?_pos, h1, h2, h5, h12, h15]) | (simp (disch := omega) only [AB]) | (with_reducible first | refine A5 ?_ ?_ ?_ | exact A7 | refine SameB.upd ?_ ?_ _ | assumption | refine A0 ?_ | refine KM.of ?_ | refine AA ?_ | refine A1 ?_ | refine A3 ?_ | intro _g _hg | refine A9 ?_ ?_ | intro _hc) | omega)
 refine LoopK.go (fun r st => ∃ (j n1 : Nat) (H1 : A2), j + r = p.length ∧ st = ⟨[(3, aI (((p.map fun s => min (Aa s) 5001).take j).sum : Nat)), (9, .sl 5 (Ac p) .ro), (10, aI p.length), (11, aI j)], n1, H1⟩ ∧ n ≤ n1 ∧ SameB n H H1) p.length ⟨0, _, _, by omega, by simp [hpl]; exact ⟨rfl, rfl⟩, by omega, by intro q hq; simp only [upd]; (repeat' split) <;> first | rfl | omega⟩ ?_
 rintro r st ⟨j, n1, H1, hj, rfl, hn1, hsame⟩ J hJ
 by_cases hjl : j < p.length
 ·obtain ⟨x, hx'⟩ : ∃ x, p[j]? = some x := ⟨_, List.getElem?_eq_getElem hjl⟩
  have hb := hx x (List.mem_of_getElem? hx')
  have hxe := EN hx'
  have hxf := BK x
  have hjl' : (j : Int) < p.length := by omega
  have hs := P9 (l := p.map fun s => min (Aa s) 5001) (i := j) (x := min (Aa x) 5001) (by rw [List.getElem?_map, hx']; rfl)
  have hc1 := hcl j
  generalize ((p.map fun s => min (Aa s) 5001).take j).sum = a at *
  obtain ⟨b, hb'⟩ : ∃ b, min (Aa x) 5001 = b := ⟨_, rfl⟩
  have hb5 : b ≤ 5001 := by omega
  rw [hb'] at hb hs
  obtain ⟨k', o', m', v', p'⟩ := x
  rw [AP] at hb hxe hxf
  generalize Ac p = ep at *
  generalize Ac p' = ep' at *
  generalize v'.map aI = ev' at *
  
  repeat' (first | (simp -implicitDefEqProofs [Dz, Dq, Dr, Dm, E0, Dn, EA, E6, Dp, c70, -getElem?_pos, hjl', hxe, splice]) | (simp (disch := omega) only [AB]) | ((with_reducible refine AN 70 ?_); refine' AQ (hb) ?_) | (with_reducible first | refine A5 ?_ ?_ ?_ | exact A7 | refine SameB.upd ?_ ?_ _ | assumption | refine A0 ?_ | refine KM.of ?_ | refine AA ?_ | refine A1 ?_ | refine A3 ?_ | intro _g _hg | refine A9 ?_ ?_ | intro _hc) | omega)
  exact hJ (r - 1) _ (by omega) ⟨j + 1, _, _, by omega, by rw [hs]; rfl, by omega, by intro q hq; simp only [upd]; (repeat' split) <;> first | (exact hsame q hq) | omega⟩
 ·have hjl' : ¬ (j : Int) < p.length := by omega
  have hc1 := hcl j
  have e : (p.map fun s => min (Aa s) 5001).take j = p.map fun s => min (Aa s) 5001 := List.take_of_length_le (by simp; omega)
  rw [e] at hc1 ⊢
  generalize (p.map fun s => min (Aa s) 5001).sum = a at *
  
  repeat' (first | (simp -implicitDefEqProofs [Dz, Dq, Dr, Dm, E0, Dn, EA, E6, Dp, c70, -getElem?_pos, hjl', AL, AT]) | (simp (disch := omega) only [AB]) | (with_reducible first | refine A5 ?_ ?_ ?_ | exact A7 | refine SameB.upd ?_ ?_ _ | assumption | refine A0 ?_ | refine KM.of ?_ | refine AA ?_ | refine A1 ?_ | refine A3 ?_ | intro _g _hg | refine A9 ?_ ?_ | intro _hc) | omega)
  all_goals first | omega | exact hsame | (refine BG ?_; grind)
theorem JR (k o m : Int) (v : List Int) (p : List St) (hk : k = 1 ∨ k = 2) (hb : APure Tryz.prog 36 [encS (.mk k o m v p)] (aI (Aa (.mk k o m v p) : Nat))) : APure Tryz.prog 70 [encS (.mk k o m v p)] (aI (min (Aa (.mk k o m v p)) 5001 : Nat)) := by
 generalize Aa (.mk k o m v p) = b at *
 rw [AP] at hb ⊢
 generalize Ac p = ep at *
 generalize v.map aI = ev at *
 rcases hk with rfl | rfl
 ·
  refine AD Tryz.func70 Qj rfl fun n H hH => ?_
  repeat' (first | (simp -implicitDefEqProofs [Dz, Dq, Dr, Dm, E0, Dn, EA, E6, Dp, c70, -getElem?_pos, AL, AT]) | (simp (disch := omega) only [AB]) | ((with_reducible refine AN 36 ?_); refine' AQ (hb) ?_) | (with_reducible first | refine A5 ?_ ?_ ?_ | exact A7 | refine SameB.upd ?_ ?_ _ | assumption | refine A0 ?_ | refine KM.of ?_ | refine AA ?_ | refine A1 ?_ | refine A3 ?_ | intro _g _hg | refine A9 ?_ ?_ | intro _hc) | omega)
  all_goals first | omega | (refine BG ?_; grind)
 ·
  refine AD Tryz.func70 Qj rfl fun n H hH => ?_
  repeat' (first | (simp -implicitDefEqProofs [Dz, Dq, Dr, Dm, E0, Dn, EA, E6, Dp, c70, -getElem?_pos, AL, AT]) | (simp (disch := omega) only [AB]) | ((with_reducible refine AN 36 ?_); refine' AQ (hb) ?_) | (with_reducible first | refine A5 ?_ ?_ ?_ | exact A7 | refine SameB.upd ?_ ?_ _ | assumption | refine A0 ?_ | refine KM.of ?_ | refine AA ?_ | refine A1 ?_ | refine A3 ?_ | intro _g _hg | refine A9 ?_ ?_ | intro _hc) | omega)
  all_goals first | omega | (refine BG ?_; grind)
theorem WV (s : St) : Cy s → Nz s → Bk s ≤ 60 → APure Tryz.prog 70 [encS s] (aI (min (Aa s) 5001 : Nat)) := by
 refine St.ind (Q := fun s => Cy s → Nz s → Bk s ≤ 60 → APure Tryz.prog 70 [encS s] (aI (min (Aa s) 5001 : Nat))) ?_ s
 intro k o m v p ih hf hok hsz
 obtain ⟨hv, hp, hpp⟩ := hf
 obtain ⟨hn, hop⟩ := hok
 have hN := Fa hn
 simp only [Bk] at hsz
 have hpl := EM p
 have hx : ∀ x ∈ p, APure Tryz.prog 70 [encS x] (aI (min (Aa x) 5001 : Nat)) := fun x hx => ih x hx (Cw hpp x hx) (FQ hop x hx) (by have := EG x hx; omega)
 by_cases h1 : k = 1
 ·subst h1
  exact JR 1 o m v p (.inl rfl) (by rw [Aa]; exact Ov o m v p hv)
 by_cases h2 : k = 2
 ·subst h2
  exact JR 2 o m v p (.inr rfl) (by rw [Aa]; exact Q2 o m v p (hN.rng rfl) hN.vals)
 by_cases h5 : k = 5 ∨ k = 12
 ·obtain ⟨x, rfl⟩ := List.length_eq_one_iff.1 (hN.one (by omega) (by omega) (by omega) (by omega) (by omega) (by omega))
  refine Rz k o m v x h5 ?_ (hx x (by simp))
  have hm := hN.num (by rcases h5 with rfl | rfl <;> rfl)
  rcases h5 with rfl | rfl <;> simp [OR, OM, Cz] at hm <;> omega
 by_cases h15 : k = 15
 ·subst h15
  have h2 := hN.two (.inl rfl)
  match p, h2 with
  | [x, y], _ => exact Ro o m v x y (hx x (by simp)) (hx y (by simp))
 exact SV k o m v p h1 h2 (fun e => h5 (.inl e)) (fun e => h5 (.inr e)) h15 (by omega) hx
theorem US {p : List St} {j q : Nat} {x : St} (h : p[j]? = some x) : (GV (p.drop j) q).2 = (if (ED x q).2 < 0 then (GV (p.drop (j + 1)) (q + Bk x)).2 else (ED x q).2) := by
 rw [drop_at h, GV, P8]
theorem UQ {p : List St} {j : Nat} {x : St} (h : p[j]? = some x) : CU (p.drop j) = Bk x + CU (p.drop (j + 1)) := by
 rw [drop_at h, CU]
theorem A01 (s : St) : Cy s → Nz s → Bk s ≤ 60 → ∀ i : Nat, i + Bk s ≤ 100 → APure Tryz.prog 41 [encS s, aI i] (.tup [aI (ED s i).2, aI (Bk s : Nat)]) := by
 refine St.ind (Q := fun s => Cy s → Nz s → Bk s ≤ 60 → ∀ i : Nat, i + Bk s ≤ 100 → APure Tryz.prog 41 [encS s, aI i] (.tup [aI (ED s i).2, aI (Bk s : Nat)])) ?_ s
 intro k o m v p ih hf hok hsz i hi
 have hbd := WV (.mk k o m v p) hf hok hsz
 obtain ⟨hv, hp, hpp⟩ := hf
 obtain ⟨hn, hop⟩ := hok
 simp only [Bk] at hsz hi
 rw [ED, Bk]
 generalize Aa (.mk k o m v p) = B at *
 rw [AP] at hbd ⊢
 have hpl := BJ p
 
 refine AD Tryz.func41 A44 rfl fun n H hH => ?_
 repeat' (first | (simp -implicitDefEqProofs [c41, Gy, HE, HC, He, HF, HO, c41, -getElem?_pos]) | (simp (disch := omega) only [AB]) | (with_reducible first | refine A5 ?_ ?_ ?_ | exact A7 | refine SameB.upd ?_ ?_ _ | assumption | refine A0 ?_ | refine KM.of ?_ | refine AA ?_ | refine A1 ?_ | refine A3 ?_ | intro _g _hg | refine A9 ?_ ?_ | intro _hc) | omega)
 refine LoopK.go (fun r st => ∃ (j c n1 : Nat) (w : Int) (H1 : A2), j + r = p.length ∧ st = ⟨[(1, aI i), (2, .ptr _g 0), (4, aI w), (5, aI c), (11, .sl 5 (Ac p) .ro), (12, aI p.length), (13, aI j)], n1, H1⟩ ∧ _g < n1 ∧ 1 ≤ c ∧ c + CU (p.drop j) = CU p + 1 ∧ -1 ≤ w ∧ (GV p (i + 1)).2 = (if w < 0 then (GV (p.drop j) (i + c)).2 else w) ∧ SameB n H H1 ∧ H1 _g = some (.cells 25 [aI k, aI o, aI m, .sl 1 (v.map aI) .ro, .sl 5 (Ac p) .ro])) p.length ?_ ?_
 ·exact ⟨0, 1, _, -1, _, by omega, by rw [hpl]; rfl, by omega, by omega, by simp; omega, by omega, by simp, by intro q hq; simp only [upd]; (repeat' split) <;> first | rfl | omega, by simp (disch := omega) only [upd_ne, AK]⟩
 rintro r st ⟨j, c, n1, w, H1, hj, rfl, hn1, hc1, hcs, hw, hE, hsame, q1⟩ J hJ
 by_cases hjl : j < p.length
 ·obtain ⟨x, hx'⟩ : ∃ x, p[j]? = some x := ⟨_, List.getElem?_eq_getElem hjl⟩
  have hxm := List.mem_of_getElem? hx'
  have hsm := EG x hxm
  rw [UQ hx'] at hcs
  have hst := ih x hxm (Cw hpp x hxm) (FQ hop x hxm) (by omega) (i + c) (by omega)
  have hxe := EN hx'
  have hxf := BK x
  have hjl' : (j : Int) < p.length := by omega
  have hwx := (ML x (i + c)).1
  rw [US hx'] at hE
  rw [show ((i + c : Nat) : Int) = i + c from Int.natCast_add _ _] at hst
  generalize (ED x (i + c)).2 = wx at *
  generalize hsx : Bk x = sx at *
  obtain ⟨k', o', m', v', p'⟩ := x
  rw [AP] at hst hxe hxf
  generalize Ac p = ep at *
  generalize Ac p' = ep' at *
  generalize v'.map aI = ev' at *
  by_cases hw0 : w < 0
  ·rw [if_pos hw0] at hE
   
   repeat' (first | (simp -implicitDefEqProofs [Gy, HE, HC, He, HF, HO, c41, -getElem?_pos, hjl', hxe, hw0, splice]) | (simp (disch := omega) only [AB]) | ((with_reducible refine AN 41 ?_); refine' AQ (hst) ?_) | (with_reducible first | refine A5 ?_ ?_ ?_ | exact A7 | refine SameB.upd ?_ ?_ _ | assumption | refine A0 ?_ | refine KM.of ?_ | refine AA ?_ | refine A1 ?_ | refine A3 ?_ | intro _g _hg | refine A9 ?_ ?_ | intro _hc) | omega)
   exact hJ (r - 1) _ (by omega) ⟨j + 1, c + sx, _, wx, _, by omega, rfl, by omega, by omega, by omega, hwx, by rw [hE, Nat.add_assoc], by intro q hq; simp only [upd]; (repeat' split) <;> first | (exact hsame q hq) | omega, by simp (disch := omega) only [upd_ne]; exact q1⟩
  ·rw [if_neg hw0] at hE
   
   repeat' (first | (simp -implicitDefEqProofs [Gy, HE, HC, He, HF, HO, c41, -getElem?_pos, hjl', hxe, hw0, splice]) | (simp (disch := omega) only [AB]) | ((with_reducible refine AN 41 ?_); refine' AQ (hst) ?_) | (with_reducible first | refine A5 ?_ ?_ ?_ | exact A7 | refine SameB.upd ?_ ?_ _ | assumption | refine A0 ?_ | refine KM.of ?_ | refine AA ?_ | refine A1 ?_ | refine A3 ?_ | intro _g _hg | refine A9 ?_ ?_ | intro _hc) | omega)
   exact hJ (r - 1) _ (by omega) ⟨j + 1, c + sx, _, w, _, by omega, rfl, by omega, by omega, by omega, hw, by rw [hE, if_neg hw0], by intro q hq; simp only [upd]; (repeat' split) <;> first | (exact hsame q hq) | omega, by simp (disch := omega) only [upd_ne]; exact q1⟩
 ·have hjl' : ¬ (j : Int) < p.length := by omega
  rw [List.drop_eq_nil_of_le (by omega), CU] at hcs
  rw [List.drop_eq_nil_of_le (by omega), GV] at hE
  have hE' : (GV p (i + 1)).2 = w := by rw [hE]; split <;> omega
  rw [hE']
  by_cases hB : 5000 < B
  ·rw [if_pos hB]
   have hB' : min B 5001 = 5001 := by omega
   rw [hB'] at hbd
   
   repeat' (first | (simp -implicitDefEqProofs [Gy, HE, HC, He, HF, HO, c41, -getElem?_pos, hjl', q1, AL, AT]) | (simp (disch := omega) only [AB]) | ((with_reducible refine AN 70 ?_); refine' AQ (hbd) ?_) | (with_reducible first | refine A5 ?_ ?_ ?_ | exact A7 | refine SameB.upd ?_ ?_ _ | assumption | refine A0 ?_ | refine KM.of ?_ | refine AA ?_ | refine A1 ?_ | refine A3 ?_ | intro _g _hg | refine A9 ?_ ?_ | intro _hc) | omega)
   all_goals first | omega | exact hsame | (refine BG ?_; grind)
  ·rw [if_neg hB]
   have hB' : min B 5001 = B := by omega
   have hB2 : ¬ (5000 : Int) < B := by omega
   rw [hB'] at hbd
   
   repeat' (first | (simp -implicitDefEqProofs [Gy, HE, HC, He, HF, HO, c41, -getElem?_pos, hjl', q1, hB2, AL, AT]) | (simp (disch := omega) only [AB]) | ((with_reducible refine AN 70 ?_); refine' AQ (hbd) ?_) | (with_reducible first | refine A5 ?_ ?_ ?_ | exact A7 | refine SameB.upd ?_ ?_ _ | assumption | refine A0 ?_ | refine KM.of ?_ | refine AA ?_ | refine A1 ?_ | refine A3 ?_ | intro _g _hg | refine A9 ?_ ?_ | intro _hc) | omega)
   all_goals first | omega | exact hsame | (refine BG ?_; grind)
theorem GM (s : St) (hf : Cy s) : APure Tryz.prog 15 [encS s] (aF (Dj s)) := by
 have hvis := Yt s hf 0 (by omega)
 have hlg : (EE s 0).2 = 0 → APure Tryz.prog 41 [encS s, aI 0] (.tup [aI (ED s 0).2, aI (Bk s : Nat)]) := fun h => by
  obtain ⟨h1, h2, h3⟩ := Nj s 0 h
  exact A01 s hf h1 (by omega) 0 (by omega)
 have hw := (ML s 0).1
 unfold Dj
 unfold RL at hvis
 unfold RD RB at hvis
 generalize EE s 0 = sg at *
 generalize ED s 0 = wd at *
 generalize Bk s = sz at *
 obtain ⟨k, o, m, v, p⟩ := s
 rw [AP] at *
 generalize v.map aI = va at *
 generalize Ac p = ep at *
 
 refine AD Tryz.func15 A5e rfl fun n H hH => ?_
 by_cases h0 : sg.2 = 0
 ·have hlg := hlg h0
  rw [if_neg (by simpa using h0)] at *
  rw [if_neg (by simpa using h0)] at hvis
  repeat' (first | (simp -implicitDefEqProofs [QS, Q8, c15, -getElem?_pos, splice, AL, AT]) | (simp (disch := omega) only [AB]) | ((with_reducible refine Ae 39 ?_); refine ⟨_, FW _ _, ?_⟩; rintro r n' H' hle hsup ⟨gm, rfl, hg1, rfl, rfl⟩; dsimp only at hg1 hle) | ((with_reducible refine Ae 40 ?_); (refine' CallK.sfU ?_ ((hvis _g gm _ _ (by simp (disch := omega) only [upd_ne, AK] <;> rfl) (by simp (disch := omega) only [upd_ne, AK] <;> rfl))) ?_); (focus first | (with_reducible exact A4 _) | (simp [AT, AL, A6, A4]; done))) | ((with_reducible refine AN 41 ?_); refine' AQ (hlg) ?_) | (with_reducible first | refine A5 ?_ ?_ ?_ | exact A7 | refine SameB.upd ?_ ?_ _ | assumption | refine A0 ?_ | refine KM.of ?_ | refine AA ?_ | refine A1 ?_ | refine A3 ?_ | intro _g _hg | refine A9 ?_ ?_ | intro _hc) | omega)
 ·rw [if_pos h0] at *
  rw [if_pos h0] at hvis
  repeat' (first | (simp -implicitDefEqProofs [QS, Q8, c15, -getElem?_pos, h0, splice, AL, AT]) | (simp (disch := omega) only [AB]) | ((with_reducible refine Ae 39 ?_); refine ⟨_, FW _ _, ?_⟩; rintro r n' H' hle hsup ⟨gm, rfl, hg1, rfl, rfl⟩; dsimp only at hg1 hle) | ((with_reducible refine Ae 40 ?_); (refine' CallK.sfU ?_ ((hvis _g gm _ _ (by simp (disch := omega) only [upd_ne, AK] <;> rfl) (by simp (disch := omega) only [upd_ne, AK] <;> rfl))) ?_); (focus first | (with_reducible exact A4 _) | (simp [AT, AL, A6, A4]; done))) | (with_reducible first | refine A5 ?_ ?_ ?_ | exact A7 | refine SameB.upd ?_ ?_ _ | assumption | refine A0 ?_ | refine KM.of ?_ | refine AA ?_ | refine A1 ?_ | refine A3 ?_ | intro _g _hg | refine A9 ?_ ?_ | intro _hc) | omega)
theorem WQ (k o m : Int) (v : List Int) (x : St) (hk : k = 5 ∨ k = 12) (hm : 0 ≤ m ∧ m ≤ 5000) (hb : Aa x ≤ 5000) (hx : APure Tryz.prog 36 [encS x] (aI (Aa x : Nat))) : APure Tryz.prog 36 [encS (.mk k o m v [x])] (aI (Aa (.mk k o m v [x]) : Nat)) := by
 have hxf := BK x
 have hbb : Aa (.mk k o m v [x]) = DT k m v [Aa x] := by rw [Aa]; rfl
 rw [hbb]
 generalize Aa x = b at *
 obtain ⟨m', rfl⟩ : ∃ m' : Nat, m = m' := ⟨m.toNat, by omega⟩
 rw [AP, Ac, Ac]
 generalize encS x = ex at *
 rcases hk with rfl | rfl
 ·have hz : DT 5 m' v [b] = min m' b := by simp [DT]
  rw [hz]
  
  refine AD Tryz.func36 Qp rfl fun n H hH => ?_
  repeat' (first | (simp -implicitDefEqProofs [E5, E7, EC, EB, Dx, E9, Dy, Dw, Dt, c36, -getElem?_pos, hxf, -AV.fits, AL, AT]) | (simp (disch := omega) only [AB]) | ((with_reducible refine AN 36 ?_); (refine' CallP.sf ?_ (hx) ?_); (focus first | (with_reducible exact A4 _) | (simp [AT, AL, A6, A4]; done))) | (with_reducible first | refine A5 ?_ ?_ ?_ | exact A7 | refine SameB.upd ?_ ?_ _ | assumption | refine A0 ?_ | refine KM.of ?_ | refine AA ?_ | refine A1 ?_ | refine A3 ?_ | intro _g _hg | refine A9 ?_ ?_ | intro _hc) | omega)
  all_goals first | omega | (refine BG ?_; grind)
 ·have hz : DT 12 m' v [b] = m' * b := by simp [DT]
  rw [hz]
  have hmb : m' * b ≤ 5000 * 5001 := Nat.mul_le_mul (by omega) (by omega)
  have hmc : ((m' * b : Nat) : Int) = (m' : Int) * b := Int.natCast_mul _ _
  have hw : IntKind.i64.wrap ((m' : Int) * b) = ((m' * b : Nat) : Int) := by rw [← hmc, IntWalk.i64_in _ (by omega)]
  
  refine AD Tryz.func36 Qp rfl fun n H hH => ?_
  repeat' (first | (simp -implicitDefEqProofs [E5, E7, EC, EB, Dx, E9, Dy, Dw, Dt, c36, -getElem?_pos, hxf, hw, -AV.fits, AL, AT]) | (simp (disch := omega) only [AB]) | ((with_reducible refine AN 36 ?_); (refine' CallP.sf ?_ (hx) ?_); (focus first | (with_reducible exact A4 _) | (simp [AT, AL, A6, A4]; done))) | (with_reducible first | refine A5 ?_ ?_ ?_ | exact A7 | refine SameB.upd ?_ ?_ _ | assumption | refine A0 ?_ | refine KM.of ?_ | refine AA ?_ | refine A1 ?_ | refine A3 ?_ | intro _g _hg | refine A9 ?_ ?_ | intro _hc) | omega)
  all_goals first | omega | (refine BG ?_; grind)
theorem Vd (o m : Int) (v : List Int) (x y : St) (hx : APure Tryz.prog 36 [encS x] (aI (Aa x : Nat))) (hy : APure Tryz.prog 36 [encS y] (aI (Aa y : Nat))) : APure Tryz.prog 36 [encS (.mk 15 o m v [x, y])] (aI (Aa (.mk 15 o m v [x, y]) : Nat)) := by
 have hxf := BK x
 have hyf := BK y
 have hbb : Aa (.mk 15 o m v [x, y]) = min (Aa x) (Aa y) := by simp [Aa, OI, DT]
 rw [hbb]
 generalize Aa x = b at *
 generalize Aa y = c at *
 rw [AP, Ac, Ac, Ac]
 generalize encS x = ex at *
 generalize encS y = ey at *
 
 refine AD Tryz.func36 Qp rfl fun n H hH => ?_
 repeat' (first | (simp -implicitDefEqProofs [E5, E7, EC, EB, Dx, E9, Dy, Dw, Dt, c36, -getElem?_pos, hxf, hyf, -AV.fits, AL, AT]) | (simp (disch := omega) only [AB]) | ((with_reducible refine AN 36 ?_); (refine' CallP.sf ?_ (hx) ?_); (focus first | (with_reducible exact A4 _) | (simp [AT, AL, A6, A4]; done))) | ((with_reducible refine AN 36 ?_); (refine' CallP.sf ?_ (hy) ?_); (focus first | (with_reducible exact A4 _) | (simp [AT, AL, A6, A4]; done))) | (with_reducible first | refine A5 ?_ ?_ ?_ | exact A7 | refine SameB.upd ?_ ?_ _ | assumption | refine A0 ?_ | refine KM.of ?_ | refine AA ?_ | refine A1 ?_ | refine A3 ?_ | intro _g _hg | refine A9 ?_ ?_ | intro _hc) | omega)
 all_goals first | omega | (refine BG ?_; grind)
theorem Vm (k o m : Int) (v : List Int) (p : List St) (h1 : k ≠ 1) (h2 : k ≠ 2) (h5 : k ≠ 5) (h12 : k ≠ 12) (h15 : k ≠ 15) (hp : p.length ≤ 60) (hbs : ∀ x ∈ p, Aa x ≤ 5000) (hx : ∀ x ∈ p, APure Tryz.prog 36 [encS x] (aI (Aa x : Nat))) : APure Tryz.prog 36 [encS (.mk k o m v p)] (aI (Aa (.mk k o m v p) : Nat)) := by
 have hb : Aa (.mk k o m v p) = (p.map Aa).sum := by
  rw [Aa, HZ]
  simp [DT, h1, h2, h5, h12, h15]
 have hcl : ∀ i, ((p.map Aa).take i).sum ≤ 300000 := by
  intro i
  have g : ∀ l : List Nat, (∀ x ∈ l, x ≤ 5000) → l.sum ≤ l.length * 5000 := by
   intro l hl
   induction l with
   | nil => simp
   | cons a r ih =>
    have h1 := hl a (by simp)
    have h2 := ih fun x hx => hl x (by simp [hx])
    simp only [List.sum_cons, List.length_cons, Nat.succ_mul]
    omega
  have h1 := g ((p.map Aa).take i) (by
   intro x hx
   obtain ⟨s, hs, rfl⟩ := List.mem_map.1 (List.mem_of_mem_take hx)
   exact hbs s hs)
  have h2 : ((p.map Aa).take i).length ≤ 60 := by simp; omega
  omega
 have hpl := BJ p
 rw [hb]
 rw [AP]
 
 refine AD Tryz.func36 Qp rfl fun n H hH => ?_
 repeat' (first | (simp -implicitDefEqProofs [c36, E5, E7, EC, EB, Dx, E9, Dy, Dw, Dt, c36, -getElem?_pos, h1, h2, h5, h12, h15]) | (simp (disch := omega) only [AB]) | (with_reducible first | refine A5 ?_ ?_ ?_ | exact A7 | refine SameB.upd ?_ ?_ _ | assumption | refine A0 ?_ | refine KM.of ?_ | refine AA ?_ | refine A1 ?_ | refine A3 ?_ | intro _g _hg | refine A9 ?_ ?_ | intro _hc) | omega)
 refine LoopK.go (fun r st => ∃ (j n1 : Nat) (H1 : A2), j + r = p.length ∧ st = ⟨[(3, aI (((p.map Aa).take j).sum : Nat)), (70, .sl 5 (Ac p) .ro), (71, aI p.length), (72, aI j)], n1, H1⟩ ∧ n ≤ n1 ∧ SameB n H H1) p.length ⟨0, _, _, by omega, by simp [hpl]; exact ⟨rfl, rfl⟩, by omega, by intro q hq; simp only [upd]; (repeat' split) <;> first | rfl | omega⟩ ?_
 rintro r st ⟨j, n1, H1, hj, rfl, hn1, hsame⟩ J hJ
 by_cases hjl : j < p.length
 ·obtain ⟨x, hx'⟩ : ∃ x, p[j]? = some x := ⟨_, List.getElem?_eq_getElem hjl⟩
  have hb := hx x (List.mem_of_getElem? hx')
  have hbx := hbs x (List.mem_of_getElem? hx')
  have hxe := EN hx'
  have hxf := BK x
  have hjl' : (j : Int) < p.length := by omega
  have hs := P9 (l := p.map Aa) (i := j) (x := Aa x) (by rw [List.getElem?_map, hx']; rfl)
  have hc1 := hcl j
  generalize ((p.map Aa).take j).sum = a at *
  generalize Aa x = b at *
  obtain ⟨k', o', m', v', p'⟩ := x
  rw [AP] at hb hxe hxf
  generalize Ac p = ep at *
  generalize Ac p' = ep' at *
  generalize v'.map aI = ev' at *
  
  repeat' (first | (simp -implicitDefEqProofs [E5, E7, EC, EB, Dx, E9, Dy, Dw, Dt, c36, -getElem?_pos, hjl', hxe, splice]) | (simp (disch := omega) only [AB]) | ((with_reducible refine AN 36 ?_); (refine' CallP.sf ?_ (hb) ?_); (focus first | (with_reducible exact A4 _) | (simp [AT, AL, A6, A4]; done))) | (with_reducible first | refine A5 ?_ ?_ ?_ | exact A7 | refine SameB.upd ?_ ?_ _ | assumption | refine A0 ?_ | refine KM.of ?_ | refine AA ?_ | refine A1 ?_ | refine A3 ?_ | intro _g _hg | refine A9 ?_ ?_ | intro _hc) | omega)
  exact hJ (r - 1) _ (by omega) ⟨j + 1, _, _, by omega, by rw [hs]; rfl, by omega, by intro q hq; simp only [upd]; (repeat' split) <;> first | (exact hsame q hq) | omega⟩
 ·have hjl' : ¬ (j : Int) < p.length := by omega
  have e : (p.map Aa).take j = p.map Aa := List.take_of_length_le (by simp; omega)
  rw [e]
  generalize (p.map Aa).sum = a at *
  
  repeat' (first | (simp -implicitDefEqProofs [E5, E7, EC, EB, Dx, E9, Dy, Dw, Dt, c36, -getElem?_pos, hjl', AL, AT]) | (simp (disch := omega) only [AB]) | (with_reducible first | refine A5 ?_ ?_ ?_ | exact A7 | refine SameB.upd ?_ ?_ _ | assumption | refine A0 ?_ | refine KM.of ?_ | refine AA ?_ | refine A1 ?_ | refine A3 ?_ | intro _g _hg | refine A9 ?_ ?_ | intro _hc) | omega)
  all_goals first | omega | exact hsame | (refine BG ?_; grind)
theorem ZA (s : St) : Cy s → Nz s → Rk s → Bk s ≤ 60 → APure Tryz.prog 36 [encS s] (aI (Aa s : Nat)) := by
 refine St.ind (Q := fun s => Cy s → Nz s → Rk s → Bk s ≤ 60 → APure Tryz.prog 36 [encS s] (aI (Aa s : Nat))) ?_ s
 intro k o m v p ih hf hok hsm hsz
 obtain ⟨hv, hp, hpp⟩ := hf
 obtain ⟨hn, hop⟩ := hok
 have hN := Fa hn
 simp only [Bk] at hsz
 have hpl := EM p
 have hbs : ∀ x ∈ p, Aa x ≤ 5000 := fun x hx => by have := IY hsm.2 x hx; cases x; exact this.1
 have hx : ∀ x ∈ p, APure Tryz.prog 36 [encS x] (aI (Aa x : Nat)) := fun x hx => ih x hx (Cw hpp x hx) (FQ hop x hx) (IY hsm.2 x hx) (by have := EG x hx; omega)
 by_cases h1 : k = 1
 ·subst h1
  rw [Aa]; exact Ov o m v p hv
 by_cases h2 : k = 2
 ·subst h2
  rw [Aa]; exact Q2 o m v p (hN.rng rfl) hN.vals
 by_cases h5 : k = 5 ∨ k = 12
 ·obtain ⟨x, rfl⟩ := List.length_eq_one_iff.1 (hN.one (by omega) (by omega) (by omega) (by omega) (by omega) (by omega))
  refine WQ k o m v x h5 ?_ (hbs x (by simp)) (hx x (by simp))
  have hm := hN.num (by rcases h5 with rfl | rfl <;> rfl)
  rcases h5 with rfl | rfl <;> simp [OR, OM, Cz] at hm <;> omega
 by_cases h15 : k = 15
 ·subst h15
  have h2 := hN.two (.inl rfl)
  match p, h2 with
  | [x, y], _ => exact Vd o m v x y (hx x (by simp)) (hx y (by simp))
 exact Vm k o m v p h1 h2 (fun e => h5 (.inl e)) (fun e => h5 (.inr e)) h15 (by omega) hbs hx
abbrev G9 (s : St) : Prop := APure Tryz.prog 17 [encS s] (aI (min (Aa s) 100000 : Nat))
theorem Va (o m : Int) (v : List Int) (p : List St) (hv : v.length ≤ 140737488355328) : G9 (.mk 1 o m v p) := by
 unfold G9
 have hb : Aa (.mk 1 o m v p) = v.length := by simp [Aa, DT]
 rw [hb]
 have hvl : (v.map aI).length = v.length := by simp
 rw [AP]
 generalize v.map aI = va at *
 by_cases h : 100000 < v.length
 ·have h' : (100000 : Int) < v.length := by omega
  have e : min v.length 100000 = 100000 := by omega
  rw [e]
  
  refine AD Tryz.func17 QT rfl fun n H hH => ?_
  repeat' (first | (simp -implicitDefEqProofs [BL, Ba, BR, BX, BM, BP, BU, BO, BN, B9, B8, B6, B5, B0, BA, c17, -getElem?_pos, hvl, h, h', AL, AT]) | (simp (disch := omega) only [AB]) | (with_reducible first | refine A5 ?_ ?_ ?_ | exact A7 | refine SameB.upd ?_ ?_ _ | assumption | refine A0 ?_ | refine KM.of ?_ | refine AA ?_ | refine A1 ?_ | refine A3 ?_ | intro _g _hg | refine A9 ?_ ?_ | intro _hc) | omega)
 ·have h' : ¬ (100000 : Int) < v.length := by omega
  have e : min v.length 100000 = v.length := by omega
  rw [e]
  
  refine AD Tryz.func17 QT rfl fun n H hH => ?_
  repeat' (first | (simp -implicitDefEqProofs [BL, Ba, BR, BX, BM, BP, BU, BO, BN, B9, B8, B6, B5, B0, BA, c17, -getElem?_pos, hvl, h, h', AL, AT]) | (simp (disch := omega) only [AB]) | (with_reducible first | refine A5 ?_ ?_ ?_ | exact A7 | refine SameB.upd ?_ ?_ _ | assumption | refine A0 ?_ | refine KM.of ?_ | refine AA ?_ | refine A1 ?_ | refine A3 ?_ | intro _g _hg | refine A9 ?_ ?_ | intro _hc) | omega)
theorem YE (o m a b c : Int) (p : List St) (hv : 0 ≤ a ∧ a ≤ 9999 ∧ 0 ≤ b ∧ b ≤ 10000 ∧ 1 ≤ c ∧ c ≤ 9999) : G9 (.mk 2 o m [a, b, c] p) := by
 unfold G9
 have hb : Aa (.mk 2 o m [a, b, c] p) = HU [a, b, c] := by simp [Aa, DT]
 have hbd := Rh hv
 rw [hb]
 have e : min (HU [a, b, c]) 100000 = HU [a, b, c] := by omega
 rw [e]
 rw [AP]
 generalize Ac p = ep
 
 refine AD Tryz.func17 QT rfl fun n H hH => ?_
 repeat' (first | (simp -implicitDefEqProofs [c17, BL, Ba, BR, BX, BM, BP, BU, BO, BN, B9, B8, B6, B5, B0, BA, c17, -getElem?_pos]) | (simp (disch := omega) only [AB]) | (with_reducible first | refine A5 ?_ ?_ ?_ | exact A7 | refine SameB.upd ?_ ?_ _ | assumption | refine A0 ?_ | refine KM.of ?_ | refine AA ?_ | refine A1 ?_ | refine A3 ?_ | intro _g _hg | refine A9 ?_ ?_ | intro _hc) | omega)
 refine LoopK.go (fun r st => ∃ (j n1 : Nat) (H1 : A2), j + r = HU [a, b, c] ∧ st = ⟨[(1, .ptr _g 0), (3, aI j), (4, aI (a + (j : Int) * c))], n1, H1⟩ ∧ _g < n1 ∧ SameB n H H1 ∧ H1 _g = some (AY 2 o m (.sl 1 [aI a, aI b, aI c] .ro) (.sl 5 ep .ro))) (HU [a, b, c]) ⟨0, _, _, by omega, by simp; exact ⟨rfl, rfl⟩, by omega, by intro q hq; simp only [upd]; (repeat' split) <;> first | rfl | omega, AK _ _ _⟩ ?_
 rintro r st ⟨j, n1, H1, hj, rfl, hn1, hsame, q1⟩ J hJ
 by_cases hjl : j < HU [a, b, c]
 ·have hlt := (RR (a := a) (b := b) hv.2.2.2.2.1 j).2 hjl
  have hw : IntKind.i64.wrap (a + (j : Int) * c + c) = a + ((j + 1 : Nat) : Int) * c := by
   have h0 : 0 ≤ (j : Int) * c := Int.mul_nonneg (by omega) (by omega)
   have e : ((j + 1 : Nat) : Int) * c = (j : Int) * c + c := by rw [Int.natCast_add, Int.add_mul]; simp
   rw [IntWalk.i64_in _ (by omega), e]; omega
  have hw2 : IntKind.i64.wrap ((j : Int) + 1) = ((j + 1 : Nat) : Int) := by rw [IntWalk.i64_in _ (by omega)]; omega
  generalize hx1 : a + ((j + 1 : Nat) : Int) * c = x1 at *
  generalize a + (j : Int) * c = x at *
  generalize hj1 : ((j + 1 : Nat) : Int) = j1 at *
  
  repeat' (first | (simp -implicitDefEqProofs [BL, Ba, BR, BX, BM, BP, BU, BO, BN, B9, B8, B6, B5, B0, BA, c17, -getElem?_pos, q1, hlt, hw, hw2, splice]) | (simp (disch := omega) only [AB]) | (with_reducible first | refine A5 ?_ ?_ ?_ | exact A7 | refine SameB.upd ?_ ?_ _ | assumption | refine A0 ?_ | refine KM.of ?_ | refine AA ?_ | refine A1 ?_ | refine A3 ?_ | intro _g _hg | refine A9 ?_ ?_ | intro _hc) | omega)
  exact hJ (r - 1) _ (by omega) ⟨j + 1, _, _, by omega, by rw [hj1, hx1], hn1, hsame, q1⟩
 ·have hlt : ¬ a + (j : Int) * c < b := fun h => hjl ((RR hv.2.2.2.2.1 j).1 h)
  have ej : j = HU [a, b, c] := by omega
  have hfar : ¬ (100000 : Int) < j := by omega
  rw [← ej]
  generalize a + (j : Int) * c = x at *
  
  repeat' (first | (simp -implicitDefEqProofs [BL, Ba, BR, BX, BM, BP, BU, BO, BN, B9, B8, B6, B5, B0, BA, c17, -getElem?_pos, q1, hlt, hfar, AL, AT]) | (simp (disch := omega) only [AB]) | (with_reducible first | refine A5 ?_ ?_ ?_ | exact A7 | refine SameB.upd ?_ ?_ _ | assumption | refine A0 ?_ | refine KM.of ?_ | refine AA ?_ | refine A1 ?_ | refine A3 ?_ | intro _g _hg | refine A9 ?_ ?_ | intro _hc) | omega)
  all_goals first | exact hsame | omega
theorem Y4 (o m : Int) (v : List Int) (x y : St) (hx : G9 x) (hy : G9 y) : G9 (.mk 15 o m v [x, y]) := by
 unfold G9 at *
 have hxf := BK x
 have hyf := BK y
 have hb : min (Aa (.mk 15 o m v [x, y])) 100000 = min (min (Aa x) 100000) (min (Aa y) 100000) := by
  simp [Aa, OI, DT]; omega
 rw [hb]
 obtain ⟨b, hb'⟩ : ∃ b, min (Aa x) 100000 = b := ⟨_, rfl⟩
 obtain ⟨c, hc'⟩ : ∃ c, min (Aa y) 100000 = c := ⟨_, rfl⟩
 have hb5 : b ≤ 100000 := by omega
 have hc5 : c ≤ 100000 := by omega
 rw [hb'] at hx ⊢
 rw [hc'] at hy ⊢
 rw [AP, Ac, Ac, Ac]
 generalize encS x = ex at *
 generalize encS y = ey at *
 by_cases h : c < b
 ·have h' : (c : Int) < b := by omega
  have e : min b c = c := by omega
  have hf : ¬ (100000 : Int) < c := by omega
  rw [e]
  
  refine AD Tryz.func17 QT rfl fun n H hH => ?_
  repeat' (first | (simp -implicitDefEqProofs [BL, Ba, BR, BX, BM, BP, BU, BO, BN, B9, B8, B6, B5, B0, BA, c17, -getElem?_pos, hxf, hyf, h, h', hf, -AV.fits, AL, AT]) | (simp (disch := omega) only [AB]) | ((with_reducible refine AN 17 ?_); (refine' CallP.sf ?_ (hx) ?_); (focus first | (with_reducible exact A4 _) | (simp [AT, AL, A6, A4]; done))) | ((with_reducible refine AN 17 ?_); (refine' CallP.sf ?_ (hy) ?_); (focus first | (with_reducible exact A4 _) | (simp [AT, AL, A6, A4]; done))) | (with_reducible first | refine A5 ?_ ?_ ?_ | exact A7 | refine SameB.upd ?_ ?_ _ | assumption | refine A0 ?_ | refine KM.of ?_ | refine AA ?_ | refine A1 ?_ | refine A3 ?_ | intro _g _hg | refine A9 ?_ ?_ | intro _hc) | omega)
  all_goals omega
 ·have h' : ¬ (c : Int) < b := by omega
  have e : min b c = b := by omega
  have hf : ¬ (100000 : Int) < b := by omega
  rw [e]
  
  refine AD Tryz.func17 QT rfl fun n H hH => ?_
  repeat' (first | (simp -implicitDefEqProofs [BL, Ba, BR, BX, BM, BP, BU, BO, BN, B9, B8, B6, B5, B0, BA, c17, -getElem?_pos, hxf, hyf, h, h', hf, -AV.fits, AL, AT]) | (simp (disch := omega) only [AB]) | ((with_reducible refine AN 17 ?_); (refine' CallP.sf ?_ (hx) ?_); (focus first | (with_reducible exact A4 _) | (simp [AT, AL, A6, A4]; done))) | ((with_reducible refine AN 17 ?_); (refine' CallP.sf ?_ (hy) ?_); (focus first | (with_reducible exact A4 _) | (simp [AT, AL, A6, A4]; done))) | (with_reducible first | refine A5 ?_ ?_ ?_ | exact A7 | refine SameB.upd ?_ ?_ _ | assumption | refine A0 ?_ | refine KM.of ?_ | refine AA ?_ | refine A1 ?_ | refine A3 ?_ | intro _g _hg | refine A9 ?_ ?_ | intro _hc) | omega)
  all_goals omega
theorem Ye {k o m : Int} {v : List Int} {p : List St} (h1 : k ≠ 1) (h2 : k ≠ 2) (h15 : k ≠ 15) (hl : k = 5 ∨ k = 12 → p.length = 1) : min (Aa (.mk k o m v p)) 100000 = min (if k = 12 then m.toNat * (p.map fun s => min (Aa s) 100000).sum else if k = 5 then min m.toNat (p.map fun s => min (Aa s) 100000).sum else (p.map fun s => min (Aa s) 100000).sum) 100000 := by
 rw [Aa, P3, HZ, List.map_map]
 have e : ((min · 100000) ∘ Aa : St → Nat) = fun s => min (Aa s) 100000 := rfl
 rw [e]
 by_cases h12 : k = 12
 ·subst h12
  obtain ⟨x, rfl⟩ := List.length_eq_one_iff.1 (hl (.inr rfl))
  simp [DT]
 ·by_cases h5 : k = 5
  ·subst h5
   obtain ⟨x, rfl⟩ := List.length_eq_one_iff.1 (hl (.inl rfl))
   simp [DT]
  ·simp [DT, h1, h2, h5, h12, h15]
theorem X5 (k o m : Int) (v : List Int) (p : List St) (h1 : k ≠ 1) (h2 : k ≠ 2) (h15 : k ≠ 15) (hl : k = 5 ∨ k = 12 → p.length = 1) (hm : k = 5 ∨ k = 12 → 0 ≤ m ∧ m ≤ 5000) (hm12 : k = 12 → m ≤ 20) (hp : p.length ≤ 60) (hx : ∀ x ∈ p, G9 x) : G9 (.mk k o m v p) := by
 unfold G9 at *
 rw [Ye h1 h2 h15 hl]
 have hcl := Ud 100000 p hp
 have hpl := BJ p
 rw [AP]
 
 refine AD Tryz.func17 QT rfl fun n H hH => ?_
 repeat' (first | (simp -implicitDefEqProofs [c17, BL, Ba, BR, BX, BM, BP, BU, BO, BN, B9, B8, B6, B5, B0, BA, c17, -getElem?_pos, h1, h2, h15]) | (simp (disch := omega) only [AB]) | (with_reducible first | refine A5 ?_ ?_ ?_ | exact A7 | refine SameB.upd ?_ ?_ _ | assumption | refine A0 ?_ | refine KM.of ?_ | refine AA ?_ | refine A1 ?_ | refine A3 ?_ | intro _g _hg | refine A9 ?_ ?_ | intro _hc) | omega)
 refine LoopK.go (fun r st => ∃ (j n1 : Nat) (H1 : A2), j + r = p.length ∧ st = ⟨[(1, .ptr _g 0), (3, aI (((p.map fun s => min (Aa s) 100000).take j).sum : Nat)), (6, aI j)], n1, H1⟩ ∧ _g < n1 ∧ SameB n H H1 ∧ H1 _g = some (AY k o m (.sl 1 (v.map aI) .ro) (.sl 5 (Ac p) .ro))) p.length ⟨0, _, _, by omega, by simp; exact ⟨rfl, rfl⟩, by omega, by intro q hq; simp only [upd]; (repeat' split) <;> first | rfl | omega, AK _ _ _⟩ ?_
 rintro r st ⟨j, n1, H1, hj, rfl, hn1, hsame, q1⟩ J hJ
 by_cases hjl : j < p.length
 ·obtain ⟨x, hx'⟩ : ∃ x, p[j]? = some x := ⟨_, List.getElem?_eq_getElem hjl⟩
  have hb := hx x (List.mem_of_getElem? hx')
  have hxe := EN hx'
  have hxf := BK x
  have hjl' : (j : Int) < p.length := by omega
  have hs := P9 (l := p.map fun s => min (Aa s) 100000) (i := j) (x := min (Aa x) 100000) (by rw [List.getElem?_map, hx']; rfl)
  have hc1 := hcl j
  generalize ((p.map fun s => min (Aa s) 100000).take j).sum = a at *
  obtain ⟨b, hb'⟩ : ∃ b, min (Aa x) 100000 = b := ⟨_, rfl⟩
  have hb5 : b ≤ 100000 := by omega
  rw [hb'] at hb hs
  obtain ⟨k', o', m', v', p'⟩ := x
  rw [AP] at hb hxe hxf
  generalize Ac p = ep at *
  generalize Ac p' = ep' at *
  generalize v'.map aI = ev' at *
  
  repeat' (first | (simp -implicitDefEqProofs [BL, Ba, BR, BX, BM, BP, BU, BO, BN, B9, B8, B6, B5, B0, BA, c17, -getElem?_pos, q1, hpl, hjl', hxe, splice]) | (simp (disch := omega) only [AB]) | ((with_reducible refine AN 17 ?_); refine' AQ (hb) ?_) | (with_reducible first | refine A5 ?_ ?_ ?_ | exact A7 | refine SameB.upd ?_ ?_ _ | assumption | refine A0 ?_ | refine KM.of ?_ | refine AA ?_ | refine A1 ?_ | refine A3 ?_ | intro _g _hg | refine A9 ?_ ?_ | intro _hc) | omega)
  exact hJ (r - 1) _ (by omega) ⟨j + 1, _, _, by omega, by rw [hs]; rfl, hn1, hsame, q1⟩
 ·have hjl' : ¬ (j : Int) < p.length := by omega
  have hc1 := hcl j
  have e : (p.map fun s => min (Aa s) 100000).take j = p.map fun s => min (Aa s) 100000 := List.take_of_length_le (by simp; omega)
  rw [e] at hc1 ⊢
  generalize (p.map fun s => min (Aa s) 100000).sum = a at *
  generalize Ac p = ep at *
  by_cases h12 : k = 12
  ·subst h12
   have hm0 := hm (.inr rfl)
   have hm20 := hm12 rfl
   obtain ⟨m', rfl⟩ : ∃ m' : Nat, m = m' := ⟨m.toNat, by omega⟩
   have hma : m' * a ≤ 20 * (60 * 100000) := Nat.mul_le_mul (by omega) hc1
   have hmc : (a : Int) * (m' : Int) = ((m' * a : Nat) : Int) := by rw [Int.natCast_mul, Int.mul_comm]
   have hw : IntKind.i64.wrap ((a : Int) * (m' : Int)) = ((m' * a : Nat) : Int) := by rw [hmc, IntWalk.i64_in _ (by omega)]
   rw [if_pos rfl, Int.toNat_natCast]
   generalize m' * a = z at *
   by_cases hf : 100000 < z
   ·have hf' : (100000 : Int) < z := by omega
    have ez : min z 100000 = 100000 := by omega
    rw [ez]
    
    repeat' (first | (simp -implicitDefEqProofs [BL, Ba, BR, BX, BM, BP, BU, BO, BN, B9, B8, B6, B5, B0, BA, c17, -getElem?_pos, q1, hpl, hjl', hw, hf, hf', AL, AT]) | (simp (disch := omega) only [AB]) | (with_reducible first | refine A5 ?_ ?_ ?_ | exact A7 | refine SameB.upd ?_ ?_ _ | assumption | refine A0 ?_ | refine KM.of ?_ | refine AA ?_ | refine A1 ?_ | refine A3 ?_ | intro _g _hg | refine A9 ?_ ?_ | intro _hc) | omega)
    all_goals first | omega | exact hsame | (refine BG ?_; grind)
   ·have hf' : ¬ (100000 : Int) < z := by omega
    have ez : min z 100000 = z := by omega
    rw [ez]
    
    repeat' (first | (simp -implicitDefEqProofs [BL, Ba, BR, BX, BM, BP, BU, BO, BN, B9, B8, B6, B5, B0, BA, c17, -getElem?_pos, q1, hpl, hjl', hw, hf, hf', AL, AT]) | (simp (disch := omega) only [AB]) | (with_reducible first | refine A5 ?_ ?_ ?_ | exact A7 | refine SameB.upd ?_ ?_ _ | assumption | refine A0 ?_ | refine KM.of ?_ | refine AA ?_ | refine A1 ?_ | refine A3 ?_ | intro _g _hg | refine A9 ?_ ?_ | intro _hc) | omega)
    all_goals first | omega | exact hsame | (refine BG ?_; grind)
  ·rw [if_neg h12]
   by_cases h5 : k = 5
   ·subst h5
    have hm0 := hm (.inl rfl)
    obtain ⟨m', rfl⟩ : ∃ m' : Nat, m = m' := ⟨m.toNat, by omega⟩
    rw [if_pos rfl, Int.toNat_natCast]
    by_cases hf : m' < a
    ·have hf' : (m' : Int) < a := by omega
     have hf2 : ¬ (100000 : Int) < m' := by omega
     have ez : min (min m' a) 100000 = m' := by omega
     rw [ez]
     
     repeat' (first | (simp -implicitDefEqProofs [BL, Ba, BR, BX, BM, BP, BU, BO, BN, B9, B8, B6, B5, B0, BA, c17, -getElem?_pos, q1, hpl, hjl', hf, hf', hf2, AL, AT]) | (simp (disch := omega) only [AB]) | (with_reducible first | refine A5 ?_ ?_ ?_ | exact A7 | refine SameB.upd ?_ ?_ _ | assumption | refine A0 ?_ | refine KM.of ?_ | refine AA ?_ | refine A1 ?_ | refine A3 ?_ | intro _g _hg | refine A9 ?_ ?_ | intro _hc) | omega)
     all_goals first | omega | exact hsame | (refine BG ?_; grind)
    ·have hf' : ¬ (m' : Int) < a := by omega
     have hf2 : ¬ (100000 : Int) < a := by omega
     have ez : min (min m' a) 100000 = a := by omega
     rw [ez]
     
     repeat' (first | (simp -implicitDefEqProofs [BL, Ba, BR, BX, BM, BP, BU, BO, BN, B9, B8, B6, B5, B0, BA, c17, -getElem?_pos, q1, hpl, hjl', hf, hf', hf2, AL, AT]) | (simp (disch := omega) only [AB]) | (with_reducible first | refine A5 ?_ ?_ ?_ | exact A7 | refine SameB.upd ?_ ?_ _ | assumption | refine A0 ?_ | refine KM.of ?_ | refine AA ?_ | refine A1 ?_ | refine A3 ?_ | intro _g _hg | refine A9 ?_ ?_ | intro _hc) | omega)
     all_goals first | omega | exact hsame | (refine BG ?_; grind)
   ·rw [if_neg h5]
    by_cases hf : 100000 < a
    ·have hf' : (100000 : Int) < a := by omega
     have ez : min a 100000 = 100000 := by omega
     rw [ez]
     
     repeat' (first | (simp -implicitDefEqProofs [BL, Ba, BR, BX, BM, BP, BU, BO, BN, B9, B8, B6, B5, B0, BA, c17, -getElem?_pos, q1, hpl, hjl', h12, h5, hf, hf', AL, AT]) | (simp (disch := omega) only [AB]) | (with_reducible first | refine A5 ?_ ?_ ?_ | exact A7 | refine SameB.upd ?_ ?_ _ | assumption | refine A0 ?_ | refine KM.of ?_ | refine AA ?_ | refine A1 ?_ | refine A3 ?_ | intro _g _hg | refine A9 ?_ ?_ | intro _hc) | omega)
     all_goals first | omega | exact hsame | (refine BG ?_; grind)
    ·have hf' : ¬ (100000 : Int) < a := by omega
     have ez : min a 100000 = a := by omega
     rw [ez]
     
     repeat' (first | (simp -implicitDefEqProofs [BL, Ba, BR, BX, BM, BP, BU, BO, BN, B9, B8, B6, B5, B0, BA, c17, -getElem?_pos, q1, hpl, hjl', h12, h5, hf, hf', AL, AT]) | (simp (disch := omega) only [AB]) | (with_reducible first | refine A5 ?_ ?_ ?_ | exact A7 | refine SameB.upd ?_ ?_ _ | assumption | refine A0 ?_ | refine KM.of ?_ | refine AA ?_ | refine A1 ?_ | refine A3 ?_ | intro _g _hg | refine A9 ?_ ?_ | intro _hc) | omega)
     all_goals first | omega | exact hsame | (refine BG ?_; grind)
theorem A3n (s : St) : Cy s → Nz s → Bk s ≤ 60 → G9 s := by
 refine St.ind (Q := fun s => Cy s → Nz s → Bk s ≤ 60 → G9 s) ?_ s
 intro k o m v p ih hf hok hsz
 obtain ⟨hv, hp, hpp⟩ := hf
 obtain ⟨hn, hop⟩ := hok
 have hN := Fa hn
 simp only [Bk] at hsz
 have hpl := EM p
 have hx : ∀ x ∈ p, G9 x := fun x hx => ih x hx (Cw hpp x hx) (FQ hop x hx) (by have := EG x hx; omega)
 by_cases h1 : k = 1
 ·subst h1; exact Va o m v p hv
 by_cases h2 : k = 2
 ·subst h2
  obtain ⟨a, b, c, rfl, h⟩ := Jf (hN.rng rfl) hN.vals
  exact YE o m a b c p (by omega)
 by_cases h15 : k = 15
 ·subst h15
  match p, hN.two (.inl rfl) with
  | [x, y], _ => exact Y4 o m v x y (hx x (by simp)) (hx y (by simp))
 have hm : k = 5 ∨ k = 12 → 0 ≤ m ∧ m ≤ 5000 := fun h => by
  have hm := hN.num (by rcases h with rfl | rfl <;> rfl)
  rcases h with rfl | rfl <;> simp [OR, OM, Cz] at hm <;> omega
 exact X5 k o m v p h1 h2 h15 (fun h => hN.one (by omega) (by omega) (by omega) (by omega) (by omega) (by omega)) hm (fun h => by have hm := hN.num (by subst h; rfl); subst h; simp [OR, OM, Cz] at hm; omega) (by omega) hx
abbrev V4 (s : St) : Prop := ∀ i : Nat, i + Bk s ≤ 100 → APure Tryz.prog 38 [encS s, aI i] (.tup [aI ((ED s i).1 : Nat), aI (ED s i).2])
theorem Ql {k o m : Int} {v : List Int} {p : List St} {i n g n1 : Nat} {H H1 : A2} {w0 nx fd : Int} (h60 : p.length ≤ 60) (hx : ∀ x ∈ p, V4 x) (hi : i + 1 + CU p ≤ 100) (hw0 : -1 ≤ w0) (hnx : nx = ((i + 1 + CU p : Nat) : Int)) (hfd : fd = if w0 < 0 then (GV p (i + 1)).2 else w0) (hn : n ≤ g) (hg : g < n1) (hs : SameB n H H1) (q : H1 g = some (AY k o m (.sl 1 (v.map aI) .ro) (.sl 5 (Ac p) .ro))) :
  LoopK (fun Q s => aw Tryz.prog c38_L5 Q s) (Dk 0 (EF (aw Tryz.prog c38_k1 (OG (.tup [aI nx, aI fd]) n H [.tmp 4, .tmp 5])) (OG (.tup [aI nx, aI fd]) n H [.tmp 4, .tmp 5]))) ⟨[(2, .ptr g 0), (6, aI w0), (7, aI ((i : Int) + 1)), (8, aI 0)], n1, H1⟩ := by
 have hpl := BJ p
 refine LoopK.go (fun r st => ∃ (j c n2 : Nat) (w : Int) (H2 : A2), j + r = p.length ∧ st = ⟨[(2, .ptr g 0), (6, aI w), (7, aI c), (8, aI j)], n2, H2⟩ ∧ g < n2 ∧ -1 ≤ w ∧ c + CU (p.drop j) = i + 1 + CU p ∧ (if w < 0 then (GV (p.drop j) c).2 else w) = fd ∧ SameB n H H2 ∧ H2 g = some (AY k o m (.sl 1 (v.map aI) .ro) (.sl 5 (Ac p) .ro))) p.length ⟨0, i + 1, n1, w0, H1, by omega, by simp, hg, hw0, by simp, by rw [hfd]; rfl, hs, q⟩ ?_
 rintro r st ⟨j, c, n2, w, H2, hj, rfl, hn2, hw, hcs, hE, hsame, q1⟩ J hJ
 by_cases hjl : j < p.length
 ·obtain ⟨x, hx'⟩ : ∃ x, p[j]? = some x := ⟨_, List.getElem?_eq_getElem hjl⟩
  have hxm := List.mem_of_getElem? hx'
  rw [UQ hx'] at hcs
  have hst := hx x hxm c (by omega)
  have hxe := EN hx'
  have hxf := BK x
  have hjl' : (j : Int) < p.length := by omega
  have hwx := (ML x c).1
  have hwn := P8 x c
  rw [US hx'] at hE
  rw [hwn] at hst
  generalize (ED x c).2 = wx at *
  generalize hsx : Bk x = sx at *
  obtain ⟨k', o', m', v', p'⟩ := x
  rw [AP] at hst hxe hxf
  generalize Ac p = ep at *
  generalize Ac p' = ep' at *
  generalize v'.map aI = ev' at *
  generalize hcc : ((c + sx : Nat) : Int) = cc at *
  by_cases hwz : w < 0
  ·rw [if_pos hwz] at hE
   
   repeat' (first | (simp -implicitDefEqProofs [Kr, No, Ll, Ks, Kn, HK, c38, -getElem?_pos, q1, hpl, hjl', hxe, hwz, splice]) | (simp (disch := omega) only [AB]) | ((with_reducible refine AN 38 ?_); refine' AQ (hst) ?_) | (with_reducible first | refine A5 ?_ ?_ ?_ | exact A7 | refine SameB.upd ?_ ?_ _ | assumption | refine A0 ?_ | refine KM.of ?_ | refine AA ?_ | refine A1 ?_ | refine A3 ?_ | intro _g _hg | refine A9 ?_ ?_ | intro _hc) | omega)
   exact hJ (r - 1) _ (by omega) ⟨j + 1, c + sx, _, wx, _, by omega, by rw [hcc]; rfl, hn2, hwx, by omega, hE, hsame, q1⟩
  ·rw [if_neg hwz] at hE
   
   repeat' (first | (simp -implicitDefEqProofs [Kr, No, Ll, Ks, Kn, HK, c38, -getElem?_pos, q1, hpl, hjl', hxe, hwz, splice]) | (simp (disch := omega) only [AB]) | ((with_reducible refine AN 38 ?_); refine' AQ (hst) ?_) | (with_reducible first | refine A5 ?_ ?_ ?_ | exact A7 | refine SameB.upd ?_ ?_ _ | assumption | refine A0 ?_ | refine KM.of ?_ | refine AA ?_ | refine A1 ?_ | refine A3 ?_ | intro _g _hg | refine A9 ?_ ?_ | intro _hc) | omega)
   exact hJ (r - 1) _ (by omega) ⟨j + 1, c + sx, _, w, _, by omega, by rw [hcc]; rfl, hn2, hw, by omega, by rw [if_neg hwz]; exact hE, hsame, q1⟩
 ·have hjl' : ¬ (j : Int) < p.length := by omega
  rw [List.drop_eq_nil_of_le (by omega), CU] at hcs
  rw [List.drop_eq_nil_of_le (by omega), GV] at hE
  have e1 : nx = c := by omega
  have e2 : fd = w := by rw [← hE]; split <;> omega
  subst e1 e2
  generalize Ac p = ep at *
  
  repeat' (first | (simp -implicitDefEqProofs [Kr, No, Ll, Ks, Kn, HK, c38, -getElem?_pos, q1, hpl, hjl', AL, AT]) | (simp (disch := omega) only [AB]) | (with_reducible first | refine A5 ?_ ?_ ?_ | exact A7 | refine SameB.upd ?_ ?_ _ | assumption | refine A0 ?_ | refine KM.of ?_ | refine AA ?_ | refine A1 ?_ | refine A3 ?_ | intro _g _hg | refine A9 ?_ ?_ | intro _hc) | omega)
  all_goals first | exact hsame | omega
theorem A14 (s : St) : Cy s → Nz s → Bk s ≤ 60 → V4 s := by
 refine St.ind (Q := fun s => Cy s → Nz s → Bk s ≤ 60 → V4 s) ?_ s
 intro k o m v p ih hf hok hsz i hi
 have hbd := A3n (.mk k o m v p) hf hok hsz
 obtain ⟨hv, hp, hpp⟩ := hf
 obtain ⟨hn, hop⟩ := hok
 simp only [Bk] at hsz hi
 have hx : ∀ x ∈ p, V4 x := fun x hx => ih x hx (Cw hpp x hx) (FQ hop x hx) (by have := EG x hx; omega)
 have hw1 : (ED (.mk k o m v p) i).1 = i + 1 + CU p := by rw [ED, K7]
 have hw2 : (ED (.mk k o m v p) i).2 = if 5000 < Aa (.mk k o m v p) then (i : Int) else (GV p (i + 1)).2 := by rw [ED]
 rw [hw1, hw2]
 unfold G9 at hbd
 generalize Aa (.mk k o m v p) = B at *
 rw [AP] at hbd ⊢
 generalize hnx : ((i + 1 + CU p : Nat) : Int) = nx
 generalize hfd : (if 5000 < B then (i : Int) else (GV p (i + 1)).2) = fd
 generalize hmb : ((min B 100000 : Nat) : Int) = mb at *
 
 refine AD Tryz.func38 A4t rfl fun n H hH => ?_
 by_cases hB0 : 5000 < B
 ·have hB' : (5000 : Int) < mb := by omega
  rw [if_pos hB0] at hfd
  repeat' (first | (simp -implicitDefEqProofs [c38, HK, -getElem?_pos, hB']) | (simp (disch := omega) only [AB]) | ((with_reducible refine AN 17 ?_); refine' AQ (hbd) ?_) | (with_reducible first | refine A5 ?_ ?_ ?_ | exact A7 | refine SameB.upd ?_ ?_ _ | assumption | refine A0 ?_ | refine KM.of ?_ | refine AA ?_ | refine A1 ?_ | refine A3 ?_ | intro _g _hg | refine A9 ?_ ?_ | intro _hc) | omega)
  exact Ql (by have := EM p; omega) hx (by omega) (by omega) hnx.symm (by rw [if_neg (by omega)]; exact hfd.symm) (by omega) (by omega) (fun k hk => by simp (disch := omega) only [upd_ne]) (AK _ _ _)
 ·have hB' : ¬ (5000 : Int) < mb := by omega
  rw [if_neg hB0] at hfd
  repeat' (first | (simp -implicitDefEqProofs [c38, HK, -getElem?_pos, hB']) | (simp (disch := omega) only [AB]) | ((with_reducible refine AN 17 ?_); refine' AQ (hbd) ?_) | (with_reducible first | refine A5 ?_ ?_ ?_ | exact A7 | refine SameB.upd ?_ ?_ _ | assumption | refine A0 ?_ | refine KM.of ?_ | refine AA ?_ | refine A1 ?_ | refine A3 ?_ | intro _g _hg | refine A9 ?_ ?_ | intro _hc) | omega)
  exact Ql (by have := EM p; omega) hx (by omega) (by omega) hnx.symm (by rw [if_pos (by omega)]; exact hfd.symm) (by omega) (by omega) (fun k hk => by simp (disch := omega) only [upd_ne]) (AK _ _ _)
theorem Pj (s : St) (hf : Cy s) : APure Tryz.prog 14 [encS s] (aF (Dj s)) := by
 have hst : APure Tryz.prog 37 [encS s, aI 0] (.tup [aI ((EE s 0).1 : Nat), aI (EE s 0).2]) := Xf s hf 0 (by omega)
 have hwd : (EE s 0).2 = 0 → APure Tryz.prog 38 [encS s, aI 0] (.tup [aI ((ED s 0).1 : Nat), aI (ED s 0).2]) := fun h => by
  obtain ⟨h1, h2, h3⟩ := Nj s 0 h
  exact A14 s hf h1 (by omega) 0 (by omega)
 have hw := (ML s 0).1
 unfold Dj
 generalize EE s 0 = sg at *
 generalize ED s 0 = wd at *
 obtain ⟨k, o, m, v, p⟩ := s
 rw [AP] at *
 generalize v.map aI = va at *
 generalize Ac p = ep at *
 have hat := XW
 
 refine AD Tryz.func14 A55 rfl fun n H hH => ?_
 by_cases h0 : sg.2 = 0
 ·have hwd := hwd h0
  rw [if_neg (by simpa using h0)]
  by_cases hw0 : 0 ≤ wd.2
  ·rw [if_pos hw0]
   repeat' (first | (simp -implicitDefEqProofs [KU, L7, c14, -getElem?_pos, h0, hw0, splice, AL, AT]) | (simp (disch := omega) only [AB]) | ((with_reducible refine AN 37 ?_); refine' AQ (hst) ?_) | ((with_reducible refine AN 38 ?_); refine' AQ (hwd) ?_) | ((with_reducible refine AN 20 ?_); refine' AQ ((XW _ _)) ?_) | (with_reducible first | refine A5 ?_ ?_ ?_ | exact A7 | refine SameB.upd ?_ ?_ _ | assumption | refine A0 ?_ | refine KM.of ?_ | refine AA ?_ | refine A1 ?_ | refine A3 ?_ | intro _g _hg | refine A9 ?_ ?_ | intro _hc) | omega)
  ·rw [if_neg hw0]
   repeat' (first | (simp -implicitDefEqProofs [KU, L7, c14, -getElem?_pos, h0, hw0, splice, AL, AT]) | (simp (disch := omega) only [AB]) | ((with_reducible refine AN 37 ?_); refine' AQ (hst) ?_) | ((with_reducible refine AN 38 ?_); refine' AQ (hwd) ?_) | ((with_reducible refine AN 20 ?_); refine' AQ ((XW _ _)) ?_) | (with_reducible first | refine A5 ?_ ?_ ?_ | exact A7 | refine SameB.upd ?_ ?_ _ | assumption | refine A0 ?_ | refine KM.of ?_ | refine AA ?_ | refine A1 ?_ | refine A3 ?_ | intro _g _hg | refine A9 ?_ ?_ | intro _hc) | omega)
 ·rw [if_pos h0]
  repeat' (first | (simp -implicitDefEqProofs [KU, L7, c14, -getElem?_pos, h0, splice, AL, AT]) | (simp (disch := omega) only [AB]) | ((with_reducible refine AN 37 ?_); refine' AQ (hst) ?_) | ((with_reducible refine AN 20 ?_); refine' AQ ((XW _ _)) ?_) | (with_reducible first | refine A5 ?_ ?_ ?_ | exact A7 | refine SameB.upd ?_ ?_ _ | assumption | refine A0 ?_ | refine KM.of ?_ | refine AA ?_ | refine A1 ?_ | refine A3 ?_ | intro _g _hg | refine A9 ?_ ?_ | intro _hc) | omega)
def A13 (s : St) : AV := .tup [aI (if (Dj s).1 = 0 then (Aa s : Int) else 0), aF (Dj s)]
theorem Xw (s : St) (hf : Cy s) : APure Tryz.prog 13 [encS s] (A13 s) := by
 have hv := GM s hf
 have hb : (Dj s).1 = 0 → APure Tryz.prog 36 [encS s] (aI (Aa s : Nat)) := fun h => by
  obtain ⟨_, h1, h2, h3⟩ := Ih h
  exact ZA s hf h1 h2 h3
 have h00 : (Dj s).1 = 0 → Dj s = (0, 0) := fun h => (Ih h).1
 unfold A13
 generalize Dj s = f at *
 generalize Aa s = b at *
 obtain ⟨k, o, m, v, p⟩ := s
 rw [AP] at *
 generalize v.map aI = va at *
 generalize Ac p = ep at *
 
 refine AD Tryz.func13 A4x rfl fun n H hH => ?_
 by_cases h0 : f.1 = 0
 ·have hb2 := hb h0
  have h00 := h00 h0
  subst h00
  repeat' (first | (simp -implicitDefEqProofs [Pw, c13, -getElem?_pos, splice, AL, AT]) | (simp (disch := omega) only [AB]) | ((with_reducible refine AN 15 ?_); refine' AQ (hv) ?_) | ((with_reducible refine AN 36 ?_); refine' AQ (hb2) ?_) | (with_reducible first | refine A5 ?_ ?_ ?_ | exact A7 | refine SameB.upd ?_ ?_ _ | assumption | refine A0 ?_ | refine KM.of ?_ | refine AA ?_ | refine A1 ?_ | refine A3 ?_ | intro _g _hg | refine A9 ?_ ?_ | intro _hc) | omega)
 ·rw [if_neg h0]
  repeat' (first | (simp -implicitDefEqProofs [Pw, c13, -getElem?_pos, h0, splice, AL, AT]) | (simp (disch := omega) only [AB]) | ((with_reducible refine AN 15 ?_); refine' AQ (hv) ?_) | (with_reducible first | refine A5 ?_ ?_ ?_ | exact A7 | refine SameB.upd ?_ ?_ _ | assumption | refine A0 ?_ | refine KM.of ?_ | refine AA ?_ | refine A1 ?_ | refine A3 ?_ | intro _g _hg | refine A9 ?_ ?_ | intro _hc) | omega)
def Iu (F : Fut) (k : Nat) : AZ := (F.cur :: F.l.map (·.2)).getD k []
abbrev A0q (a b : Int) : AObj := .cells 27 [aI a, aI b]
def A23 (n : Nat) (H : A2) (xs : List Int) (cs : AZ) (e : Bool) : Bi := fun r n' H' => n ≤ n' ∧ (∀ k, n' ≤ k → H' k = none) ∧ SameB n H H' ∧ ∃ gg, n ≤ gg ∧ H' gg = some (.grow 3 (cs.map aI)) ∧ r = .tup [.sl 1 (xs.map aI) .ro, .slg 1 gg cs.length, .bool e, aF (0, 0)]
theorem VQ {F : Fut} {j : Nat} {y : Int} {c : AZ} (h : F.l[j]? = some (y, c)) : Iu F (j + 1) = c := by
 simp [Iu, List.getD_eq_getElem?_getD, h]
theorem Rp {cs c : AZ} (h : c.length = cs.length) : Ce cs 0 c = c := by
 unfold Ce; simp [List.drop_eq_nil_of_le, h]
theorem Au {R : Bi} {n m : Nat} {res : List ARes} {e : AW} {H : A2} {x r : AV} (h1 : Bm ⟨e, m, H⟩ res = some x) (hs : AL x r) (h2 : n ≤ m) (h3 : ∀ k, m ≤ k → H k = none) (h4 : R r m H) : fin R n res .ret ⟨e, m, H⟩ := ⟨r, m, H, ⟨x, h1, hs⟩, h2, Nat.le_refl _, h3, SameB.rfl_ _ _, h4⟩
theorem FY {z : Nat} {l : List AV} {t : Tok} (hz : z = 1 ∨ l = []) : AL (.sl z l t) (.sl 1 l .ro) := ⟨1, l, .ro, rfl, .inl rfl, hz.imp Eq.symm (fun h => ⟨h, rfl⟩), A4 l⟩
theorem A0g {a b c d a' : AV} (h : AL a a') : AL (.tup [a, b, c, d]) (.tup [a', b, c, d]) := ⟨_, rfl, _, _, rfl, h, A4 _⟩
theorem XM {R : Bi} {n n1 gO gg g7 nR : Nat} {H H1 : A2} {px : AV} {F : Fut} {O : Nat → Prop} {m : Nat} (hm : m ≤ 5000) (hpx : Cj px) (hS : Sit gO 0 [⟨px, some F.l, F.cur, F.fin, O⟩] H1 n1 gg F.cur) (hn : n ≤ n1) (hgO : n ≤ gO) (hgg : n ≤ gg) (hOn : ∀ g, OU [⟨px, some F.l, F.cur, F.fin, O⟩] g → n ≤ g) (hsame : SameB n H H1) (h7 : Bx (OU [⟨px, some F.l, F.cur, F.fin, O⟩]) gO g7 H1 n1 (A0q 0 0)) (n7 : n ≤ g7) (g77 : gg ≠ g7)
  (hR : R = A23 n H ((F.l.map (·.1)).take m) (if m ≤ F.l.length then Iu F m else F.fin) (decide (F.l.length < m))) (hnR : nR = n) :
  LoopK (fun Q s => aw Tryz.prog c18_L4 Q s) (Dk 0 (EF (aw Tryz.prog c18_k1 (fin R nR [.tmp 4, .tmp 5, .tmp 6, .cell 7 (some 2)])) (fin R nR [.tmp 4, .tmp 5, .tmp 6, .cell 7 (some 2)]))) ⟨[(1, aI m), (7, .ptr g7 0), (9, .ptr gO 0), (10, px), (11, .sl 0 [] .nil)], n1, H1⟩ := by
 subst hnR
 refine LoopK.go (fun r st => ∃ (j n2 z : Nat) (t : Tok) (O1 : Nat → Prop) (H2 : A2), j + r = m ∧ j ≤ F.l.length ∧ st = ⟨[(1, aI m), (7, .ptr g7 0), (9, .ptr gO 0), (10, px), (11, .sl z (((F.l.map (·.1)).take j).map aI) t)], n2, H2⟩ ∧ nR ≤ n2 ∧ SitT gO 0 ⟨px, some (F.l.drop j), Iu F j, F.fin, O1⟩ t j H2 n2 gg (Iu F j) ∧ (Iu F j).length = F.cur.length ∧ (t ≠ .nil → z = 1) ∧ (∀ g, OT ⟨px, some (F.l.drop j), Iu F j, F.fin, O1⟩ t g → nR ≤ g) ∧ SameB nR H H2 ∧ Bx (OT ⟨px, some (F.l.drop j), Iu F j, F.fin, O1⟩ t) gO g7 H2 n2 (A0q 0 0)) m ?_ ?_
 ·exact ⟨0, n1, 0, .nil, O, H1, by omega, by omega, rfl, hn, ⟨hS, rfl, fun g h => h.elim, fun h => h, fun h => h⟩, rfl, fun h => absurd rfl h, fun g h => h.elim (hOn g) (fun h => h.elim), hsame, ⟨fun h => h.elim h7.no (fun h => h.elim), h7.nO, h7.lt, h7.at_⟩⟩
 rintro r st ⟨j, n2, z, t, O1, H2, hj, hjl, rfl, hn2, hST, hcl, hz, hOn2, hsame2, B7⟩ J hJ
 have hgiv := hST.sit.giv
 have hlt := hgiv.lt hST.sit.sup
 have hxl : (((F.l.map (·.1)).take j).map aI).length = j := by simp; omega
 have q7 := B7.at_
 have hz1 : z = 1 ∨ ((F.l.map (·.1)).take j).map aI = [] := by
  by_cases ht : t = .nil
  ·subst ht
   have e : j = 0 := hST.tok
   subst e
   exact .inr rfl
  ·exact .inl (hz ht)
 obtain ⟨ff, fa, fb, rfl⟩ := hpx
 by_cases hjm : j < m
 ·have hjm' : (j : Int) < m := by omega
  cases hd : F.l.drop j with
  | nil =>
   rw [hd] at hST B7 hOn2
   have hlen : F.l.length = j := by have := congrArg List.length hd; simp at this; omega
   have htk : (F.l.map (·.1)).take m = (F.l.map (·.1)).take j := by rw [List.take_of_length_le (by simp; omega), List.take_of_length_le (by simp; omega)]
   rw [if_neg (by omega), htk, decide_eq_true (by omega)] at hR
   generalize ((F.l.map (·.1)).take j) = xs at *
   generalize hxa : xs.map aI = xsa at *
   have qo := q7
   
   repeat' (first | (simp -implicitDefEqProofs [Lz, NW, KB, LK, Iq, Ed, c18, -getElem?_pos, q7, qo, hxl, hjm', splice, -AI]) | (simp (disch := omega) only [AB]) | (refine hST.call (fun r n' H' p' hle hr hl hS2 ha => ?_); obtain ⟨x', l', cur', fin', O3⟩ := p'; dsimp only [PtR] at hr; obtain ⟨rfl, rfl, ⟨v, rfl⟩, rfl, rfl⟩ := hr; have C7 := B7.go g77 ha; have q7 := C7.at_; have e1 : Ce (Iu F j) 0 (AM [(⟨.fn ff fa fb, none, F.fin, F.fin, O3⟩ : Pt)]) = F.fin := (Rp (by simpa [AM] using hl)).trans (by simp [AM]); rw [e1] at hS2; have qo := hS2.sit.giv.opn) | (with_reducible first | refine A5 ?_ ?_ ?_ | exact A7 | assumption | refine A0 ?_ | refine KM.of ?_ | refine AA ?_ | refine A1 ?_ | refine AF ?_ | refine A3 ?_ | refine AG ?_ | refine AE ?_ | intro _g _hg | refine A9 ?_ ?_ | intro _hc) | omega)
   subst hR hxa
   have hle' : n2 ≤ n' := hle
   have := C7.lt
   have hg := hS2.sit.giv.giv
   refine Au (x := .tup [.sl z (xs.map aI) t, .slg 1 gg F.fin.length, .bool true, .agg [aI 0, aI 0]]) (by simp -implicitDefEqProofs [-getElem?_pos]) (A0g (FY hz1)) (by omega) (fun k hk => by rw [upd_ne (by omega)]; exact hS2.sit.sup k hk) ⟨by omega, (fun k hk => by rw [upd_ne (by omega)]; exact hS2.sit.sup k hk), fun k hk => ?_, gg, hgg, by rw [upd_ne g77]; exact hg, rfl⟩
   rw [upd_ne (by omega), ha.fr k (by omega) (fun h => by have := hOn2 k h; omega) (by omega)]
   exact hsame2 k hk
  | cons e l2 =>
   obtain ⟨y, c⟩ := e
   have hy : F.l[j]? = some (y, c) := by
    have := congrArg (fun l => l[0]?) hd
    simpa using this
   have hd2 : F.l.drop (j + 1) = l2 := by
    have := congrArg List.tail hd
    simpa using this
   have hj1 : j + 1 ≤ F.l.length := by have := (List.getElem?_eq_some_iff.1 hy).1; omega
   have htk : ((F.l.map (·.1)).take (j + 1)).map aI = ((F.l.map (·.1)).take j).map aI ++ [aI y] := by
    rw [List.take_succ, List.getElem?_map, hy]; simp
   rw [hd] at hST B7 hOn2
   generalize hxs : ((F.l.map (·.1)).take j).map aI = xsa at *
   
   repeat' (first | (simp -implicitDefEqProofs [Lz, NW, KB, LK, Iq, Ed, c18, -getElem?_pos, q7, hxl, hjm', splice, -AI]) | (simp (disch := omega) only [AB]) | (refine hST.call (fun r n' H' p' hle hr hl hS2 ha => ?_); obtain ⟨x', l', cur', fin', O3⟩ := p'; dsimp only [PtR] at hr; obtain ⟨rfl, rfl, rfl, rfl, rfl⟩ := hr; have hle' : n2 ≤ n' := hle; have C7 := B7.go g77 ha; have e1 : Ce (Iu F j) 0 (AM [(⟨.fn ff fa fb, some l2, cur', F.fin, O3⟩ : Pt)]) = cur' := (Rp (by simpa [AM] using hl)).trans (by simp [AM]); rw [e1] at hS2) | (refine Hm (by rw [hxl]; exact hS2.tok.at_ (fun k hk => by have := hS2.tok.lt k hk; rw [upd_ne (by omega)]) (by omega)) hz (by rw [hxl]; omega) (fun k hk => by rw [upd_ne (by omega)]; exact hS2.sit.sup k (by omega)) (fun g' n3 H3 k1 k2 k3 k4 k5 k6 k7 => ?_)) | (with_reducible first | refine A5 ?_ ?_ ?_ | exact A7 | assumption | refine A0 ?_ | refine KM.of ?_ | refine AA ?_ | refine A1 ?_ | refine AF ?_ | refine A3 ?_ | refine AG ?_ | refine AE ?_ | intro _g _hg | refine A9 ?_ ?_ | intro _hc) | omega)
   have rep : Rep' t (j + 1) n' H' g' n3 H3 := ⟨k1.elim .inl (fun h => .inr (by omega)), by omega, k3, fun k h1 h2 => (k4 k (by omega) h2).trans (upd_ne (by omega)), by rw [k5, hxl], k6⟩
   have hS3 := hS2.app rep
   have D7 := C7.app rep
   have e2 : Iu F (j + 1) = cur' := VQ hy
   refine hJ (r - 1) _ (by omega) ⟨j + 1, n3, 1, .own g', O3, H3, by omega, hj1, by rw [htk], by omega, by rw [hd2, e2]; exact hS3, by rw [e2]; simpa [AM] using hl.trans (by simpa [AM] using hcl), fun _ => rfl, ?_, ?_, by rw [hd2, e2]; exact D7⟩
   ·rw [hd2, e2]
    rintro g (hg | hg)
    ·exact (ha.sub g (.inl hg)).elim (hOn2 g) (fun h => by omega)
    ·have e : g = g' := hg
     exact k1.elim (fun h => by rw [e]; exact hOn2 g' (.inr h)) (fun h => by omega)
   ·intro k hk
    rw [rep.fr k (by omega) (fun h => by have := hOn2 k (.inr h); omega), ha.fr k (by omega) (fun h => by have := hOn2 k h; omega) (by omega)]
    exact hsame2 k hk
 ·have hjm' : ¬ (j : Int) < m := by omega
  have hmj : m = j := by omega
  subst hmj
  rw [if_pos hjl, decide_eq_false (by omega)] at hR
  have qo := hST.sit.giv.opn
  have qg := hST.sit.giv.giv
  generalize ((F.l.map (·.1)).take m) = xs at *
  generalize hxa : xs.map aI = xsa at *
  
  repeat' (first | (simp -implicitDefEqProofs [Lz, NW, KB, LK, Iq, Ed, c18, -getElem?_pos, q7, qo, hxl, hjm', splice, -AI]) | (simp (disch := omega) only [AB]) | (with_reducible first | refine A5 ?_ ?_ ?_ | exact A7 | assumption | refine A0 ?_ | refine KM.of ?_ | refine AA ?_ | refine A1 ?_ | refine AF ?_ | refine A3 ?_ | refine AG ?_ | refine AE ?_ | intro _g _hg | refine A9 ?_ ?_ | intro _hc) | omega)
  subst hR hxa
  have := B7.lt
  refine Au (x := .tup [.sl z (xs.map aI) t, .slg 1 gg (Iu F m).length, .bool false, .agg [aI 0, aI 0]]) (by simp -implicitDefEqProofs [-getElem?_pos]) (A0g (FY hz1)) (by omega) (fun k hk => by rw [upd_ne (by omega)]; exact hST.sit.sup k hk) ⟨by omega, (fun k hk => by rw [upd_ne (by omega)]; exact hST.sit.sup k hk), fun k hk => ?_, gg, hgg, by rw [upd_ne g77]; exact qg, rfl⟩
  rw [upd_ne (by omega)]
  exact hsame2 k hk
def Pa : Nat → Ad → List Int → Option (List Int × Ad)
 | 0, _, _ => none
 | f + 1, r, vs => if (GW (r.takeWhile Ap)).2 = true then (if (acc 44 (r.dropWhile Ap)).2 = true then Pa f (acc 44 (r.dropWhile Ap)).1 (vs ++ [(GW (r.takeWhile Ap)).1]) else some (vs ++ [(GW (r.takeWhile Ap)).1], (acc 44 (r.dropWhile Ap)).1)) else none
def Gj (r : Ad) : Option (List Int × Ad) := if [41] <+: r then some ([], r) else Pa (r.length + 1) r []
theorem Jz {c x : UInt8} {r : Ad} : acc c (x :: r) = if x = c then (r, true) else (x :: r, false) := rfl
theorem Db (c : UInt8) (r : Ad) : (acc c r).1.length ≤ r.length ∧ ((acc c r).2 = true → (acc c r).1.length + 1 = r.length) := by
 cases r with
 | nil => simp [acc]
 | cons x r =>
  rw [Jz]
  split <;> simp
theorem EP (p : UInt8 → Bool) (r : Ad) : (r.dropWhile p).length ≤ r.length := (List.dropWhile_sublist _).length_le
def A0i (n : Nat) (H : A2) (gp gS gm : Nat) (k o m : Int) (ps : AV) (res : Option (List Int × Ad)) : Bi := fun b n' H' => n ≤ n' ∧ (∀ g, n' ≤ g → H' g = none) ∧ (∀ g, g < n → g ≠ gp → g ≠ gS → H' g = H g) ∧ match res with
 | some (vs, r') => b = .bool true ∧ H' gp = some (Ak r' gm) ∧ ∃ (z : Nat) (t : Tok), (z = 1 ∨ vs = []) ∧ H' gS = some (AY k o m (.sl z (vs.map aI) t) ps)
 | none => b = .bool false ∧ (∃ r', H' gp = some (Ak r' gm)) ∧ ∃ w, H' gS = some (AY k o m w ps)
theorem YZ {c : UInt8} {r : Ad} (h : (acc c r).2 = false) : (acc c r).1 = r := by
 cases r with
 | nil => rfl
 | cons x r =>
  rw [Jz] at h ⊢
  split
  ·rename_i hx; rw [if_pos hx] at h; cases h
  ·rfl
theorem Wx (r : Ad) (gp gS gm n : Nat) (H : A2) (k o m : Int) (ps : AV) (hps : ps.one = true) (hr : r.length ≤ 4000) (hp : H gp = some (Ak r gm)) (hS : H gS = some (AY k o m (.sl 0 [] .nil) ps)) (hne : gp ≠ gS) (hpf : ps.fits none = true) : ACalls Tryz.prog 125 [.ptr gp 0, .ptr gS 0] n H (A0i n H gp gS gm k o m ps (Gj r)) := by
 have hh := SO r [41]
 unfold Gj
 generalize hR : A0i _ _ _ _ _ _ _ _ _ _ = R
 refine A8 Tryz.func125 A3i rfl fun hs => ?_
 have hgp : gp < n := by
  rcases Nat.lt_or_ge gp n with h | h
  ·exact h
  ·rw [hs gp h] at hp; cases hp
 have hgS : gS < n := by
  rcases Nat.lt_or_ge gS n with h | h
  ·exact h
  ·rw [hs gS h] at hS; cases hS
 by_cases h0 : [41] <+: r
 ·rw [decide_eq_true h0] at hh
  rw [if_pos h0] at hR
  repeat' (first | (simp -implicitDefEqProofs [GQ, GN, G7, c125, -getElem?_pos, hp]) | (simp (disch := omega) only [AB]) | ((with_reducible refine AN 128 ?_); refine' AQ (hh) ?_) | (with_reducible first | refine A5 ?_ ?_ ?_ | exact A7 | assumption | refine A0 ?_ | refine KM.of ?_ | refine AA ?_ | refine AF ?_ | refine AG ?_ | refine AE ?_ | intro _g _hg | refine A9 ?_ ?_ | intro _hc) | omega)
  subst hR
  exact Au (x := .bool true) (by simp -implicitDefEqProofs [-getElem?_pos]) (A6 _) (by omega) hs ⟨by omega, hs, fun _ _ _ _ => rfl, rfl, hp, 0, .nil, .inr rfl, hS⟩
 ·rw [decide_eq_false h0] at hh
  rw [if_neg h0] at hR
  repeat' (first | (simp -implicitDefEqProofs [c125, GQ, GN, G7, c125, -getElem?_pos, hp]) | (simp (disch := omega) only [AB]) | ((with_reducible refine AN 128 ?_); refine' AQ (hh) ?_) | (with_reducible first | refine A5 ?_ ?_ ?_ | exact A7 | assumption | refine A0 ?_ | refine KM.of ?_ | refine AA ?_ | refine AF ?_ | refine AG ?_ | refine AE ?_ | intro _g _hg | refine A9 ?_ ?_ | intro _hc) | omega)
  refine LoopK.go (fun f st => ∃ (r1 : Ad) (vs : List Int) (z : Nat) (t : Tok) (n1 : Nat) (H1 : A2), st = ⟨[(0, .ptr gp 0), (1, .ptr gS 0)], n1, H1⟩ ∧ n ≤ n1 ∧ (∀ g, n1 ≤ g → H1 g = none) ∧ (∀ g, g < n → g ≠ gp → g ≠ gS → H1 g = H g) ∧ H1 gp = some (Ak r1 gm) ∧ H1 gS = some (AY k o m (.sl z (vs.map aI) t) ps) ∧ TokOk t vs.length H1 n1 ∧ (t ≠ .nil → z = 1) ∧ (∀ g, Bd t g → n ≤ g) ∧ Pa f r1 vs = Pa (r.length + 1) r [] ∧ r1.length < f ∧ vs.length + r1.length ≤ 4000) (r.length + 1) ⟨r, [], 0, .nil, n, H, rfl, Nat.le_refl _, hs, fun _ _ _ _ => rfl, hp, hS, rfl, fun h => absurd rfl h, fun g h => h.elim, rfl, by omega, by simpa using hr⟩ ?_
  rintro f st ⟨r1, vs, z, t, n1, H1, rfl, hn1, hs1, hfr, q1, q2, hT, hz, hTn, hE, hlf, hvl⟩ J hJ
  obtain ⟨f, rfl⟩ : ∃ f', f = f' + 1 := ⟨f - 1, by omega⟩
  have hnum := SN r1 gp gm n1 H1 (by omega) q1
  have hd1 := EP Ap r1
  rw [Pa] at hE
  generalize hd : GW (r1.takeWhile Ap) = d at *
  generalize hr2 : r1.dropWhile Ap = r2 at *
  by_cases hd2 : d.2 = true
  ·rw [if_pos hd2] at hE
   rw [hd2] at hnum
   have hac : ∀ n2 H2, H2 gp = some (Ak r2 gm) → AUpd Tryz.prog 85 [.ptr gp 0, .str [44]] n2 H2 (.bool (acc 44 r2).2) gp (Ak (acc 44 r2).1 gm) := fun n2 H2 h => Gw r2 44 gp gm n2 H2 h
   have hal := Db 44 r2
   have han : (acc 44 r2).2 = false → (acc 44 r2).1 = r2 := YZ
   have hvl2 : (vs.map aI).length = vs.length := by simp
   have hvm : (vs ++ [d.1]).map aI = vs.map aI ++ [aI d.1] := by simp
   have hvs1 : r1.length ≠ 0 := by
    intro e
    have := List.length_eq_zero_iff.1 e
    subst this
    rw [← hd] at hd2
    simp [GW, Lib.atoiAll, Lib.signless, Lib.parseMag] at hd2
   generalize hac1 : acc 44 r2 = a at *
   by_cases ha2 : a.2 = true
   ·rw [if_pos ha2] at hE
    rw [ha2] at hac
    
    repeat' (first | (simp -implicitDefEqProofs [GQ, GN, G7, c125, -getElem?_pos, q1, q2, Ne.symm hne, hne, splice]) | (simp (disch := omega) only [AB]) | (refine Hm (by rw [hvl2]; exact hT.at_ (fun k hk => by have := hT.lt k hk; have := hTn k hk; simp (disch := omega) only [upd_ne]) (by omega)) hz (by rw [hvl2]; omega) (fun k hk => by simp (disch := omega) only [upd_ne]; exact hs1 k (by omega)) (fun g' n2 H2 k1 k2 k3 k4 k5 k6 k7 => ?_); have e1 : H2 gS = _ := (k4 gS (by omega) (fun h => by have := hTn gS h; omega)); have e2 : H2 gp = _ := (k4 gp (by omega) (fun h => by have := hTn gp h; omega)); rw [upd_ne (by omega), upd_ne (Ne.symm hne), q2] at e1; rw [upd_ne (by omega), AK] at e2; have q2 := e1) | ((with_reducible refine Ae 127 ?_); (refine' CallK.sfU ?_ (hnum) ?_); (focus first | (with_reducible exact A4 _) | (simp [AT, AL, A6, A4]; done))) | ((with_reducible refine Ae 85 ?_); (refine' CallK.sfU ?_ ((hac _ _ (by simp (disch := omega) only [upd_ne]; exact e2))) ?_); (focus first | (with_reducible exact A4 _) | (simp [AT, AL, A6, A4]; done))) | (with_reducible first | refine A5 ?_ ?_ ?_ | exact A7 | assumption | refine A0 ?_ | refine KM.of ?_ | refine AA ?_ | refine AF ?_ | refine AG ?_ | refine AE ?_ | intro _g _hg | refine A9 ?_ ?_ | intro _hc) | omega)
    have hal2 := hal.2 ha2
    have hgg : g' ≠ gp := fun e => k1.elim (fun h => by have := hTn g' h; omega) (fun h => by omega)
    have hgg2 : g' ≠ gS := fun e => k1.elim (fun h => by have := hTn g' h; omega) (fun h => by omega)
    refine hJ f _ (by omega) ⟨a.1, vs ++ [d.1], 1, .own g', n2, _, rfl, by omega, fun g hg => by simp (disch := omega) only [upd_ne]; exact k6 g hg, fun g h1 h2 h3 => ?_, AK _ _ _, by rw [upd_ne (Ne.symm hne), AK, hvm], ⟨by rw [upd_ne hgg, upd_ne hgg2, k5]; simp, k3⟩, fun _ => rfl, fun g hg => ?_, hE, by omega, by simp; omega⟩
    ·rw [upd_ne h2, upd_ne h3, k4 g (by omega) (fun h => by have := hTn g h; omega), upd_ne (by omega), upd_ne h2]; exact hfr g h1 h2 h3
    ·have e : g = g' := hg
     exact k1.elim (fun h => by rw [e]; exact hTn g' h) (fun h => by omega)
   ·rw [if_neg ha2] at hE
    rw [Bool.not_eq_true] at ha2
    rw [ha2] at hac
    
    repeat' (first | (simp -implicitDefEqProofs [GQ, GN, G7, c125, -getElem?_pos, q1, q2, Ne.symm hne, hne, splice]) | (simp (disch := omega) only [AB]) | (refine Hm (by rw [hvl2]; exact hT.at_ (fun k hk => by have := hT.lt k hk; have := hTn k hk; simp (disch := omega) only [upd_ne]) (by omega)) hz (by rw [hvl2]; omega) (fun k hk => by simp (disch := omega) only [upd_ne]; exact hs1 k (by omega)) (fun g' n2 H2 k1 k2 k3 k4 k5 k6 k7 => ?_); have e1 : H2 gS = _ := (k4 gS (by omega) (fun h => by have := hTn gS h; omega)); have e2 : H2 gp = _ := (k4 gp (by omega) (fun h => by have := hTn gp h; omega)); rw [upd_ne (by omega), upd_ne (Ne.symm hne), q2] at e1; rw [upd_ne (by omega), AK] at e2; have q2 := e1) | ((with_reducible refine Ae 127 ?_); (refine' CallK.sfU ?_ (hnum) ?_); (focus first | (with_reducible exact A4 _) | (simp [AT, AL, A6, A4]; done))) | ((with_reducible refine Ae 85 ?_); (refine' CallK.sfU ?_ ((hac _ _ (by simp (disch := omega) only [upd_ne]; exact e2))) ?_); (focus first | (with_reducible exact A4 _) | (simp [AT, AL, A6, A4]; done))) | (with_reducible first | refine A5 ?_ ?_ ?_ | exact A7 | assumption | refine A0 ?_ | refine KM.of ?_ | refine AA ?_ | refine AF ?_ | refine AG ?_ | refine AE ?_ | intro _g _hg | refine A9 ?_ ?_ | intro _hc) | omega)
    subst hR
    rw [← hE]
    refine Au (x := .bool true) (by simp -implicitDefEqProofs [-getElem?_pos]) (A6 _) (by omega) (fun g hg => by simp (disch := omega) only [upd_ne]; exact k6 g hg) ⟨by omega, fun g hg => by simp (disch := omega) only [upd_ne]; exact k6 g hg, fun g h1 h2 h3 => ?_, rfl, AK _ _ _, 1, .own g', .inl rfl, by rw [upd_ne (Ne.symm hne), AK, hvm]⟩
    rw [upd_ne h2, upd_ne h3, k4 g (by omega) (fun h => by have := hTn g h; omega), upd_ne (by omega), upd_ne h2]; exact hfr g h1 h2 h3
  ·rw [if_neg hd2] at hE
   rw [Bool.not_eq_true] at hd2
   rw [hd2] at hnum
   
   repeat' (first | (simp -implicitDefEqProofs [GQ, GN, G7, c125, -getElem?_pos, q1, q2, Ne.symm hne, hne, splice]) | (simp (disch := omega) only [AB]) | ((with_reducible refine Ae 127 ?_); (refine' CallK.sfU ?_ (hnum) ?_); (focus first | (with_reducible exact A4 _) | (simp [AT, AL, A6, A4]; done))) | (with_reducible first | refine A5 ?_ ?_ ?_ | exact A7 | assumption | refine A0 ?_ | refine KM.of ?_ | refine AA ?_ | refine AF ?_ | refine AG ?_ | refine AE ?_ | intro _g _hg | refine A9 ?_ ?_ | intro _hc) | omega)
   subst hR
   rw [← hE]
   exact Au (x := .bool false) (by simp -implicitDefEqProofs [-getElem?_pos]) (A6 _) (by omega) (fun g hg => by simp (disch := omega) only [upd_ne]; exact hs1 g hg) ⟨by omega, fun g hg => by simp (disch := omega) only [upd_ne]; exact hs1 g hg, fun g h1 h2 h3 => by rw [upd_ne h2]; exact hfr g h1 h2 h3, rfl, ⟨_, AK _ _ _⟩, _, by rw [upd_ne (Ne.symm hne)]; exact q2⟩
end Go.Proofs.YtjdccdelcnmocaaGreatDoor
