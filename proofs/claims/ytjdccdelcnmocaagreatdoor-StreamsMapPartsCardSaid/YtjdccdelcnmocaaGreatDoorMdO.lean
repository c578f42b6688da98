/- Streams: the program's capped bound; no condition. -/
import Derived.Test.YtjdccdelcnmocaaGreatDoorMdK
import Derived.Test.YtjdccdelcnmocaaGreatDoorMdN
import Derived.Test.YtjdccdelcnmocaaGreatDoorMgI
set_option linter.all false
set_option linter.unusedSimpArgs false
set_option linter.unusedVariables false
set_option maxHeartbeats 2000000
namespace Go.Proofs.YtjdccdelcnmocaaGreatDoor
attribute [local simp] LV Ev Er Mx Lf M4 NG FQ F4 HI H5 Mi Ll Ls Ka MD NM LX N7 NF MF Mq O8 Nk LY T2 pe LP LT KO MB ND MR Nn O7 NU MW Nt OC NV Ee NB Mv Mw M5 Mt N5 Mf LB LZ Me L3 Ln NI MO N2 KP NL Lz OD Ni Lo F3 N3 F5 Mn Li KI Kr NA Ml MP NJ KV KJ Ko Lk Ld NS MY Ky MH Kd L2 KY O9 NY Kk Ki LU F1 KZ Kc MX LW MN NT My KN Kl Mb KT L0 MT Kt MA Md Mz OA KK Kq Kb KU Kn NX Nl Mm O0 Nd NC Mj M0 Np List.mem_cons guardK Di Fr GV HT Lm Eo FI FP Ej F7 FD Eu Eh FA NP Kj Ew LL M3 Nb Kh MU ML FO MI Nj Kg Nw Mk MK HM El FT F6 Ep Mp L6 FG Ke Ex L8 FN Em Nf FR FV Mo Lt Lp LQ MQ LJ Na Nh T0 Ju KB IE JY Jb Js EN Gn Gs OF Gi Gq EW Dk UR K5 Jm Gk Ji K9 ES EY CA Bf Cr DG AL ev get put I3 AR EH Nq Ng Mh Nv KQ LE Fg part Bu IB Nz IA isNil DC DJ Fi Da Db Kv Lq Lr Kz KG Jg OE LC Lx MZ O6 No L7 LN MJ Lj AV.fits AV.cells ones AV.one Fh DB Fd Ec Gu Fp KH Hw HU DA Bt CF FE I4 AO Br Uo HA NZ Mc List.getElem?_cons_zero List.getElem?_cons_succ F9 FC Eg Kw LG Nx IN Lc MC M1 KX L4 M6 Ks L1 Mr LI Kp
theorem Ru (k o m : Int) (v : List Int) (x : St) (hk : k = 5 ∨ k = 12) (hm : 0 ≤ m ∧ m ≤ 5000) (hx : APure Tryz.prog 70 [encS x] (aI (min (AU x) 5001 : Nat))) : APure Tryz.prog 70 [encS (.mk k o m v [x])] (aI (min (AU (.mk k o m v [x])) 5001 : Nat)) := by
 have hxf := BG x
 have hb : min (AU (.mk k o m v [x])) 5001 = min (Bg k m v [min (AU x) 5001]) 5001 := by
  rw [AU, Ok]; rfl
 rw [hb]
 obtain ⟨b, hb'⟩ : ∃ b, min (AU x) 5001 = b := ⟨_, rfl⟩
 have hb5 : b ≤ 5001 := by omega
 rw [hb'] at hx ⊢
 obtain ⟨m', rfl⟩ : ∃ m' : Nat, m = m' := ⟨m.toNat, by omega⟩
 rw [AN, Ac, Ac]
 generalize encS x = ex at *
 rcases hk with rfl | rfl
 ·have hz : (min (Bg 5 m' v [b]) 5001 : Nat) = min (min m' b) 5001 := by simp [Bg]
  rw [hz]
  
  refine AA Tryz.func70 QZ rfl fun n H hH => ?_
  repeat' (first | (simp -implicitDefEqProofs [E9, Dz, Dr, E6, ED, EE, EI, Dy, Ds, c70, -getElem?_pos, hxf, -AV.fits, A4, A5]) | (simp (disch := omega) only [AC]) | ((with_reducible refine A9 70 ?_); (refine' CallP.sf ?_ (hx) ?_); (focus first | (with_reducible exact A0 _) | (simp [A5, A4, A1, A0]; done))) | (with_reducible first | refine A8 ?_ ?_ ?_ | exact AB | refine SameB.upd ?_ ?_ _ | assumption | refine A2 ?_ | refine KM.of ?_ | refine AD ?_ | refine A3 ?_ | refine A6 ?_ | intro _g _hg | refine AE ?_ ?_ | intro _hc) | omega)
  all_goals (refine BJ ?_; grind)
 ·have hz : (min (Bg 12 m' v [b]) 5001 : Nat) = min (m' * b) 5001 := by simp [Bg]
  rw [hz]
  have hmb : m' * b ≤ 5000 * 5001 := Nat.mul_le_mul (by omega) hb5
  have hmc : ((m' * b : Nat) : Int) = (m' : Int) * b := Int.natCast_mul _ _
  
  refine AA Tryz.func70 QZ rfl fun n H hH => ?_
  repeat' (first | (simp -implicitDefEqProofs [E9, Dz, Dr, E6, ED, EE, EI, Dy, Ds, c70, -getElem?_pos, hxf, -AV.fits, A4, A5]) | (simp (disch := omega) only [AC]) | ((with_reducible refine A9 70 ?_); (refine' CallP.sf ?_ (hx) ?_); (focus first | (with_reducible exact A0 _) | (simp [A5, A4, A1, A0]; done))) | (with_reducible first | refine A8 ?_ ?_ ?_ | exact AB | refine SameB.upd ?_ ?_ _ | assumption | refine A2 ?_ | refine KM.of ?_ | refine AD ?_ | refine A3 ?_ | refine A6 ?_ | intro _g _hg | refine AE ?_ ?_ | intro _hc) | omega)
  all_goals (rw [← hmc, IntKind.i64_wrap_id (by omega) (by omega)]; omega)
theorem SA (o m : Int) (v : List Int) (x y : St) (hx : APure Tryz.prog 70 [encS x] (aI (min (AU x) 5001 : Nat))) (hy : APure Tryz.prog 70 [encS y] (aI (min (AU y) 5001 : Nat))) : APure Tryz.prog 70 [encS (.mk 15 o m v [x, y])] (aI (min (AU (.mk 15 o m v [x, y])) 5001 : Nat)) := by
 have hxf := BG x
 have hyf := BG y
 have hb : min (AU (.mk 15 o m v [x, y])) 5001 = min (min (AU x) 5001) (min (AU y) 5001) := by
  simp [AU, Df, Bg]; omega
 rw [hb]
 obtain ⟨b, hb'⟩ : ∃ b, min (AU x) 5001 = b := ⟨_, rfl⟩
 obtain ⟨c, hc'⟩ : ∃ c, min (AU y) 5001 = c := ⟨_, rfl⟩
 have hb5 : b ≤ 5001 := by omega
 have hc5 : c ≤ 5001 := by omega
 rw [hb'] at hx ⊢
 rw [hc'] at hy ⊢
 rw [AN, Ac, Ac, Ac]
 generalize encS x = ex at *
 generalize encS y = ey at *
 
 refine AA Tryz.func70 QZ rfl fun n H hH => ?_
 repeat' (first | (simp -implicitDefEqProofs [E9, Dz, Dr, E6, ED, EE, EI, Dy, Ds, c70, -getElem?_pos, hxf, hyf, -AV.fits, A4, A5]) | (simp (disch := omega) only [AC]) | ((with_reducible refine A9 70 ?_); (refine' CallP.sf ?_ (hx) ?_); (focus first | (with_reducible exact A0 _) | (simp [A5, A4, A1, A0]; done))) | ((with_reducible refine A9 70 ?_); (refine' CallP.sf ?_ (hy) ?_); (focus first | (with_reducible exact A0 _) | (simp [A5, A4, A1, A0]; done))) | (with_reducible first | refine A8 ?_ ?_ ?_ | exact AB | refine SameB.upd ?_ ?_ _ | assumption | refine A2 ?_ | refine KM.of ?_ | refine AD ?_ | refine A3 ?_ | refine A6 ?_ | intro _g _hg | refine AE ?_ ?_ | intro _hc) | omega)
 all_goals first | omega | (refine BJ ?_; grind)
theorem PM {l : List Nat} {i x : Nat} (h : l[i]? = some x) : (l.take (i + 1)).sum = (l.take i).sum + x := by
 rw [List.take_succ, h]; simp
theorem Ue (c : Nat) (p : List St) (h : p.length ≤ 60) (i : Nat) : ((p.map fun s => min (AU s) c).take i).sum ≤ 60 * c := by
 have g : ∀ l : List Nat, (∀ x ∈ l, x ≤ c) → l.sum ≤ l.length * c := by
  intro l hl
  induction l with
  | nil => simp
  | cons a r ih =>
   have h1 := hl a (by simp)
   have h2 := ih fun x hx => hl x (by simp [hx])
   simp only [List.sum_cons, List.length_cons, Nat.succ_mul]
   omega
 have h1 := g ((p.map fun s => min (AU s) c).take i) (by
  intro x hx
  obtain ⟨s, _, rfl⟩ := List.mem_map.1 (List.mem_of_mem_take hx)
  omega)
 have h2 : ((p.map fun s => min (AU s) c).take i).length ≤ 60 := by simp; omega
 exact Nat.le_trans h1 (Nat.mul_le_mul_right c h2)
theorem Sx (k o m : Int) (v : List Int) (p : List St) (h1 : k ≠ 1) (h2 : k ≠ 2) (h5 : k ≠ 5) (h12 : k ≠ 12) (h15 : k ≠ 15) (hp : p.length ≤ 60) (hx : ∀ x ∈ p, APure Tryz.prog 70 [encS x] (aI (min (AU x) 5001 : Nat))) : APure Tryz.prog 70 [encS (.mk k o m v p)] (aI (min (AU (.mk k o m v p)) 5001 : Nat)) := by
 have hb : min (AU (.mk k o m v p)) 5001 = min (p.map fun s => min (AU s) 5001).sum 5001 := by
  rw [AU, Ok, Hb, List.map_map]
  simp [Bg, h1, h2, h5, h12, h15, Function.comp_def]
 have hcl := Ue 5001 p hp
 have hpl := BM p
 rw [hb]
 rw [AN]
 
 refine AA Tryz.func70 QZ rfl fun n H hH => ?_
 repeat' (first | (simp -implicitDefEqProofs [c70, E9, Dz, Dr, E6, ED, EE, EI, Dy, Ds, c70, -getElem?_pos, h1, h2, h5, h12, h15]) | (simp (disch := omega) only [AC]) | (with_reducible first | refine A8 ?_ ?_ ?_ | exact AB | refine SameB.upd ?_ ?_ _ | assumption | refine A2 ?_ | refine KM.of ?_ | refine AD ?_ | refine A3 ?_ | refine A6 ?_ | intro _g _hg | refine AE ?_ ?_ | intro _hc) | omega)
 refine LoopK.go (fun r st => ∃ (j n1 : Nat) (H1 : A7), j + r = p.length ∧ st = ⟨[(3, aI (((p.map fun s => min (AU s) 5001).take j).sum : Nat)), (9, .sl 5 (Ac p) .ro), (10, aI p.length), (11, aI j)], n1, H1⟩ ∧ n ≤ n1 ∧ SameB n H H1) p.length ⟨0, _, _, by omega, by simp [hpl]; exact ⟨rfl, rfl⟩, by omega, by intro q hq; simp only [upd]; (repeat' split) <;> first | rfl | omega⟩ ?_
 rintro r st ⟨j, n1, H1, hj, rfl, hn1, hsame⟩ J hJ
 by_cases hjl : j < p.length
 ·obtain ⟨x, hx'⟩ : ∃ x, p[j]? = some x := ⟨_, List.getElem?_eq_getElem hjl⟩
  have hb := hx x (List.mem_of_getElem? hx')
  have hxe := Fa hx'
  have hxf := BG x
  have hjl' : (j : Int) < p.length := by omega
  have hs := PM (l := p.map fun s => min (AU s) 5001) (i := j) (x := min (AU x) 5001) (by rw [List.getElem?_map, hx']; rfl)
  have hc1 := hcl j
  generalize ((p.map fun s => min (AU s) 5001).take j).sum = a at *
  obtain ⟨b, hb'⟩ : ∃ b, min (AU x) 5001 = b := ⟨_, rfl⟩
  have hb5 : b ≤ 5001 := by omega
  rw [hb'] at hb hs
  obtain ⟨k', o', m', v', p'⟩ := x
  rw [AN] at hb hxe hxf
  generalize Ac p = ep at *
  generalize Ac p' = ep' at *
  generalize v'.map aI = ev' at *
  
  repeat' (first | (simp -implicitDefEqProofs [E9, Dz, Dr, E6, ED, EE, EI, Dy, Ds, c70, -getElem?_pos, hjl', hxe, splice]) | (simp (disch := omega) only [AC]) | ((with_reducible refine A9 70 ?_); (refine' CallP.sf ?_ (hb) ?_); (focus first | (with_reducible exact A0 _) | (simp [A5, A4, A1, A0]; done))) | (with_reducible first | refine A8 ?_ ?_ ?_ | exact AB | refine SameB.upd ?_ ?_ _ | assumption | refine A2 ?_ | refine KM.of ?_ | refine AD ?_ | refine A3 ?_ | refine A6 ?_ | intro _g _hg | refine AE ?_ ?_ | intro _hc) | omega)
  exact hJ (r - 1) _ (by omega) ⟨j + 1, _, _, by omega, by rw [hs]; rfl, by omega, by intro q hq; simp only [upd]; (repeat' split) <;> first | (exact hsame q hq) | omega⟩
 ·have hjl' : ¬ (j : Int) < p.length := by omega
  have hc1 := hcl j
  have e : (p.map fun s => min (AU s) 5001).take j = p.map fun s => min (AU s) 5001 := List.take_of_length_le (by simp; omega)
  rw [e] at hc1 ⊢
  generalize (p.map fun s => min (AU s) 5001).sum = a at *
  
  repeat' (first | (simp -implicitDefEqProofs [E9, Dz, Dr, E6, ED, EE, EI, Dy, Ds, c70, -getElem?_pos, hjl', A4, A5]) | (simp (disch := omega) only [AC]) | (with_reducible first | refine A8 ?_ ?_ ?_ | exact AB | refine SameB.upd ?_ ?_ _ | assumption | refine A2 ?_ | refine KM.of ?_ | refine AD ?_ | refine A3 ?_ | refine A6 ?_ | intro _g _hg | refine AE ?_ ?_ | intro _hc) | omega)
  all_goals first | omega | exact hsame | (refine BJ ?_; grind)
theorem K6 (k o m : Int) (v : List Int) (p : List St) (hk : k = 1 ∨ k = 2) (hb : APure Tryz.prog 36 [encS (.mk k o m v p)] (aI (AU (.mk k o m v p) : Nat))) : APure Tryz.prog 70 [encS (.mk k o m v p)] (aI (min (AU (.mk k o m v p)) 5001 : Nat)) := by
 generalize AU (.mk k o m v p) = b at *
 rw [AN] at hb ⊢
 generalize Ac p = ep at *
 generalize v.map aI = ev at *
 rcases hk with rfl | rfl
 ·
  refine AA Tryz.func70 QZ rfl fun n H hH => ?_
  repeat' (first | (simp -implicitDefEqProofs [E9, Dz, Dr, E6, ED, EE, EI, Dy, Ds, c70, -getElem?_pos, A4, A5]) | (simp (disch := omega) only [AC]) | ((with_reducible refine A9 36 ?_); (refine' CallP.sf ?_ (hb) ?_); (focus first | (with_reducible exact A0 _) | (simp [A5, A4, A1, A0]; done))) | (with_reducible first | refine A8 ?_ ?_ ?_ | exact AB | refine SameB.upd ?_ ?_ _ | assumption | refine A2 ?_ | refine KM.of ?_ | refine AD ?_ | refine A3 ?_ | refine A6 ?_ | intro _g _hg | refine AE ?_ ?_ | intro _hc) | omega)
  all_goals first | omega | (refine BJ ?_; grind)
 ·
  refine AA Tryz.func70 QZ rfl fun n H hH => ?_
  repeat' (first | (simp -implicitDefEqProofs [E9, Dz, Dr, E6, ED, EE, EI, Dy, Ds, c70, -getElem?_pos, A4, A5]) | (simp (disch := omega) only [AC]) | ((with_reducible refine A9 36 ?_); (refine' CallP.sf ?_ (hb) ?_); (focus first | (with_reducible exact A0 _) | (simp [A5, A4, A1, A0]; done))) | (with_reducible first | refine A8 ?_ ?_ ?_ | exact AB | refine SameB.upd ?_ ?_ _ | assumption | refine A2 ?_ | refine KM.of ?_ | refine AD ?_ | refine A3 ?_ | refine A6 ?_ | intro _g _hg | refine AE ?_ ?_ | intro _hc) | omega)
  all_goals first | omega | (refine BJ ?_; grind)
theorem VC (s : St) : BK s → OY s → Ah s ≤ 60 → APure Tryz.prog 70 [encS s] (aI (min (AU s) 5001 : Nat)) := by
 refine St.ind (Q := fun s => BK s → OY s → Ah s ≤ 60 → APure Tryz.prog 70 [encS s] (aI (min (AU s) 5001 : Nat))) ?_ s
 intro k o m v p ih hf hok hsz
 obtain ⟨hv, hp, hpp⟩ := hf
 obtain ⟨hn, hop⟩ := hok
 have hN := Hh hn
 simp only [Ah] at hsz
 have hpl := EO p
 have hx : ∀ x ∈ p, APure Tryz.prog 70 [encS x] (aI (min (AU x) 5001 : Nat)) := fun x hx => ih x hx (DL hpp x hx) (Fu hop x hx) (by have := EQ x hx; omega)
 by_cases h1 : k = 1
 ·subst h1
  exact K6 1 o m v p (.inl rfl) (by rw [AU]; exact Og o m v p hv)
 by_cases h2 : k = 2
 ·subst h2
  exact K6 2 o m v p (.inr rfl) (by rw [AU]; exact QX o m v p (hN.rng rfl) hN.vals)
 by_cases h5 : k = 5 ∨ k = 12
 ·obtain ⟨x, rfl⟩ := List.length_eq_one_iff.1 (hN.one (by omega) (by omega) (by omega) (by omega) (by omega) (by omega))
  refine Ru k o m v x h5 ?_ (hx x (by simp))
  have hm := hN.num (by rcases h5 with rfl | rfl <;> rfl)
  rcases h5 with rfl | rfl <;> simp [IK, IS, Bj] at hm <;> omega
 by_cases h15 : k = 15
 ·subst h15
  have h2 := hN.two (.inl rfl)
  match p, h2 with
  | [x, y], _ => exact SA o m v x y (hx x (by simp)) (hx y (by simp))
 exact Sx k o m v p h1 h2 (fun e => h5 (.inl e)) (fun e => h5 (.inr e)) h15 (by omega) hx
theorem UH {p : List St} {j q : Nat} {x : St} (h : p[j]? = some x) : (Ge (p.drop j) q).2 = (if (EK x q).2 < 0 then (Ge (p.drop (j + 1)) (q + Ah x)).2 else (EK x q).2) := by
 rw [drop_at h, Ge, P8]
theorem RR {p : List St} {j : Nat} {x : St} (h : p[j]? = some x) : BL (p.drop j) = Ah x + BL (p.drop (j + 1)) := by
 rw [drop_at h, BL]
theorem YI (s : St) : BK s → OY s → Ah s ≤ 60 → ∀ i : Nat, i + Ah s ≤ 100 → APure Tryz.prog 41 [encS s, aI i] (.tup [aI (EK s i).2, aI (Ah s : Nat)]) := by
 refine St.ind (Q := fun s => BK s → OY s → Ah s ≤ 60 → ∀ i : Nat, i + Ah s ≤ 100 → APure Tryz.prog 41 [encS s, aI i] (.tup [aI (EK s i).2, aI (Ah s : Nat)])) ?_ s
 intro k o m v p ih hf hok hsz i hi
 have hbd := VC (.mk k o m v p) hf hok hsz
 obtain ⟨hv, hp, hpp⟩ := hf
 obtain ⟨hn, hop⟩ := hok
 simp only [Ah] at hsz hi
 rw [EK, Ah]
 generalize AU (.mk k o m v p) = B at *
 rw [AN] at hbd ⊢
 have hpl := BM p
 
 refine AA Tryz.func41 A1h rfl fun n H hH => ?_
 repeat' (first | (simp -implicitDefEqProofs [c41, HZ, Hd, HQ, Hi, H8, HC, c41, -getElem?_pos]) | (simp (disch := omega) only [AC]) | (with_reducible first | refine A8 ?_ ?_ ?_ | exact AB | refine SameB.upd ?_ ?_ _ | assumption | refine A2 ?_ | refine KM.of ?_ | refine AD ?_ | refine A3 ?_ | refine A6 ?_ | intro _g _hg | refine AE ?_ ?_ | intro _hc) | omega)
 refine LoopK.go (fun r st => ∃ (j c n1 : Nat) (w : Int) (H1 : A7), j + r = p.length ∧ st = ⟨[(1, aI i), (2, .ptr _g 0), (4, aI w), (5, aI c), (11, .sl 5 (Ac p) .ro), (12, aI p.length), (13, aI j)], n1, H1⟩ ∧ _g < n1 ∧ 1 ≤ c ∧ c + BL (p.drop j) = BL p + 1 ∧ -1 ≤ w ∧ (Ge p (i + 1)).2 = (if w < 0 then (Ge (p.drop j) (i + c)).2 else w) ∧ SameB n H H1 ∧ H1 _g = some (.cells 25 [aI k, aI o, aI m, .sl 1 (v.map aI) .ro, .sl 5 (Ac p) .ro])) p.length ?_ ?_
 ·exact ⟨0, 1, _, -1, _, by omega, by rw [hpl]; rfl, by omega, by omega, by simp; omega, by omega, by simp, by intro q hq; simp only [upd]; (repeat' split) <;> first | rfl | omega, by simp (disch := omega) only [upd_ne, AO]⟩
 rintro r st ⟨j, c, n1, w, H1, hj, rfl, hn1, hc1, hcs, hw, hE, hsame, q1⟩ J hJ
 by_cases hjl : j < p.length
 ·obtain ⟨x, hx'⟩ : ∃ x, p[j]? = some x := ⟨_, List.getElem?_eq_getElem hjl⟩
  have hxm := List.mem_of_getElem? hx'
  have hsm := EQ x hxm
  rw [RR hx'] at hcs
  have hst := ih x hxm (DL hpp x hxm) (Fu hop x hxm) (by omega) (i + c) (by omega)
  have hxe := Fa hx'
  have hxf := BG x
  have hjl' : (j : Int) < p.length := by omega
  have hwx := (JF x (i + c)).1
  rw [UH hx'] at hE
  rw [show ((i + c : Nat) : Int) = i + c from Int.natCast_add _ _] at hst
  generalize (EK x (i + c)).2 = wx at *
  generalize hsx : Ah x = sx at *
  obtain ⟨k', o', m', v', p'⟩ := x
  rw [AN] at hst hxe hxf
  generalize Ac p = ep at *
  generalize Ac p' = ep' at *
  generalize v'.map aI = ev' at *
  by_cases hw0 : w < 0
  ·rw [if_pos hw0] at hE
   
   repeat' (first | (simp -implicitDefEqProofs [HZ, Hd, HQ, Hi, H8, HC, c41, -getElem?_pos, hjl', hxe, hw0, splice]) | (simp (disch := omega) only [AC]) | ((with_reducible refine A9 41 ?_); (refine' CallP.sf ?_ (hst) ?_); (focus first | (with_reducible exact A0 _) | (simp [A5, A4, A1, A0]; done))) | (with_reducible first | refine A8 ?_ ?_ ?_ | exact AB | refine SameB.upd ?_ ?_ _ | assumption | refine A2 ?_ | refine KM.of ?_ | refine AD ?_ | refine A3 ?_ | refine A6 ?_ | intro _g _hg | refine AE ?_ ?_ | intro _hc) | omega)
   exact hJ (r - 1) _ (by omega) ⟨j + 1, c + sx, _, wx, _, by omega, rfl, by omega, by omega, by omega, hwx, by rw [hE, Nat.add_assoc], by intro q hq; simp only [upd]; (repeat' split) <;> first | (exact hsame q hq) | omega, by simp (disch := omega) only [upd_ne]; exact q1⟩
  ·rw [if_neg hw0] at hE
   
   repeat' (first | (simp -implicitDefEqProofs [HZ, Hd, HQ, Hi, H8, HC, c41, -getElem?_pos, hjl', hxe, hw0, splice]) | (simp (disch := omega) only [AC]) | ((with_reducible refine A9 41 ?_); (refine' CallP.sf ?_ (hst) ?_); (focus first | (with_reducible exact A0 _) | (simp [A5, A4, A1, A0]; done))) | (with_reducible first | refine A8 ?_ ?_ ?_ | exact AB | refine SameB.upd ?_ ?_ _ | assumption | refine A2 ?_ | refine KM.of ?_ | refine AD ?_ | refine A3 ?_ | refine A6 ?_ | intro _g _hg | refine AE ?_ ?_ | intro _hc) | omega)
   exact hJ (r - 1) _ (by omega) ⟨j + 1, c + sx, _, w, _, by omega, rfl, by omega, by omega, by omega, hw, by rw [hE, if_neg hw0], by intro q hq; simp only [upd]; (repeat' split) <;> first | (exact hsame q hq) | omega, by simp (disch := omega) only [upd_ne]; exact q1⟩
 ·have hjl' : ¬ (j : Int) < p.length := by omega
  rw [List.drop_eq_nil_of_le (by omega), BL] at hcs
  rw [List.drop_eq_nil_of_le (by omega), Ge] at hE
  have hE' : (Ge p (i + 1)).2 = w := by rw [hE]; split <;> omega
  rw [hE']
  by_cases hB : 5000 < B
  ·rw [if_pos hB]
   have hB' : min B 5001 = 5001 := by omega
   rw [hB'] at hbd
   
   repeat' (first | (simp -implicitDefEqProofs [HZ, Hd, HQ, Hi, H8, HC, c41, -getElem?_pos, hjl', q1, A4, A5]) | (simp (disch := omega) only [AC]) | ((with_reducible refine A9 70 ?_); (refine' CallP.sf ?_ (hbd) ?_); (focus first | (with_reducible exact A0 _) | (simp [A5, A4, A1, A0]; done))) | (with_reducible first | refine A8 ?_ ?_ ?_ | exact AB | refine SameB.upd ?_ ?_ _ | assumption | refine A2 ?_ | refine KM.of ?_ | refine AD ?_ | refine A3 ?_ | refine A6 ?_ | intro _g _hg | refine AE ?_ ?_ | intro _hc) | omega)
   all_goals first | omega | exact hsame | (refine BJ ?_; grind)
  ·rw [if_neg hB]
   have hB' : min B 5001 = B := by omega
   have hB2 : ¬ (5000 : Int) < B := by omega
   rw [hB'] at hbd
   
   repeat' (first | (simp -implicitDefEqProofs [HZ, Hd, HQ, Hi, H8, HC, c41, -getElem?_pos, hjl', q1, hB2, A4, A5]) | (simp (disch := omega) only [AC]) | ((with_reducible refine A9 70 ?_); (refine' CallP.sf ?_ (hbd) ?_); (focus first | (with_reducible exact A0 _) | (simp [A5, A4, A1, A0]; done))) | (with_reducible first | refine A8 ?_ ?_ ?_ | exact AB | refine SameB.upd ?_ ?_ _ | assumption | refine A2 ?_ | refine KM.of ?_ | refine AD ?_ | refine A3 ?_ | refine A6 ?_ | intro _g _hg | refine AE ?_ ?_ | intro _hc) | omega)
   all_goals first | omega | exact hsame | (refine BJ ?_; grind)
mutual
theorem Rq : ∀ (s : St) (i : Nat), OY s → i + Ah s ≤ 60 → Dc s i = (i + Ah s, 0)
 | .mk k o n v p, i, ⟨h1, h2⟩, h3 => by
  simp only [Ah] at h3 ⊢
  rw [Dc, if_neg (by omega), if_neg (by simpa using h1), QM p (i + 1) h2 (by omega)]
  exact Prod.ext (by simp only []; omega) rfl
theorem QM : ∀ (p : List St) (i : Nat), Zw p → i + BL p ≤ 60 → I8 p i = (i + BL p, 0)
 | [], i, _, _ => rfl
 | s :: r, i, ⟨h1, h2⟩, h3 => by
  simp only [BL] at h3 ⊢
  have h4 := Rq s i h1 (by omega)
  rw [I8, h4, if_neg (by simp), QM r (i + Ah s) h2 (by omega)]
  exact Prod.ext (by simp only []; omega) rfl
end
theorem DY {s : St} (h1 : OY s) (h2 : T1 s) (h3 : Ah s ≤ 60) : Am s = (0, 0) := by
 unfold Am
 rw [Rq s 0 h1 (by omega), if_neg (by simp), if_neg (by have := (JF s 0).2.2 h2; omega)]
theorem PK : ∀ Fs : List Fut, GH (De Fs) = (Fs.map GH).flatten
 | [] => rfl
 | F :: Fs => by
  have ih := PK Fs
  simp only [GH, De, List.map_append, List.map_map, List.map_cons, List.flatten_cons] at ih ⊢
  rw [← ih]
  rfl
theorem UD (p : Int → Bool) : ∀ (l : Aw) (fin : Ad), (Fk p l fin).1.map (·.1) ++ (IG p l).map (·.1) = l.map (·.1)
 | [], _ => rfl
 | (x, c) :: r, fin => by
  simp only [Fk, IG]
  split
  ·simp [UD p r fin]
  ·simp
abbrev AX (k o n : Int) (s : St) : St := .mk k o n [] [s]
abbrev Aj (k o : Int) (s t : St) : St := .mk k o 0 [] [s, t]
theorem Xk {s : St} {n : Int} (h : Am s = (0, 0)) (hz : Ah s ≤ 28) (hb : AU s ≤ 2500) (hn : 0 ≤ n ∧ n ≤ 5000) :
  Am (Aj 13 0 (AX 5 0 n s) (AX 6 0 n s)) = (0, 0) ∧ GH (AQ (Aj 13 0 (AX 5 0 n s) (AX 6 0 n s))) = GH (AQ s) := by
 obtain ⟨_, h1, h2, h3⟩ := Az (s := s) (by rw [h])
 refine ⟨DY ⟨?_, ⟨?_, h1, trivial⟩, ⟨?_, h1, trivial⟩, trivial⟩ ⟨?_, ⟨?_, h2, trivial⟩, ⟨?_, h2, trivial⟩, trivial⟩ ?_, ?_⟩
 ·simp [Ar, Bi, CX, Ea, EZ, I6, Bj, EL, Ai]
 ·simp [Ar, Bi, CX, Ea, EZ, I6, Bj, EL, Ai, IK, IS, hn]
 ·simp [Ar, Bi, CX, Ea, EZ, I6, Bj, EL, Ai, IK, IS, hn]
 ·simp [AU, Df, Bg]; omega
 ·simp [AU, Df, Bg]; omega
 ·simp [AU, Df, Bg]; omega
 ·simp [Ah, BL]; omega
 ·have e : AQ (Aj 13 0 (AX 5 0 n s) (AX 6 0 n s)) = De [Bq 5 0 n (AQ s), Bq 6 0 n (AQ s)] := by simp [AQ, Fb, DE]
  rw [e, PK]
  simp [GH, Bq, XQ]
theorem VR {s : St} {o n : Int} (h : Am s = (0, 0)) (hz : Ah s ≤ 28) (hb : AU s ≤ 2500) (ho : 1 ≤ o ∧ o ≤ 3) (hn : 1 ≤ n ∧ n ≤ 9999) :
  Am (Aj 13 0 (AX 7 o n s) (AX 8 o n s)) = (0, 0) ∧ GH (AQ (Aj 13 0 (AX 7 o n s) (AX 8 o n s))) = GH (AQ s) := by
 obtain ⟨_, h1, h2, h3⟩ := Az (s := s) (by rw [h])
 refine ⟨DY ⟨?_, ⟨?_, h1, trivial⟩, ⟨?_, h1, trivial⟩, trivial⟩ ⟨?_, ⟨?_, h2, trivial⟩, ⟨?_, h2, trivial⟩, trivial⟩ ?_, ?_⟩
 ·simp [Ar, Bi, CX, Ea, EZ, I6, Bj, EL, Ai]
 ·simp [Ar, Bi, CX, Ea, EZ, I6, Bj, EL, Ai, IK, IS]; grind
 ·simp [Ar, Bi, CX, Ea, EZ, I6, Bj, EL, Ai, IK, IS]; grind
 ·simp [AU, Df, Bg]; omega
 ·simp [AU, Df, Bg]; omega
 ·simp [AU, Df, Bg]; omega
 ·simp [Ah, BL]; omega
 ·have e : AQ (Aj 13 0 (AX 7 o n s) (AX 8 o n s)) = De [Bq 7 o n (AQ s), Bq 8 o n (AQ s)] := by simp [AQ, Fb, DE]
  rw [e, PK]
  simpa [GH, Bq] using UD (fun x => GZ o x n) (AQ s).l (AQ s).fin
theorem RO (f : Int → Int) : ∀ (m : Nat) (q : List (Nat × Aw × Ad)) (cs : List Ad), EM m (q.map fun e => (e.1, e.2.1.map (fun d => (f d.1, d.2)), e.2.2)) cs = ((EM m q cs).1.map (fun d => (f d.1, d.2)), (EM m q cs).2)
 | 0, _, _ => rfl
 | _ + 1, [], _ => rfl
 | m + 1, (i, [], fin) :: q, cs => by
  simp only [List.map_cons, List.map_nil, EM]
  exact RO f m q _
 | m + 1, (i, (x, c) :: r, fin) :: q, cs => by
  have := RO f m (q ++ [(i, r, fin)]) (cs.set i c)
  simp only [List.map_append, List.map_cons, List.map_nil] at this
  simp only [List.map_cons, EM]
  rw [this]
theorem VJ {s t : St} {f n : Int} (h : Am (Aj 13 0 s t) = (0, 0)) (hz : Ah s + Ah t ≤ 50) (hf : 1 ≤ f ∧ f ≤ 6) (hn : 1 ≤ n ∧ n ≤ 9999) :
  Am (AX 3 f n (Aj 14 0 s t)) = (0, 0) ∧ Am (Aj 14 0 (AX 3 f n s) (AX 3 f n t)) = (0, 0) ∧ GH (AQ (AX 3 f n (Aj 14 0 s t))) = GH (AQ (Aj 14 0 (AX 3 f n s) (AX 3 f n t))) := by
 obtain ⟨_, h1, h2, h3⟩ := Az (s := Aj 13 0 s t) (by rw [h])
 obtain ⟨_, h1s, h1t, _⟩ := h1
 obtain ⟨hb, h2s, h2t, _⟩ := h2
 simp [AU, Df, Bg] at hb
 refine ⟨DY ⟨?_, ⟨?_, h1s, h1t, trivial⟩, trivial⟩ ⟨?_, ⟨?_, h2s, h2t, trivial⟩, trivial⟩ ?_, DY ⟨?_, ⟨?_, h1s, trivial⟩, ⟨?_, h1t, trivial⟩, trivial⟩ ⟨?_, ⟨?_, h2s, trivial⟩, ⟨?_, h2t, trivial⟩, trivial⟩ ?_, ?_⟩
 ·simp [Ar, Bi, CX, Ea, EZ, I6, Bj, EL, Ai, IK, IS]; grind
 ·simp [Ar, Bi, CX, Ea, EZ, I6, Bj, EL, Ai]
 ·simp [AU, Df, Bg]; omega
 ·simp [AU, Df, Bg]; omega
 ·simp [Ah, BL]; omega
 ·simp [Ar, Bi, CX, Ea, EZ, I6, Bj, EL, Ai]
 ·simp [Ar, Bi, CX, Ea, EZ, I6, Bj, EL, Ai, IK, IS]; grind
 ·simp [Ar, Bi, CX, Ea, EZ, I6, Bj, EL, Ai, IK, IS]; grind
 ·simp [AU, Df, Bg]; omega
 ·simp [AU, Df, Bg]; omega
 ·simp [AU, Df, Bg]; omega
 ·simp [Ah, BL]; omega
 ·have e1 : AQ (AX 3 f n (Aj 14 0 s t)) = Bq 3 f n (JA [AQ s, AQ t]) := by simp [AQ, Fb, DE]
  have e2 : AQ (Aj 14 0 (AX 3 f n s) (AX 3 f n t)) = JA [Bq 3 f n (AQ s), Bq 3 f n (AQ t)] := by simp [AQ, Fb, DE]
  rw [e1, e2]
  have := RO (fun x => Dn f x n) (RY [AQ s, AQ t]) [(0, (AQ s).l, (AQ s).fin), (1, (AQ t).l, (AQ t).fin)] [(AQ s).cur, (AQ t).cur]
  simp only [List.map_cons, List.map_nil] at this
  simp only [GH, Bq, JA, RY, List.zipIdx_cons, List.zipIdx_nil, List.map_cons, List.map_nil, if_true, List.length_map] at this ⊢
  rw [this]
theorem RB {s t : St} {o n : Int} (h : Am (Aj 13 0 s t) = (0, 0)) (hz : Ah s + Ah t ≤ 50) (ho : 1 ≤ o ∧ o ≤ 3) (hn : 1 ≤ n ∧ n ≤ 9999) :
  Am (AX 4 o n (Aj 13 0 s t)) = (0, 0) ∧ Am (Aj 13 0 (AX 4 o n s) (AX 4 o n t)) = (0, 0) ∧ GH (AQ (AX 4 o n (Aj 13 0 s t))) = GH (AQ (Aj 13 0 (AX 4 o n s) (AX 4 o n t))) := by
 obtain ⟨_, h1, h2, h3⟩ := Az (s := Aj 13 0 s t) (by rw [h])
 obtain ⟨h10, h1s, h1t, _⟩ := h1
 obtain ⟨hb, h2s, h2t, _⟩ := h2
 simp [AU, Df, Bg] at hb
 refine ⟨DY ⟨?_, ⟨h10, h1s, h1t, trivial⟩, trivial⟩ ⟨?_, ⟨?_, h2s, h2t, trivial⟩, trivial⟩ ?_, DY ⟨?_, ⟨?_, h1s, trivial⟩, ⟨?_, h1t, trivial⟩, trivial⟩ ⟨?_, ⟨?_, h2s, trivial⟩, ⟨?_, h2t, trivial⟩, trivial⟩ ?_, ?_⟩
 ·simp [Ar, Bi, CX, Ea, EZ, I6, Bj, EL, Ai, IK, IS]; grind
 ·simp [AU, Df, Bg]; omega
 ·simp [AU, Df, Bg]; omega
 ·simp [Ah, BL]; omega
 ·simp [Ar, Bi, CX, Ea, EZ, I6, Bj, EL, Ai]
 ·simp [Ar, Bi, CX, Ea, EZ, I6, Bj, EL, Ai, IK, IS]; grind
 ·simp [Ar, Bi, CX, Ea, EZ, I6, Bj, EL, Ai, IK, IS]; grind
 ·simp [AU, Df, Bg]; omega
 ·simp [AU, Df, Bg]; omega
 ·simp [AU, Df, Bg]; omega
 ·simp [Ah, BL]; omega
 ·have e1 : AQ (AX 4 o n (Aj 13 0 s t)) = Bq 4 o n (De [AQ s, AQ t]) := by simp [AQ, Fb, DE]
  have e2 : AQ (Aj 13 0 (AX 4 o n s) (AX 4 o n t)) = De [Bq 4 o n (AQ s), Bq 4 o n (AQ t)] := by simp [AQ, Fb, DE]
  rw [e1, e2, PK]
  have hfm : ∀ l : Aw, (l.filter fun e => GZ o e.1 n).map (·.1) = (l.map (·.1)).filter fun x => GZ o x n := fun l => by rw [List.filter_map]; rfl
  have := PK [AQ s, AQ t]
  simp only [GH, List.map_cons, List.map_nil, List.flatten_cons, List.flatten_nil, List.append_nil] at this ⊢
  have hk : ∀ F : Fut, (Bq 4 o n F).l = F.l.filter fun e => GZ o e.1 n := fun F => by simp [Bq]
  rw [hk, hk, hk, hfm, hfm, hfm, this, List.filter_append]
theorem FU (s : St) (hf : BK s) : APure Tryz.prog 15 [encS s] (aF (Am s)) := by
 have hvis := Yy s hf 0 (by omega)
 have hlg : (Dc s 0).2 = 0 → APure Tryz.prog 41 [encS s, aI 0] (.tup [aI (EK s 0).2, aI (Ah s : Nat)]) := fun h => by
  obtain ⟨h1, h2, h3⟩ := LA s 0 h
  exact YI s hf h1 (by omega) 0 (by omega)
 have hw := (JF s 0).1
 unfold Am
 unfold RT at hvis
 unfold R8 RW at hvis
 generalize Dc s 0 = sg at *
 generalize EK s 0 = wd at *
 generalize Ah s = sz at *
 obtain ⟨k, o, m, v, p⟩ := s
 rw [AN] at *
 generalize v.map aI = va at *
 generalize Ac p = ep at *
 
 refine AA Tryz.func15 A13 rfl fun n H hH => ?_
 by_cases h0 : sg.2 = 0
 ·have hlg := hlg h0
  rw [if_neg (by simpa using h0)] at *
  rw [if_neg (by simpa using h0)] at hvis
  repeat' (first | (simp -implicitDefEqProofs [QC, QB, c15, -getElem?_pos, splice, A4, A5]) | (simp (disch := omega) only [AC]) | ((with_reducible refine Ae 39 ?_); refine ⟨_, Fj _ _, ?_⟩; rintro r n' H' hle hsup ⟨gm, rfl, hg1, rfl, rfl⟩; dsimp only at hg1 hle) | ((with_reducible refine Ae 40 ?_); (refine' CallK.sfU ?_ ((hvis _g gm _ _ (by simp (disch := omega) only [upd_ne, AO] <;> rfl) (by simp (disch := omega) only [upd_ne, AO] <;> rfl))) ?_); (focus first | (with_reducible exact A0 _) | (simp [A5, A4, A1, A0]; done))) | ((with_reducible refine A9 41 ?_); (refine' CallP.sf ?_ (hlg) ?_); (focus first | (with_reducible exact A0 _) | (simp [A5, A4, A1, A0]; done))) | (with_reducible first | refine A8 ?_ ?_ ?_ | exact AB | refine SameB.upd ?_ ?_ _ | assumption | refine A2 ?_ | refine KM.of ?_ | refine AD ?_ | refine A3 ?_ | refine A6 ?_ | intro _g _hg | refine AE ?_ ?_ | intro _hc) | omega)
 ·rw [if_pos h0] at *
  rw [if_pos h0] at hvis
  repeat' (first | (simp -implicitDefEqProofs [QC, QB, c15, -getElem?_pos, h0, splice, A4, A5]) | (simp (disch := omega) only [AC]) | ((with_reducible refine Ae 39 ?_); refine ⟨_, Fj _ _, ?_⟩; rintro r n' H' hle hsup ⟨gm, rfl, hg1, rfl, rfl⟩; dsimp only at hg1 hle) | ((with_reducible refine Ae 40 ?_); (refine' CallK.sfU ?_ ((hvis _g gm _ _ (by simp (disch := omega) only [upd_ne, AO] <;> rfl) (by simp (disch := omega) only [upd_ne, AO] <;> rfl))) ?_); (focus first | (with_reducible exact A0 _) | (simp [A5, A4, A1, A0]; done))) | (with_reducible first | refine A8 ?_ ?_ ?_ | exact AB | refine SameB.upd ?_ ?_ _ | assumption | refine A2 ?_ | refine KM.of ?_ | refine AD ?_ | refine A3 ?_ | refine A6 ?_ | intro _g _hg | refine AE ?_ ?_ | intro _hc) | omega)
theorem Ve (k o m : Int) (v : List Int) (x : St) (hk : k = 5 ∨ k = 12) (hm : 0 ≤ m ∧ m ≤ 5000) (hb : AU x ≤ 5000) (hx : APure Tryz.prog 36 [encS x] (aI (AU x : Nat))) : APure Tryz.prog 36 [encS (.mk k o m v [x])] (aI (AU (.mk k o m v [x]) : Nat)) := by
 have hxf := BG x
 have hbb : AU (.mk k o m v [x]) = Bg k m v [AU x] := by rw [AU]; rfl
 rw [hbb]
 generalize AU x = b at *
 obtain ⟨m', rfl⟩ : ∃ m' : Nat, m = m' := ⟨m.toNat, by omega⟩
 rw [AN, Ac, Ac]
 generalize encS x = ex at *
 rcases hk with rfl | rfl
 ·have hz : Bg 5 m' v [b] = min m' b := by simp [Bg]
  rw [hz]
  
  refine AA Tryz.func36 Pr rfl fun n H hH => ?_
  repeat' (first | (simp -implicitDefEqProofs [EB, EC, Dt, E8, Du, EG, EA, Dx, Dw, c36, -getElem?_pos, hxf, -AV.fits, A4, A5]) | (simp (disch := omega) only [AC]) | ((with_reducible refine A9 36 ?_); (refine' CallP.sf ?_ (hx) ?_); (focus first | (with_reducible exact A0 _) | (simp [A5, A4, A1, A0]; done))) | (with_reducible first | refine A8 ?_ ?_ ?_ | exact AB | refine SameB.upd ?_ ?_ _ | assumption | refine A2 ?_ | refine KM.of ?_ | refine AD ?_ | refine A3 ?_ | refine A6 ?_ | intro _g _hg | refine AE ?_ ?_ | intro _hc) | omega)
  all_goals first | omega | (refine BJ ?_; grind)
 ·have hz : Bg 12 m' v [b] = m' * b := by simp [Bg]
  rw [hz]
  have hmb : m' * b ≤ 5000 * 5001 := Nat.mul_le_mul (by omega) (by omega)
  have hmc : ((m' * b : Nat) : Int) = (m' : Int) * b := Int.natCast_mul _ _
  have hw : IntKind.i64.wrap ((m' : Int) * b) = ((m' * b : Nat) : Int) := by rw [← hmc, IntWalk.i64_in _ (by omega)]
  
  refine AA Tryz.func36 Pr rfl fun n H hH => ?_
  repeat' (first | (simp -implicitDefEqProofs [EB, EC, Dt, E8, Du, EG, EA, Dx, Dw, c36, -getElem?_pos, hxf, hw, -AV.fits, A4, A5]) | (simp (disch := omega) only [AC]) | ((with_reducible refine A9 36 ?_); (refine' CallP.sf ?_ (hx) ?_); (focus first | (with_reducible exact A0 _) | (simp [A5, A4, A1, A0]; done))) | (with_reducible first | refine A8 ?_ ?_ ?_ | exact AB | refine SameB.upd ?_ ?_ _ | assumption | refine A2 ?_ | refine KM.of ?_ | refine AD ?_ | refine A3 ?_ | refine A6 ?_ | intro _g _hg | refine AE ?_ ?_ | intro _hc) | omega)
  all_goals first | omega | (refine BJ ?_; grind)
theorem Vp (o m : Int) (v : List Int) (x y : St) (hx : APure Tryz.prog 36 [encS x] (aI (AU x : Nat))) (hy : APure Tryz.prog 36 [encS y] (aI (AU y : Nat))) : APure Tryz.prog 36 [encS (.mk 15 o m v [x, y])] (aI (AU (.mk 15 o m v [x, y]) : Nat)) := by
 have hxf := BG x
 have hyf := BG y
 have hbb : AU (.mk 15 o m v [x, y]) = min (AU x) (AU y) := by simp [AU, Df, Bg]
 rw [hbb]
 generalize AU x = b at *
 generalize AU y = c at *
 rw [AN, Ac, Ac, Ac]
 generalize encS x = ex at *
 generalize encS y = ey at *
 
 refine AA Tryz.func36 Pr rfl fun n H hH => ?_
 repeat' (first | (simp -implicitDefEqProofs [EB, EC, Dt, E8, Du, EG, EA, Dx, Dw, c36, -getElem?_pos, hxf, hyf, -AV.fits, A4, A5]) | (simp (disch := omega) only [AC]) | ((with_reducible refine A9 36 ?_); (refine' CallP.sf ?_ (hx) ?_); (focus first | (with_reducible exact A0 _) | (simp [A5, A4, A1, A0]; done))) | ((with_reducible refine A9 36 ?_); (refine' CallP.sf ?_ (hy) ?_); (focus first | (with_reducible exact A0 _) | (simp [A5, A4, A1, A0]; done))) | (with_reducible first | refine A8 ?_ ?_ ?_ | exact AB | refine SameB.upd ?_ ?_ _ | assumption | refine A2 ?_ | refine KM.of ?_ | refine AD ?_ | refine A3 ?_ | refine A6 ?_ | intro _g _hg | refine AE ?_ ?_ | intro _hc) | omega)
 all_goals first | omega | (refine BJ ?_; grind)
theorem Ut (k o m : Int) (v : List Int) (p : List St) (h1 : k ≠ 1) (h2 : k ≠ 2) (h5 : k ≠ 5) (h12 : k ≠ 12) (h15 : k ≠ 15) (hp : p.length ≤ 60) (hbs : ∀ x ∈ p, AU x ≤ 5000) (hx : ∀ x ∈ p, APure Tryz.prog 36 [encS x] (aI (AU x : Nat))) : APure Tryz.prog 36 [encS (.mk k o m v p)] (aI (AU (.mk k o m v p) : Nat)) := by
 have hb : AU (.mk k o m v p) = (p.map AU).sum := by
  rw [AU, Hb]
  simp [Bg, h1, h2, h5, h12, h15]
 have hcl : ∀ i, ((p.map AU).take i).sum ≤ 300000 := by
  intro i
  have g : ∀ l : List Nat, (∀ x ∈ l, x ≤ 5000) → l.sum ≤ l.length * 5000 := by
   intro l hl
   induction l with
   | nil => simp
   | cons a r ih =>
    have h1 := hl a (by simp)
    have h2 := ih fun x hx => hl x (by simp [hx])
    simp only [List.sum_cons, List.length_cons, Nat.succ_mul]
    omega
  have h1 := g ((p.map AU).take i) (by
   intro x hx
   obtain ⟨s, hs, rfl⟩ := List.mem_map.1 (List.mem_of_mem_take hx)
   exact hbs s hs)
  have h2 : ((p.map AU).take i).length ≤ 60 := by simp; omega
  omega
 have hpl := BM p
 rw [hb]
 rw [AN]
 
 refine AA Tryz.func36 Pr rfl fun n H hH => ?_
 repeat' (first | (simp -implicitDefEqProofs [c36, EB, EC, Dt, E8, Du, EG, EA, Dx, Dw, c36, -getElem?_pos, h1, h2, h5, h12, h15]) | (simp (disch := omega) only [AC]) | (with_reducible first | refine A8 ?_ ?_ ?_ | exact AB | refine SameB.upd ?_ ?_ _ | assumption | refine A2 ?_ | refine KM.of ?_ | refine AD ?_ | refine A3 ?_ | refine A6 ?_ | intro _g _hg | refine AE ?_ ?_ | intro _hc) | omega)
 refine LoopK.go (fun r st => ∃ (j n1 : Nat) (H1 : A7), j + r = p.length ∧ st = ⟨[(3, aI (((p.map AU).take j).sum : Nat)), (70, .sl 5 (Ac p) .ro), (71, aI p.length), (72, aI j)], n1, H1⟩ ∧ n ≤ n1 ∧ SameB n H H1) p.length ⟨0, _, _, by omega, by simp [hpl]; exact ⟨rfl, rfl⟩, by omega, by intro q hq; simp only [upd]; (repeat' split) <;> first | rfl | omega⟩ ?_
 rintro r st ⟨j, n1, H1, hj, rfl, hn1, hsame⟩ J hJ
 by_cases hjl : j < p.length
 ·obtain ⟨x, hx'⟩ : ∃ x, p[j]? = some x := ⟨_, List.getElem?_eq_getElem hjl⟩
  have hb := hx x (List.mem_of_getElem? hx')
  have hbx := hbs x (List.mem_of_getElem? hx')
  have hxe := Fa hx'
  have hxf := BG x
  have hjl' : (j : Int) < p.length := by omega
  have hs := PM (l := p.map AU) (i := j) (x := AU x) (by rw [List.getElem?_map, hx']; rfl)
  have hc1 := hcl j
  generalize ((p.map AU).take j).sum = a at *
  generalize AU x = b at *
  obtain ⟨k', o', m', v', p'⟩ := x
  rw [AN] at hb hxe hxf
  generalize Ac p = ep at *
  generalize Ac p' = ep' at *
  generalize v'.map aI = ev' at *
  
  repeat' (first | (simp -implicitDefEqProofs [EB, EC, Dt, E8, Du, EG, EA, Dx, Dw, c36, -getElem?_pos, hjl', hxe, splice]) | (simp (disch := omega) only [AC]) | ((with_reducible refine A9 36 ?_); (refine' CallP.sf ?_ (hb) ?_); (focus first | (with_reducible exact A0 _) | (simp [A5, A4, A1, A0]; done))) | (with_reducible first | refine A8 ?_ ?_ ?_ | exact AB | refine SameB.upd ?_ ?_ _ | assumption | refine A2 ?_ | refine KM.of ?_ | refine AD ?_ | refine A3 ?_ | refine A6 ?_ | intro _g _hg | refine AE ?_ ?_ | intro _hc) | omega)
  exact hJ (r - 1) _ (by omega) ⟨j + 1, _, _, by omega, by rw [hs]; rfl, by omega, by intro q hq; simp only [upd]; (repeat' split) <;> first | (exact hsame q hq) | omega⟩
 ·have hjl' : ¬ (j : Int) < p.length := by omega
  have e : (p.map AU).take j = p.map AU := List.take_of_length_le (by simp; omega)
  rw [e]
  generalize (p.map AU).sum = a at *
  
  repeat' (first | (simp -implicitDefEqProofs [EB, EC, Dt, E8, Du, EG, EA, Dx, Dw, c36, -getElem?_pos, hjl', A4, A5]) | (simp (disch := omega) only [AC]) | (with_reducible first | refine A8 ?_ ?_ ?_ | exact AB | refine SameB.upd ?_ ?_ _ | assumption | refine A2 ?_ | refine KM.of ?_ | refine AD ?_ | refine A3 ?_ | refine A6 ?_ | intro _g _hg | refine AE ?_ ?_ | intro _hc) | omega)
  all_goals first | omega | exact hsame | (refine BJ ?_; grind)
theorem YL (s : St) : BK s → OY s → T1 s → Ah s ≤ 60 → APure Tryz.prog 36 [encS s] (aI (AU s : Nat)) := by
 refine St.ind (Q := fun s => BK s → OY s → T1 s → Ah s ≤ 60 → APure Tryz.prog 36 [encS s] (aI (AU s : Nat))) ?_ s
 intro k o m v p ih hf hok hsm hsz
 obtain ⟨hv, hp, hpp⟩ := hf
 obtain ⟨hn, hop⟩ := hok
 have hN := Hh hn
 simp only [Ah] at hsz
 have hpl := EO p
 have hbs : ∀ x ∈ p, AU x ≤ 5000 := fun x hx => by have := KA hsm.2 x hx; cases x; exact this.1
 have hx : ∀ x ∈ p, APure Tryz.prog 36 [encS x] (aI (AU x : Nat)) := fun x hx => ih x hx (DL hpp x hx) (Fu hop x hx) (KA hsm.2 x hx) (by have := EQ x hx; omega)
 by_cases h1 : k = 1
 ·subst h1
  rw [AU]; exact Og o m v p hv
 by_cases h2 : k = 2
 ·subst h2
  rw [AU]; exact QX o m v p (hN.rng rfl) hN.vals
 by_cases h5 : k = 5 ∨ k = 12
 ·obtain ⟨x, rfl⟩ := List.length_eq_one_iff.1 (hN.one (by omega) (by omega) (by omega) (by omega) (by omega) (by omega))
  refine Ve k o m v x h5 ?_ (hbs x (by simp)) (hx x (by simp))
  have hm := hN.num (by rcases h5 with rfl | rfl <;> rfl)
  rcases h5 with rfl | rfl <;> simp [IK, IS, Bj] at hm <;> omega
 by_cases h15 : k = 15
 ·subst h15
  have h2 := hN.two (.inl rfl)
  match p, h2 with
  | [x, y], _ => exact Vp o m v x y (hx x (by simp)) (hx y (by simp))
 exact Ut k o m v p h1 h2 (fun e => h5 (.inl e)) (fun e => h5 (.inr e)) h15 (by omega) hbs hx
abbrev Ed (s : St) : Prop := APure Tryz.prog 17 [encS s] (aI (min (AU s) 100000 : Nat))
theorem Ur (o m : Int) (v : List Int) (p : List St) (hv : v.length ≤ 140737488355328) : Ed (.mk 1 o m v p) := by
 unfold Ed
 have hb : AU (.mk 1 o m v p) = v.length := by simp [AU, Bg]
 rw [hb]
 have hvl : (v.map aI).length = v.length := by simp
 rw [AN]
 generalize v.map aI = va at *
 by_cases h : 100000 < v.length
 ·have h' : (100000 : Int) < v.length := by omega
  have e : min v.length 100000 = 100000 := by omega
  rw [e]
  
  refine AA Tryz.func17 Qc rfl fun n H hH => ?_
  repeat' (first | (simp -implicitDefEqProofs [Bc, BS, BR, BU, BO, Bd, BY, BZ, BW, B9, B8, BA, BB, B5, B6, c17, -getElem?_pos, hvl, h, h', A4, A5]) | (simp (disch := omega) only [AC]) | (with_reducible first | refine A8 ?_ ?_ ?_ | exact AB | refine SameB.upd ?_ ?_ _ | assumption | refine A2 ?_ | refine KM.of ?_ | refine AD ?_ | refine A3 ?_ | refine A6 ?_ | intro _g _hg | refine AE ?_ ?_ | intro _hc) | omega)
 ·have h' : ¬ (100000 : Int) < v.length := by omega
  have e : min v.length 100000 = v.length := by omega
  rw [e]
  
  refine AA Tryz.func17 Qc rfl fun n H hH => ?_
  repeat' (first | (simp -implicitDefEqProofs [Bc, BS, BR, BU, BO, Bd, BY, BZ, BW, B9, B8, BA, BB, B5, B6, c17, -getElem?_pos, hvl, h, h', A4, A5]) | (simp (disch := omega) only [AC]) | (with_reducible first | refine A8 ?_ ?_ ?_ | exact AB | refine SameB.upd ?_ ?_ _ | assumption | refine A2 ?_ | refine KM.of ?_ | refine AD ?_ | refine A3 ?_ | refine A6 ?_ | intro _g _hg | refine AE ?_ ?_ | intro _hc) | omega)
theorem X6 (o m a b c : Int) (p : List St) (hv : 0 ≤ a ∧ a ≤ 9999 ∧ 0 ≤ b ∧ b ≤ 10000 ∧ 1 ≤ c ∧ c ≤ 9999) : Ed (.mk 2 o m [a, b, c] p) := by
 unfold Ed
 have hb : AU (.mk 2 o m [a, b, c] p) = He [a, b, c] := by simp [AU, Bg]
 have hbd := RX hv
 rw [hb]
 have e : min (He [a, b, c]) 100000 = He [a, b, c] := by omega
 rw [e]
 rw [AN]
 generalize Ac p = ep
 
 refine AA Tryz.func17 Qc rfl fun n H hH => ?_
 repeat' (first | (simp -implicitDefEqProofs [c17, Bc, BS, BR, BU, BO, Bd, BY, BZ, BW, B9, B8, BA, BB, B5, B6, c17, -getElem?_pos]) | (simp (disch := omega) only [AC]) | (with_reducible first | refine A8 ?_ ?_ ?_ | exact AB | refine SameB.upd ?_ ?_ _ | assumption | refine A2 ?_ | refine KM.of ?_ | refine AD ?_ | refine A3 ?_ | refine A6 ?_ | intro _g _hg | refine AE ?_ ?_ | intro _hc) | omega)
 refine LoopK.go (fun r st => ∃ (j n1 : Nat) (H1 : A7), j + r = He [a, b, c] ∧ st = ⟨[(1, .ptr _g 0), (3, aI j), (4, aI (a + (j : Int) * c))], n1, H1⟩ ∧ _g < n1 ∧ SameB n H H1 ∧ H1 _g = some (Ab 2 o m (.sl 1 [aI a, aI b, aI c] .ro) (.sl 5 ep .ro))) (He [a, b, c]) ⟨0, _, _, by omega, by simp; exact ⟨rfl, rfl⟩, by omega, by intro q hq; simp only [upd]; (repeat' split) <;> first | rfl | omega, AO _ _ _⟩ ?_
 rintro r st ⟨j, n1, H1, hj, rfl, hn1, hsame, q1⟩ J hJ
 by_cases hjl : j < He [a, b, c]
 ·have hlt := (R7 (a := a) (b := b) hv.2.2.2.2.1 j).2 hjl
  have hw : IntKind.i64.wrap (a + (j : Int) * c + c) = a + ((j + 1 : Nat) : Int) * c := by
   have h0 : 0 ≤ (j : Int) * c := Int.mul_nonneg (by omega) (by omega)
   have e : ((j + 1 : Nat) : Int) * c = (j : Int) * c + c := by rw [Int.natCast_add, Int.add_mul]; simp
   rw [IntWalk.i64_in _ (by omega), e]; omega
  have hw2 : IntKind.i64.wrap ((j : Int) + 1) = ((j + 1 : Nat) : Int) := by rw [IntWalk.i64_in _ (by omega)]; omega
  generalize hx1 : a + ((j + 1 : Nat) : Int) * c = x1 at *
  generalize a + (j : Int) * c = x at *
  generalize hj1 : ((j + 1 : Nat) : Int) = j1 at *
  
  repeat' (first | (simp -implicitDefEqProofs [Bc, BS, BR, BU, BO, Bd, BY, BZ, BW, B9, B8, BA, BB, B5, B6, c17, -getElem?_pos, q1, hlt, hw, hw2, splice]) | (simp (disch := omega) only [AC]) | (with_reducible first | refine A8 ?_ ?_ ?_ | exact AB | refine SameB.upd ?_ ?_ _ | assumption | refine A2 ?_ | refine KM.of ?_ | refine AD ?_ | refine A3 ?_ | refine A6 ?_ | intro _g _hg | refine AE ?_ ?_ | intro _hc) | omega)
  exact hJ (r - 1) _ (by omega) ⟨j + 1, _, _, by omega, by rw [hj1, hx1], hn1, hsame, q1⟩
 ·have hlt : ¬ a + (j : Int) * c < b := fun h => hjl ((R7 hv.2.2.2.2.1 j).1 h)
  have ej : j = He [a, b, c] := by omega
  have hfar : ¬ (100000 : Int) < j := by omega
  rw [← ej]
  generalize a + (j : Int) * c = x at *
  
  repeat' (first | (simp -implicitDefEqProofs [Bc, BS, BR, BU, BO, Bd, BY, BZ, BW, B9, B8, BA, BB, B5, B6, c17, -getElem?_pos, q1, hlt, hfar, A4, A5]) | (simp (disch := omega) only [AC]) | (with_reducible first | refine A8 ?_ ?_ ?_ | exact AB | refine SameB.upd ?_ ?_ _ | assumption | refine A2 ?_ | refine KM.of ?_ | refine AD ?_ | refine A3 ?_ | refine A6 ?_ | intro _g _hg | refine AE ?_ ?_ | intro _hc) | omega)
  all_goals first | exact hsame | omega
theorem XJ (o m : Int) (v : List Int) (x y : St) (hx : Ed x) (hy : Ed y) : Ed (.mk 15 o m v [x, y]) := by
 unfold Ed at *
 have hxf := BG x
 have hyf := BG y
 have hb : min (AU (.mk 15 o m v [x, y])) 100000 = min (min (AU x) 100000) (min (AU y) 100000) := by
  simp [AU, Df, Bg]; omega
 rw [hb]
 obtain ⟨b, hb'⟩ : ∃ b, min (AU x) 100000 = b := ⟨_, rfl⟩
 obtain ⟨c, hc'⟩ : ∃ c, min (AU y) 100000 = c := ⟨_, rfl⟩
 have hb5 : b ≤ 100000 := by omega
 have hc5 : c ≤ 100000 := by omega
 rw [hb'] at hx ⊢
 rw [hc'] at hy ⊢
 rw [AN, Ac, Ac, Ac]
 generalize encS x = ex at *
 generalize encS y = ey at *
 by_cases h : c < b
 ·have h' : (c : Int) < b := by omega
  have e : min b c = c := by omega
  have hf : ¬ (100000 : Int) < c := by omega
  rw [e]
  
  refine AA Tryz.func17 Qc rfl fun n H hH => ?_
  repeat' (first | (simp -implicitDefEqProofs [Bc, BS, BR, BU, BO, Bd, BY, BZ, BW, B9, B8, BA, BB, B5, B6, c17, -getElem?_pos, hxf, hyf, h, h', hf, -AV.fits, A4, A5]) | (simp (disch := omega) only [AC]) | ((with_reducible refine A9 17 ?_); (refine' CallP.sf ?_ (hx) ?_); (focus first | (with_reducible exact A0 _) | (simp [A5, A4, A1, A0]; done))) | ((with_reducible refine A9 17 ?_); (refine' CallP.sf ?_ (hy) ?_); (focus first | (with_reducible exact A0 _) | (simp [A5, A4, A1, A0]; done))) | (with_reducible first | refine A8 ?_ ?_ ?_ | exact AB | refine SameB.upd ?_ ?_ _ | assumption | refine A2 ?_ | refine KM.of ?_ | refine AD ?_ | refine A3 ?_ | refine A6 ?_ | intro _g _hg | refine AE ?_ ?_ | intro _hc) | omega)
  all_goals omega
 ·have h' : ¬ (c : Int) < b := by omega
  have e : min b c = b := by omega
  have hf : ¬ (100000 : Int) < b := by omega
  rw [e]
  
  refine AA Tryz.func17 Qc rfl fun n H hH => ?_
  repeat' (first | (simp -implicitDefEqProofs [Bc, BS, BR, BU, BO, Bd, BY, BZ, BW, B9, B8, BA, BB, B5, B6, c17, -getElem?_pos, hxf, hyf, h, h', hf, -AV.fits, A4, A5]) | (simp (disch := omega) only [AC]) | ((with_reducible refine A9 17 ?_); (refine' CallP.sf ?_ (hx) ?_); (focus first | (with_reducible exact A0 _) | (simp [A5, A4, A1, A0]; done))) | ((with_reducible refine A9 17 ?_); (refine' CallP.sf ?_ (hy) ?_); (focus first | (with_reducible exact A0 _) | (simp [A5, A4, A1, A0]; done))) | (with_reducible first | refine A8 ?_ ?_ ?_ | exact AB | refine SameB.upd ?_ ?_ _ | assumption | refine A2 ?_ | refine KM.of ?_ | refine AD ?_ | refine A3 ?_ | refine A6 ?_ | intro _g _hg | refine AE ?_ ?_ | intro _hc) | omega)
  all_goals omega
theorem Xu {k o m : Int} {v : List Int} {p : List St} (h1 : k ≠ 1) (h2 : k ≠ 2) (h15 : k ≠ 15) (hl : k = 5 ∨ k = 12 → p.length = 1) : min (AU (.mk k o m v p)) 100000 = min (if k = 12 then m.toNat * (p.map fun s => min (AU s) 100000).sum else if k = 5 then min m.toNat (p.map fun s => min (AU s) 100000).sum else (p.map fun s => min (AU s) 100000).sum) 100000 := by
 rw [AU, Ok, Hb, List.map_map]
 have e : ((min · 100000) ∘ AU : St → Nat) = fun s => min (AU s) 100000 := rfl
 rw [e]
 by_cases h12 : k = 12
 ·subst h12
  obtain ⟨x, rfl⟩ := List.length_eq_one_iff.1 (hl (.inr rfl))
  simp [Bg]
 ·by_cases h5 : k = 5
  ·subst h5
   obtain ⟨x, rfl⟩ := List.length_eq_one_iff.1 (hl (.inl rfl))
   simp [Bg]
  ·simp [Bg, h1, h2, h5, h12, h15]
theorem XP (k o m : Int) (v : List Int) (p : List St) (h1 : k ≠ 1) (h2 : k ≠ 2) (h15 : k ≠ 15) (hl : k = 5 ∨ k = 12 → p.length = 1) (hm : k = 5 ∨ k = 12 → 0 ≤ m ∧ m ≤ 5000) (hm12 : k = 12 → m ≤ 20) (hp : p.length ≤ 60) (hx : ∀ x ∈ p, Ed x) : Ed (.mk k o m v p) := by
 unfold Ed at *
 rw [Xu h1 h2 h15 hl]
 have hcl := Ue 100000 p hp
 have hpl := BM p
 rw [AN]
 
 refine AA Tryz.func17 Qc rfl fun n H hH => ?_
 repeat' (first | (simp -implicitDefEqProofs [c17, Bc, BS, BR, BU, BO, Bd, BY, BZ, BW, B9, B8, BA, BB, B5, B6, c17, -getElem?_pos, h1, h2, h15]) | (simp (disch := omega) only [AC]) | (with_reducible first | refine A8 ?_ ?_ ?_ | exact AB | refine SameB.upd ?_ ?_ _ | assumption | refine A2 ?_ | refine KM.of ?_ | refine AD ?_ | refine A3 ?_ | refine A6 ?_ | intro _g _hg | refine AE ?_ ?_ | intro _hc) | omega)
 refine LoopK.go (fun r st => ∃ (j n1 : Nat) (H1 : A7), j + r = p.length ∧ st = ⟨[(1, .ptr _g 0), (3, aI (((p.map fun s => min (AU s) 100000).take j).sum : Nat)), (6, aI j)], n1, H1⟩ ∧ _g < n1 ∧ SameB n H H1 ∧ H1 _g = some (Ab k o m (.sl 1 (v.map aI) .ro) (.sl 5 (Ac p) .ro))) p.length ⟨0, _, _, by omega, by simp; exact ⟨rfl, rfl⟩, by omega, by intro q hq; simp only [upd]; (repeat' split) <;> first | rfl | omega, AO _ _ _⟩ ?_
 rintro r st ⟨j, n1, H1, hj, rfl, hn1, hsame, q1⟩ J hJ
 by_cases hjl : j < p.length
 ·obtain ⟨x, hx'⟩ : ∃ x, p[j]? = some x := ⟨_, List.getElem?_eq_getElem hjl⟩
  have hb := hx x (List.mem_of_getElem? hx')
  have hxe := Fa hx'
  have hxf := BG x
  have hjl' : (j : Int) < p.length := by omega
  have hs := PM (l := p.map fun s => min (AU s) 100000) (i := j) (x := min (AU x) 100000) (by rw [List.getElem?_map, hx']; rfl)
  have hc1 := hcl j
  generalize ((p.map fun s => min (AU s) 100000).take j).sum = a at *
  obtain ⟨b, hb'⟩ : ∃ b, min (AU x) 100000 = b := ⟨_, rfl⟩
  have hb5 : b ≤ 100000 := by omega
  rw [hb'] at hb hs
  obtain ⟨k', o', m', v', p'⟩ := x
  rw [AN] at hb hxe hxf
  generalize Ac p = ep at *
  generalize Ac p' = ep' at *
  generalize v'.map aI = ev' at *
  
  repeat' (first | (simp -implicitDefEqProofs [Bc, BS, BR, BU, BO, Bd, BY, BZ, BW, B9, B8, BA, BB, B5, B6, c17, -getElem?_pos, q1, hpl, hjl', hxe, splice]) | (simp (disch := omega) only [AC]) | ((with_reducible refine A9 17 ?_); (refine' CallP.sf ?_ (hb) ?_); (focus first | (with_reducible exact A0 _) | (simp [A5, A4, A1, A0]; done))) | (with_reducible first | refine A8 ?_ ?_ ?_ | exact AB | refine SameB.upd ?_ ?_ _ | assumption | refine A2 ?_ | refine KM.of ?_ | refine AD ?_ | refine A3 ?_ | refine A6 ?_ | intro _g _hg | refine AE ?_ ?_ | intro _hc) | omega)
  exact hJ (r - 1) _ (by omega) ⟨j + 1, _, _, by omega, by rw [hs]; rfl, hn1, hsame, q1⟩
 ·have hjl' : ¬ (j : Int) < p.length := by omega
  have hc1 := hcl j
  have e : (p.map fun s => min (AU s) 100000).take j = p.map fun s => min (AU s) 100000 := List.take_of_length_le (by simp; omega)
  rw [e] at hc1 ⊢
  generalize (p.map fun s => min (AU s) 100000).sum = a at *
  generalize Ac p = ep at *
  by_cases h12 : k = 12
  ·subst h12
   have hm0 := hm (.inr rfl)
   have hm20 := hm12 rfl
   obtain ⟨m', rfl⟩ : ∃ m' : Nat, m = m' := ⟨m.toNat, by omega⟩
   have hma : m' * a ≤ 20 * (60 * 100000) := Nat.mul_le_mul (by omega) hc1
   have hmc : (a : Int) * (m' : Int) = ((m' * a : Nat) : Int) := by rw [Int.natCast_mul, Int.mul_comm]
   have hw : IntKind.i64.wrap ((a : Int) * (m' : Int)) = ((m' * a : Nat) : Int) := by rw [hmc, IntWalk.i64_in _ (by omega)]
   rw [if_pos rfl, Int.toNat_natCast]
   generalize m' * a = z at *
   by_cases hf : 100000 < z
   ·have hf' : (100000 : Int) < z := by omega
    have ez : min z 100000 = 100000 := by omega
    rw [ez]
    
    repeat' (first | (simp -implicitDefEqProofs [Bc, BS, BR, BU, BO, Bd, BY, BZ, BW, B9, B8, BA, BB, B5, B6, c17, -getElem?_pos, q1, hpl, hjl', hw, hf, hf', A4, A5]) | (simp (disch := omega) only [AC]) | (with_reducible first | refine A8 ?_ ?_ ?_ | exact AB | refine SameB.upd ?_ ?_ _ | assumption | refine A2 ?_ | refine KM.of ?_ | refine AD ?_ | refine A3 ?_ | refine A6 ?_ | intro _g _hg | refine AE ?_ ?_ | intro _hc) | omega)
    all_goals first | omega | exact hsame | (refine BJ ?_; grind)
   ·have hf' : ¬ (100000 : Int) < z := by omega
    have ez : min z 100000 = z := by omega
    rw [ez]
    
    repeat' (first | (simp -implicitDefEqProofs [Bc, BS, BR, BU, BO, Bd, BY, BZ, BW, B9, B8, BA, BB, B5, B6, c17, -getElem?_pos, q1, hpl, hjl', hw, hf, hf', A4, A5]) | (simp (disch := omega) only [AC]) | (with_reducible first | refine A8 ?_ ?_ ?_ | exact AB | refine SameB.upd ?_ ?_ _ | assumption | refine A2 ?_ | refine KM.of ?_ | refine AD ?_ | refine A3 ?_ | refine A6 ?_ | intro _g _hg | refine AE ?_ ?_ | intro _hc) | omega)
    all_goals first | omega | exact hsame | (refine BJ ?_; grind)
  ·rw [if_neg h12]
   by_cases h5 : k = 5
   ·subst h5
    have hm0 := hm (.inl rfl)
    obtain ⟨m', rfl⟩ : ∃ m' : Nat, m = m' := ⟨m.toNat, by omega⟩
    rw [if_pos rfl, Int.toNat_natCast]
    by_cases hf : m' < a
    ·have hf' : (m' : Int) < a := by omega
     have hf2 : ¬ (100000 : Int) < m' := by omega
     have ez : min (min m' a) 100000 = m' := by omega
     rw [ez]
     
     repeat' (first | (simp -implicitDefEqProofs [Bc, BS, BR, BU, BO, Bd, BY, BZ, BW, B9, B8, BA, BB, B5, B6, c17, -getElem?_pos, q1, hpl, hjl', hf, hf', hf2, A4, A5]) | (simp (disch := omega) only [AC]) | (with_reducible first | refine A8 ?_ ?_ ?_ | exact AB | refine SameB.upd ?_ ?_ _ | assumption | refine A2 ?_ | refine KM.of ?_ | refine AD ?_ | refine A3 ?_ | refine A6 ?_ | intro _g _hg | refine AE ?_ ?_ | intro _hc) | omega)
     all_goals first | omega | exact hsame | (refine BJ ?_; grind)
    ·have hf' : ¬ (m' : Int) < a := by omega
     have hf2 : ¬ (100000 : Int) < a := by omega
     have ez : min (min m' a) 100000 = a := by omega
     rw [ez]
     
     repeat' (first | (simp -implicitDefEqProofs [Bc, BS, BR, BU, BO, Bd, BY, BZ, BW, B9, B8, BA, BB, B5, B6, c17, -getElem?_pos, q1, hpl, hjl', hf, hf', hf2, A4, A5]) | (simp (disch := omega) only [AC]) | (with_reducible first | refine A8 ?_ ?_ ?_ | exact AB | refine SameB.upd ?_ ?_ _ | assumption | refine A2 ?_ | refine KM.of ?_ | refine AD ?_ | refine A3 ?_ | refine A6 ?_ | intro _g _hg | refine AE ?_ ?_ | intro _hc) | omega)
     all_goals first | omega | exact hsame | (refine BJ ?_; grind)
   ·rw [if_neg h5]
    by_cases hf : 100000 < a
    ·have hf' : (100000 : Int) < a := by omega
     have ez : min a 100000 = 100000 := by omega
     rw [ez]
     
     repeat' (first | (simp -implicitDefEqProofs [Bc, BS, BR, BU, BO, Bd, BY, BZ, BW, B9, B8, BA, BB, B5, B6, c17, -getElem?_pos, q1, hpl, hjl', h12, h5, hf, hf', A4, A5]) | (simp (disch := omega) only [AC]) | (with_reducible first | refine A8 ?_ ?_ ?_ | exact AB | refine SameB.upd ?_ ?_ _ | assumption | refine A2 ?_ | refine KM.of ?_ | refine AD ?_ | refine A3 ?_ | refine A6 ?_ | intro _g _hg | refine AE ?_ ?_ | intro _hc) | omega)
     all_goals first | omega | exact hsame | (refine BJ ?_; grind)
    ·have hf' : ¬ (100000 : Int) < a := by omega
     have ez : min a 100000 = a := by omega
     rw [ez]
     
     repeat' (first | (simp -implicitDefEqProofs [Bc, BS, BR, BU, BO, Bd, BY, BZ, BW, B9, B8, BA, BB, B5, B6, c17, -getElem?_pos, q1, hpl, hjl', h12, h5, hf, hf', A4, A5]) | (simp (disch := omega) only [AC]) | (with_reducible first | refine A8 ?_ ?_ ?_ | exact AB | refine SameB.upd ?_ ?_ _ | assumption | refine A2 ?_ | refine KM.of ?_ | refine AD ?_ | refine A3 ?_ | refine A6 ?_ | intro _g _hg | refine AE ?_ ?_ | intro _hc) | omega)
     all_goals first | omega | exact hsame | (refine BJ ?_; grind)
theorem Qg (s : St) : BK s → OY s → Ah s ≤ 60 → Ed s := by
 refine St.ind (Q := fun s => BK s → OY s → Ah s ≤ 60 → Ed s) ?_ s
 intro k o m v p ih hf hok hsz
 obtain ⟨hv, hp, hpp⟩ := hf
 obtain ⟨hn, hop⟩ := hok
 have hN := Hh hn
 simp only [Ah] at hsz
 have hpl := EO p
 have hx : ∀ x ∈ p, Ed x := fun x hx => ih x hx (DL hpp x hx) (Fu hop x hx) (by have := EQ x hx; omega)
 by_cases h1 : k = 1
 ·subst h1; exact Ur o m v p hv
 by_cases h2 : k = 2
 ·subst h2
  obtain ⟨a, b, c, rfl, h⟩ := K2 (hN.rng rfl) hN.vals
  exact X6 o m a b c p (by omega)
 by_cases h15 : k = 15
 ·subst h15
  match p, hN.two (.inl rfl) with
  | [x, y], _ => exact XJ o m v x y (hx x (by simp)) (hx y (by simp))
 have hm : k = 5 ∨ k = 12 → 0 ≤ m ∧ m ≤ 5000 := fun h => by
  have hm := hN.num (by rcases h with rfl | rfl <;> rfl)
  rcases h with rfl | rfl <;> simp [IK, IS, Bj] at hm <;> omega
 exact XP k o m v p h1 h2 h15 (fun h => hN.one (by omega) (by omega) (by omega) (by omega) (by omega) (by omega)) hm (fun h => by have hm := hN.num (by subst h; rfl); subst h; simp [IK, IS, Bj] at hm; omega) (by omega) hx
abbrev UW (s : St) : Prop := ∀ i : Nat, i + Ah s ≤ 100 → APure Tryz.prog 38 [encS s, aI i] (.tup [aI ((EK s i).1 : Nat), aI (EK s i).2])
theorem QE {k o m : Int} {v : List Int} {p : List St} {i n g n1 : Nat} {H H1 : A7} {w0 nx fd : Int} (h60 : p.length ≤ 60) (hx : ∀ x ∈ p, UW x) (hi : i + 1 + BL p ≤ 100) (hw0 : -1 ≤ w0) (hnx : nx = ((i + 1 + BL p : Nat) : Int)) (hfd : fd = if w0 < 0 then (Ge p (i + 1)).2 else w0) (hn : n ≤ g) (hg : g < n1) (hs : SameB n H H1) (q : H1 g = some (Ab k o m (.sl 1 (v.map aI) .ro) (.sl 5 (Ac p) .ro))) :
  LoopK (fun Q s => aw Tryz.prog c38_L5 Q s) (DZ 0 (Dq (aw Tryz.prog c38_k1 (OW (.tup [aI nx, aI fd]) n H [.tmp 4, .tmp 5])) (OW (.tup [aI nx, aI fd]) n H [.tmp 4, .tmp 5]))) ⟨[(2, .ptr g 0), (6, aI w0), (7, aI ((i : Int) + 1)), (8, aI 0)], n1, H1⟩ := by
 have hpl := BM p
 refine LoopK.go (fun r st => ∃ (j c n2 : Nat) (w : Int) (H2 : A7), j + r = p.length ∧ st = ⟨[(2, .ptr g 0), (6, aI w), (7, aI c), (8, aI j)], n2, H2⟩ ∧ g < n2 ∧ -1 ≤ w ∧ c + BL (p.drop j) = i + 1 + BL p ∧ (if w < 0 then (Ge (p.drop j) c).2 else w) = fd ∧ SameB n H H2 ∧ H2 g = some (Ab k o m (.sl 1 (v.map aI) .ro) (.sl 5 (Ac p) .ro))) p.length ⟨0, i + 1, n1, w0, H1, by omega, by simp, hg, hw0, by simp, by rw [hfd]; rfl, hs, q⟩ ?_
 rintro r st ⟨j, c, n2, w, H2, hj, rfl, hn2, hw, hcs, hE, hsame, q1⟩ J hJ
 by_cases hjl : j < p.length
 ·obtain ⟨x, hx'⟩ : ∃ x, p[j]? = some x := ⟨_, List.getElem?_eq_getElem hjl⟩
  have hxm := List.mem_of_getElem? hx'
  rw [RR hx'] at hcs
  have hst := hx x hxm c (by omega)
  have hxe := Fa hx'
  have hxf := BG x
  have hjl' : (j : Int) < p.length := by omega
  have hwx := (JF x c).1
  have hwn := P8 x c
  rw [UH hx'] at hE
  rw [hwn] at hst
  generalize (EK x c).2 = wx at *
  generalize hsx : Ah x = sx at *
  obtain ⟨k', o', m', v', p'⟩ := x
  rw [AN] at hst hxe hxf
  generalize Ac p = ep at *
  generalize Ac p' = ep' at *
  generalize v'.map aI = ev' at *
  generalize hcc : ((c + sx : Nat) : Int) = cc at *
  by_cases hwz : w < 0
  ·rw [if_pos hwz] at hE
   
   repeat' (first | (simp -implicitDefEqProofs [O5, Ny, NK, MG, N8, HS, c38, -getElem?_pos, q1, hpl, hjl', hxe, hwz, splice]) | (simp (disch := omega) only [AC]) | ((with_reducible refine A9 38 ?_); (refine' CallP.sf ?_ (hst) ?_); (focus first | (with_reducible exact A0 _) | (simp [A5, A4, A1, A0]; done))) | (with_reducible first | refine A8 ?_ ?_ ?_ | exact AB | refine SameB.upd ?_ ?_ _ | assumption | refine A2 ?_ | refine KM.of ?_ | refine AD ?_ | refine A3 ?_ | refine A6 ?_ | intro _g _hg | refine AE ?_ ?_ | intro _hc) | omega)
   exact hJ (r - 1) _ (by omega) ⟨j + 1, c + sx, _, wx, _, by omega, by rw [hcc]; rfl, hn2, hwx, by omega, hE, hsame, q1⟩
  ·rw [if_neg hwz] at hE
   
   repeat' (first | (simp -implicitDefEqProofs [O5, Ny, NK, MG, N8, HS, c38, -getElem?_pos, q1, hpl, hjl', hxe, hwz, splice]) | (simp (disch := omega) only [AC]) | ((with_reducible refine A9 38 ?_); (refine' CallP.sf ?_ (hst) ?_); (focus first | (with_reducible exact A0 _) | (simp [A5, A4, A1, A0]; done))) | (with_reducible first | refine A8 ?_ ?_ ?_ | exact AB | refine SameB.upd ?_ ?_ _ | assumption | refine A2 ?_ | refine KM.of ?_ | refine AD ?_ | refine A3 ?_ | refine A6 ?_ | intro _g _hg | refine AE ?_ ?_ | intro _hc) | omega)
   exact hJ (r - 1) _ (by omega) ⟨j + 1, c + sx, _, w, _, by omega, by rw [hcc]; rfl, hn2, hw, by omega, by rw [if_neg hwz]; exact hE, hsame, q1⟩
 ·have hjl' : ¬ (j : Int) < p.length := by omega
  rw [List.drop_eq_nil_of_le (by omega), BL] at hcs
  rw [List.drop_eq_nil_of_le (by omega), Ge] at hE
  have e1 : nx = c := by omega
  have e2 : fd = w := by rw [← hE]; split <;> omega
  subst e1 e2
  generalize Ac p = ep at *
  
  repeat' (first | (simp -implicitDefEqProofs [O5, Ny, NK, MG, N8, HS, c38, -getElem?_pos, q1, hpl, hjl', A4, A5]) | (simp (disch := omega) only [AC]) | (with_reducible first | refine A8 ?_ ?_ ?_ | exact AB | refine SameB.upd ?_ ?_ _ | assumption | refine A2 ?_ | refine KM.of ?_ | refine AD ?_ | refine A3 ?_ | refine A6 ?_ | intro _g _hg | refine AE ?_ ?_ | intro _hc) | omega)
  all_goals first | exact hsame | omega
theorem ZJ (s : St) : BK s → OY s → Ah s ≤ 60 → UW s := by
 refine St.ind (Q := fun s => BK s → OY s → Ah s ≤ 60 → UW s) ?_ s
 intro k o m v p ih hf hok hsz i hi
 have hbd := Qg (.mk k o m v p) hf hok hsz
 obtain ⟨hv, hp, hpp⟩ := hf
 obtain ⟨hn, hop⟩ := hok
 simp only [Ah] at hsz hi
 have hx : ∀ x ∈ p, UW x := fun x hx => ih x hx (DL hpp x hx) (Fu hop x hx) (by have := EQ x hx; omega)
 have hw1 : (EK (.mk k o m v p) i).1 = i + 1 + BL p := by rw [EK, M8]
 have hw2 : (EK (.mk k o m v p) i).2 = if 5000 < AU (.mk k o m v p) then (i : Int) else (Ge p (i + 1)).2 := by rw [EK]
 rw [hw1, hw2]
 unfold Ed at hbd
 generalize AU (.mk k o m v p) = B at *
 rw [AN] at hbd ⊢
 generalize hnx : ((i + 1 + BL p : Nat) : Int) = nx
 generalize hfd : (if 5000 < B then (i : Int) else (Ge p (i + 1)).2) = fd
 generalize hmb : ((min B 100000 : Nat) : Int) = mb at *
 
 refine AA Tryz.func38 A2c rfl fun n H hH => ?_
 by_cases hB0 : 5000 < B
 ·have hB' : (5000 : Int) < mb := by omega
  rw [if_pos hB0] at hfd
  repeat' (first | (simp -implicitDefEqProofs [c38, HS, -getElem?_pos, hB']) | (simp (disch := omega) only [AC]) | ((with_reducible refine A9 17 ?_); (refine' CallP.sf ?_ (hbd) ?_); (focus first | (with_reducible exact A0 _) | (simp [A5, A4, A1, A0]; done))) | (with_reducible first | refine A8 ?_ ?_ ?_ | exact AB | refine SameB.upd ?_ ?_ _ | assumption | refine A2 ?_ | refine KM.of ?_ | refine AD ?_ | refine A3 ?_ | refine A6 ?_ | intro _g _hg | refine AE ?_ ?_ | intro _hc) | omega)
  exact QE (by have := EO p; omega) hx (by omega) (by omega) hnx.symm (by rw [if_neg (by omega)]; exact hfd.symm) (by omega) (by omega) (fun k hk => by simp (disch := omega) only [upd_ne]) (AO _ _ _)
 ·have hB' : ¬ (5000 : Int) < mb := by omega
  rw [if_neg hB0] at hfd
  repeat' (first | (simp -implicitDefEqProofs [c38, HS, -getElem?_pos, hB']) | (simp (disch := omega) only [AC]) | ((with_reducible refine A9 17 ?_); (refine' CallP.sf ?_ (hbd) ?_); (focus first | (with_reducible exact A0 _) | (simp [A5, A4, A1, A0]; done))) | (with_reducible first | refine A8 ?_ ?_ ?_ | exact AB | refine SameB.upd ?_ ?_ _ | assumption | refine A2 ?_ | refine KM.of ?_ | refine AD ?_ | refine A3 ?_ | refine A6 ?_ | intro _g _hg | refine AE ?_ ?_ | intro _hc) | omega)
  exact QE (by have := EO p; omega) hx (by omega) (by omega) hnx.symm (by rw [if_pos (by omega)]; exact hfd.symm) (by omega) (by omega) (fun k hk => by simp (disch := omega) only [upd_ne]) (AO _ _ _)
theorem FZ (s : St) (hf : BK s) : APure Tryz.prog 14 [encS s] (aF (Am s)) := by
 have hst : APure Tryz.prog 37 [encS s, aI 0] (.tup [aI ((Dc s 0).1 : Nat), aI (Dc s 0).2]) := WT s hf 0 (by omega)
 have hwd : (Dc s 0).2 = 0 → APure Tryz.prog 38 [encS s, aI 0] (.tup [aI ((EK s 0).1 : Nat), aI (EK s 0).2]) := fun h => by
  obtain ⟨h1, h2, h3⟩ := LA s 0 h
  exact ZJ s hf h1 (by omega) 0 (by omega)
 have hw := (JF s 0).1
 unfold Am
 generalize Dc s 0 = sg at *
 generalize EK s 0 = wd at *
 obtain ⟨k, o, m, v, p⟩ := s
 rw [AN] at *
 generalize v.map aI = va at *
 generalize Ac p = ep at *
 have hat := Y2
 
 refine AA Tryz.func14 A1x rfl fun n H hH => ?_
 by_cases h0 : sg.2 = 0
 ·have hwd := hwd h0
  rw [if_neg (by simpa using h0)]
  by_cases hw0 : 0 ≤ wd.2
  ·rw [if_pos hw0]
   repeat' (first | (simp -implicitDefEqProofs [Kf, NQ, c14, -getElem?_pos, h0, hw0, splice, A4, A5]) | (simp (disch := omega) only [AC]) | ((with_reducible refine A9 37 ?_); (refine' CallP.sf ?_ (hst) ?_); (focus first | (with_reducible exact A0 _) | (simp [A5, A4, A1, A0]; done))) | ((with_reducible refine A9 38 ?_); (refine' CallP.sf ?_ (hwd) ?_); (focus first | (with_reducible exact A0 _) | (simp [A5, A4, A1, A0]; done))) | ((with_reducible refine A9 20 ?_); (refine' CallP.sf ?_ ((Y2 _ _)) ?_); (focus first | (with_reducible exact A0 _) | (simp [A5, A4, A1, A0]; done))) | (with_reducible first | refine A8 ?_ ?_ ?_ | exact AB | refine SameB.upd ?_ ?_ _ | assumption | refine A2 ?_ | refine KM.of ?_ | refine AD ?_ | refine A3 ?_ | refine A6 ?_ | intro _g _hg | refine AE ?_ ?_ | intro _hc) | omega)
  ·rw [if_neg hw0]
   repeat' (first | (simp -implicitDefEqProofs [Kf, NQ, c14, -getElem?_pos, h0, hw0, splice, A4, A5]) | (simp (disch := omega) only [AC]) | ((with_reducible refine A9 37 ?_); (refine' CallP.sf ?_ (hst) ?_); (focus first | (with_reducible exact A0 _) | (simp [A5, A4, A1, A0]; done))) | ((with_reducible refine A9 38 ?_); (refine' CallP.sf ?_ (hwd) ?_); (focus first | (with_reducible exact A0 _) | (simp [A5, A4, A1, A0]; done))) | ((with_reducible refine A9 20 ?_); (refine' CallP.sf ?_ ((Y2 _ _)) ?_); (focus first | (with_reducible exact A0 _) | (simp [A5, A4, A1, A0]; done))) | (with_reducible first | refine A8 ?_ ?_ ?_ | exact AB | refine SameB.upd ?_ ?_ _ | assumption | refine A2 ?_ | refine KM.of ?_ | refine AD ?_ | refine A3 ?_ | refine A6 ?_ | intro _g _hg | refine AE ?_ ?_ | intro _hc) | omega)
 ·rw [if_pos h0]
  repeat' (first | (simp -implicitDefEqProofs [Kf, NQ, c14, -getElem?_pos, h0, splice, A4, A5]) | (simp (disch := omega) only [AC]) | ((with_reducible refine A9 37 ?_); (refine' CallP.sf ?_ (hst) ?_); (focus first | (with_reducible exact A0 _) | (simp [A5, A4, A1, A0]; done))) | ((with_reducible refine A9 20 ?_); (refine' CallP.sf ?_ ((Y2 _ _)) ?_); (focus first | (with_reducible exact A0 _) | (simp [A5, A4, A1, A0]; done))) | (with_reducible first | refine A8 ?_ ?_ ?_ | exact AB | refine SameB.upd ?_ ?_ _ | assumption | refine A2 ?_ | refine KM.of ?_ | refine AD ?_ | refine A3 ?_ | refine A6 ?_ | intro _g _hg | refine AE ?_ ?_ | intro _hc) | omega)
def Xw (s : St) : AV := .tup [aI (if (Am s).1 = 0 then (AU s : Int) else 0), aF (Am s)]
theorem SG (s : St) (hf : BK s) : APure Tryz.prog 13 [encS s] (Xw s) := by
 have hv := FU s hf
 have hb : (Am s).1 = 0 → APure Tryz.prog 36 [encS s] (aI (AU s : Nat)) := fun h => by
  obtain ⟨_, h1, h2, h3⟩ := Az h
  exact YL s hf h1 h2 h3
 have h00 : (Am s).1 = 0 → Am s = (0, 0) := fun h => (Az h).1
 unfold Xw
 generalize Am s = f at *
 generalize AU s = b at *
 obtain ⟨k, o, m, v, p⟩ := s
 rw [AN] at *
 generalize v.map aI = va at *
 generalize Ac p = ep at *
 
 refine AA Tryz.func13 A1k rfl fun n H hH => ?_
 by_cases h0 : f.1 = 0
 ·have hb2 := hb h0
  have h00 := h00 h0
  subst h00
  repeat' (first | (simp -implicitDefEqProofs [Q6, c13, -getElem?_pos, splice, A4, A5]) | (simp (disch := omega) only [AC]) | ((with_reducible refine A9 15 ?_); (refine' CallP.sf ?_ (hv) ?_); (focus first | (with_reducible exact A0 _) | (simp [A5, A4, A1, A0]; done))) | ((with_reducible refine A9 36 ?_); (refine' CallP.sf ?_ (hb2) ?_); (focus first | (with_reducible exact A0 _) | (simp [A5, A4, A1, A0]; done))) | (with_reducible first | refine A8 ?_ ?_ ?_ | exact AB | refine SameB.upd ?_ ?_ _ | assumption | refine A2 ?_ | refine KM.of ?_ | refine AD ?_ | refine A3 ?_ | refine A6 ?_ | intro _g _hg | refine AE ?_ ?_ | intro _hc) | omega)
 ·rw [if_neg h0]
  repeat' (first | (simp -implicitDefEqProofs [Q6, c13, -getElem?_pos, h0, splice, A4, A5]) | (simp (disch := omega) only [AC]) | ((with_reducible refine A9 15 ?_); (refine' CallP.sf ?_ (hv) ?_); (focus first | (with_reducible exact A0 _) | (simp [A5, A4, A1, A0]; done))) | (with_reducible first | refine A8 ?_ ?_ ?_ | exact AB | refine SameB.upd ?_ ?_ _ | assumption | refine A2 ?_ | refine KM.of ?_ | refine AD ?_ | refine A3 ?_ | refine A6 ?_ | intro _g _hg | refine AE ?_ ?_ | intro _hc) | omega)
def Hp (F : Fut) (k : Nat) : Ad := (F.cur :: F.l.map (·.2)).getD k []
abbrev ZC (a b : Int) : AObj := .cells 27 [aI a, aI b]
def ZM (n : Nat) (H : A7) (xs : List Int) (cs : Ad) (e : Bool) : Bm := fun r n' H' => n ≤ n' ∧ (∀ k, n' ≤ k → H' k = none) ∧ SameB n H H' ∧ ∃ gg, n ≤ gg ∧ H' gg = some (.grow 3 (cs.map aI)) ∧ r = .tup [.sl 1 (xs.map aI) .ro, .slg 1 gg cs.length, .bool e, aF (0, 0)]
theorem Vs {F : Fut} {j : Nat} {y : Int} {c : Ad} (h : F.l[j]? = some (y, c)) : Hp F (j + 1) = c := by
 simp [Hp, List.getD_eq_getElem?_getD, h]
theorem Se {cs c : Ad} (h : c.length = cs.length) : Ci cs 0 c = c := by
 unfold Ci; simp [List.drop_eq_nil_of_le, h]
theorem Au {R : Bm} {n m : Nat} {res : List ARes} {e : AY} {H : A7} {x r : AV} (h1 : Bt ⟨e, m, H⟩ res = some x) (hs : A4 x r) (h2 : n ≤ m) (h3 : ∀ k, m ≤ k → H k = none) (h4 : R r m H) : fin R n res .ret ⟨e, m, H⟩ := ⟨r, m, H, ⟨x, h1, hs⟩, h2, Nat.le_refl _, h3, SameB.rfl_ _ _, h4⟩
theorem Fe {z : Nat} {l : List AV} {t : Tok} (hz : z = 1 ∨ l = []) : A4 (.sl z l t) (.sl 1 l .ro) := ⟨1, l, .ro, rfl, .inl rfl, hz.imp Eq.symm (fun h => ⟨h, rfl⟩), A0 l⟩
theorem ZE {a b c d a' : AV} (h : A4 a a') : A4 (.tup [a, b, c, d]) (.tup [a', b, c, d]) := ⟨_, rfl, _, _, rfl, h, A0 _⟩
theorem X5 {R : Bm} {n n1 gO gg g7 nR : Nat} {H H1 : A7} {px : AV} {F : Fut} {O : Nat → Prop} {m : Nat} (hm : m ≤ 5000) (hpx : Cq px) (hS : Sit gO 0 [⟨px, some F.l, F.cur, F.fin, O⟩] H1 n1 gg F.cur) (hn : n ≤ n1) (hgO : n ≤ gO) (hgg : n ≤ gg) (hOn : ∀ g, OU [⟨px, some F.l, F.cur, F.fin, O⟩] g → n ≤ g) (hsame : SameB n H H1) (h7 : Bx (OU [⟨px, some F.l, F.cur, F.fin, O⟩]) gO g7 H1 n1 (ZC 0 0)) (n7 : n ≤ g7) (g77 : gg ≠ g7)
  (hR : R = ZM n H ((F.l.map (·.1)).take m) (if m ≤ F.l.length then Hp F m else F.fin) (decide (F.l.length < m))) (hnR : nR = n) :
  LoopK (fun Q s => aw Tryz.prog c18_L4 Q s) (DZ 0 (Dq (aw Tryz.prog c18_k1 (fin R nR [.tmp 4, .tmp 5, .tmp 6, .cell 7 (some 2)])) (fin R nR [.tmp 4, .tmp 5, .tmp 6, .cell 7 (some 2)]))) ⟨[(1, aI m), (7, .ptr g7 0), (9, .ptr gO 0), (10, px), (11, .sl 0 [] .nil)], n1, H1⟩ := by
 subst hnR
 refine LoopK.go (fun r st => ∃ (j n2 z : Nat) (t : Tok) (O1 : Nat → Prop) (H2 : A7), j + r = m ∧ j ≤ F.l.length ∧ st = ⟨[(1, aI m), (7, .ptr g7 0), (9, .ptr gO 0), (10, px), (11, .sl z (((F.l.map (·.1)).take j).map aI) t)], n2, H2⟩ ∧ nR ≤ n2 ∧ SitT gO 0 ⟨px, some (F.l.drop j), Hp F j, F.fin, O1⟩ t j H2 n2 gg (Hp F j) ∧ (Hp F j).length = F.cur.length ∧ (t ≠ .nil → z = 1) ∧ (∀ g, OT ⟨px, some (F.l.drop j), Hp F j, F.fin, O1⟩ t g → nR ≤ g) ∧ SameB nR H H2 ∧ Bx (OT ⟨px, some (F.l.drop j), Hp F j, F.fin, O1⟩ t) gO g7 H2 n2 (ZC 0 0)) m ?_ ?_
 ·exact ⟨0, n1, 0, .nil, O, H1, by omega, by omega, rfl, hn, ⟨hS, rfl, fun g h => h.elim, fun h => h, fun h => h⟩, rfl, fun h => absurd rfl h, fun g h => h.elim (hOn g) (fun h => h.elim), hsame, ⟨fun h => h.elim h7.no (fun h => h.elim), h7.nO, h7.lt, h7.at_⟩⟩
 rintro r st ⟨j, n2, z, t, O1, H2, hj, hjl, rfl, hn2, hST, hcl, hz, hOn2, hsame2, B7⟩ J hJ
 have hgiv := hST.sit.giv
 have hlt := hgiv.lt hST.sit.sup
 have hxl : (((F.l.map (·.1)).take j).map aI).length = j := by simp; omega
 have q7 := B7.at_
 have hz1 : z = 1 ∨ ((F.l.map (·.1)).take j).map aI = [] := by
  by_cases ht : t = .nil
  ·subst ht
   have e : j = 0 := hST.tok
   subst e
   exact .inr rfl
  ·exact .inl (hz ht)
 obtain ⟨ff, fa, fb, rfl⟩ := hpx
 by_cases hjm : j < m
 ·have hjm' : (j : Int) < m := by omega
  cases hd : F.l.drop j with
  | nil =>
   rw [hd] at hST B7 hOn2
   have hlen : F.l.length = j := by have := congrArg List.length hd; simp at this; omega
   have htk : (F.l.map (·.1)).take m = (F.l.map (·.1)).take j := by rw [List.take_of_length_le (by simp; omega), List.take_of_length_le (by simp; omega)]
   rw [if_neg (by omega), htk, decide_eq_true (by omega)] at hR
   generalize ((F.l.map (·.1)).take j) = xs at *
   generalize hxa : xs.map aI = xsa at *
   have qo := q7
   
   repeat' (first | (simp -implicitDefEqProofs [N6, LM, Km, Nc, Ix, FW, c18, -getElem?_pos, q7, qo, hxl, hjm', splice, -AL]) | (simp (disch := omega) only [AC]) | (refine hST.call (fun r n' H' p' hle hr hl hS2 ha => ?_); obtain ⟨x', l', cur', fin', O3⟩ := p'; dsimp only [PtR] at hr; obtain ⟨rfl, rfl, ⟨v, rfl⟩, rfl, rfl⟩ := hr; have C7 := B7.go g77 ha; have q7 := C7.at_; have e1 : Ci (Hp F j) 0 (AP [(⟨.fn ff fa fb, none, F.fin, F.fin, O3⟩ : Pt)]) = F.fin := (Se (by simpa [AP] using hl)).trans (by simp [AP]); rw [e1] at hS2; have qo := hS2.sit.giv.opn) | (with_reducible first | refine A8 ?_ ?_ ?_ | exact AB | assumption | refine A2 ?_ | refine KM.of ?_ | refine AD ?_ | refine A3 ?_ | refine AI ?_ | refine A6 ?_ | refine AJ ?_ | refine AH ?_ | intro _g _hg | refine AE ?_ ?_ | intro _hc) | omega)
   subst hR hxa
   have hle' : n2 ≤ n' := hle
   have := C7.lt
   have hg := hS2.sit.giv.giv
   refine Au (x := .tup [.sl z (xs.map aI) t, .slg 1 gg F.fin.length, .bool true, .agg [aI 0, aI 0]]) (by simp -implicitDefEqProofs [-getElem?_pos]) (ZE (Fe hz1)) (by omega) (fun k hk => by rw [upd_ne (by omega)]; exact hS2.sit.sup k hk) ⟨by omega, (fun k hk => by rw [upd_ne (by omega)]; exact hS2.sit.sup k hk), fun k hk => ?_, gg, hgg, by rw [upd_ne g77]; exact hg, rfl⟩
   rw [upd_ne (by omega), ha.fr k (by omega) (fun h => by have := hOn2 k h; omega) (by omega)]
   exact hsame2 k hk
  | cons e l2 =>
   obtain ⟨y, c⟩ := e
   have hy : F.l[j]? = some (y, c) := by
    have := congrArg (fun l => l[0]?) hd
    simpa using this
   have hd2 : F.l.drop (j + 1) = l2 := by
    have := congrArg List.tail hd
    simpa using this
   have hj1 : j + 1 ≤ F.l.length := by have := (List.getElem?_eq_some_iff.1 hy).1; omega
   have htk : ((F.l.map (·.1)).take (j + 1)).map aI = ((F.l.map (·.1)).take j).map aI ++ [aI y] := by
    rw [List.take_succ, List.getElem?_map, hy]; simp
   rw [hd] at hST B7 hOn2
   generalize hxs : ((F.l.map (·.1)).take j).map aI = xsa at *
   
   repeat' (first | (simp -implicitDefEqProofs [N6, LM, Km, Nc, Ix, FW, c18, -getElem?_pos, q7, hxl, hjm', splice, -AL]) | (simp (disch := omega) only [AC]) | (refine hST.call (fun r n' H' p' hle hr hl hS2 ha => ?_); obtain ⟨x', l', cur', fin', O3⟩ := p'; dsimp only [PtR] at hr; obtain ⟨rfl, rfl, rfl, rfl, rfl⟩ := hr; have hle' : n2 ≤ n' := hle; have C7 := B7.go g77 ha; have e1 : Ci (Hp F j) 0 (AP [(⟨.fn ff fa fb, some l2, cur', F.fin, O3⟩ : Pt)]) = cur' := (Se (by simpa [AP] using hl)).trans (by simp [AP]); rw [e1] at hS2) | (refine Hv (by rw [hxl]; exact hS2.tok.at_ (fun k hk => by have := hS2.tok.lt k hk; rw [upd_ne (by omega)]) (by omega)) hz (by rw [hxl]; omega) (fun k hk => by rw [upd_ne (by omega)]; exact hS2.sit.sup k (by omega)) (fun g' n3 H3 k1 k2 k3 k4 k5 k6 k7 => ?_)) | (with_reducible first | refine A8 ?_ ?_ ?_ | exact AB | assumption | refine A2 ?_ | refine KM.of ?_ | refine AD ?_ | refine A3 ?_ | refine AI ?_ | refine A6 ?_ | refine AJ ?_ | refine AH ?_ | intro _g _hg | refine AE ?_ ?_ | intro _hc) | omega)
   have rep : Rep' t (j + 1) n' H' g' n3 H3 := ⟨k1.elim .inl (fun h => .inr (by omega)), by omega, k3, fun k h1 h2 => (k4 k (by omega) h2).trans (upd_ne (by omega)), by rw [k5, hxl], k6⟩
   have hS3 := hS2.app rep
   have D7 := C7.app rep
   have e2 : Hp F (j + 1) = cur' := Vs hy
   refine hJ (r - 1) _ (by omega) ⟨j + 1, n3, 1, .own g', O3, H3, by omega, hj1, by rw [htk], by omega, by rw [hd2, e2]; exact hS3, by rw [e2]; simpa [AP] using hl.trans (by simpa [AP] using hcl), fun _ => rfl, ?_, ?_, by rw [hd2, e2]; exact D7⟩
   ·rw [hd2, e2]
    rintro g (hg | hg)
    ·exact (ha.sub g (.inl hg)).elim (hOn2 g) (fun h => by omega)
    ·have e : g = g' := hg
     exact k1.elim (fun h => by rw [e]; exact hOn2 g' (.inr h)) (fun h => by omega)
   ·intro k hk
    rw [rep.fr k (by omega) (fun h => by have := hOn2 k (.inr h); omega), ha.fr k (by omega) (fun h => by have := hOn2 k h; omega) (by omega)]
    exact hsame2 k hk
 ·have hjm' : ¬ (j : Int) < m := by omega
  have hmj : m = j := by omega
  subst hmj
  rw [if_pos hjl, decide_eq_false (by omega)] at hR
  have qo := hST.sit.giv.opn
  have qg := hST.sit.giv.giv
  generalize ((F.l.map (·.1)).take m) = xs at *
  generalize hxa : xs.map aI = xsa at *
  
  repeat' (first | (simp -implicitDefEqProofs [N6, LM, Km, Nc, Ix, FW, c18, -getElem?_pos, q7, qo, hxl, hjm', splice, -AL]) | (simp (disch := omega) only [AC]) | (with_reducible first | refine A8 ?_ ?_ ?_ | exact AB | assumption | refine A2 ?_ | refine KM.of ?_ | refine AD ?_ | refine A3 ?_ | refine AI ?_ | refine A6 ?_ | refine AJ ?_ | refine AH ?_ | intro _g _hg | refine AE ?_ ?_ | intro _hc) | omega)
  subst hR hxa
  have := B7.lt
  refine Au (x := .tup [.sl z (xs.map aI) t, .slg 1 gg (Hp F m).length, .bool false, .agg [aI 0, aI 0]]) (by simp -implicitDefEqProofs [-getElem?_pos]) (ZE (Fe hz1)) (by omega) (fun k hk => by rw [upd_ne (by omega)]; exact hST.sit.sup k hk) ⟨by omega, (fun k hk => by rw [upd_ne (by omega)]; exact hST.sit.sup k hk), fun k hk => ?_, gg, hgg, by rw [upd_ne g77]; exact qg, rfl⟩
  rw [upd_ne (by omega)]
  exact hsame2 k hk
def Qn : Nat → As → List Int → Option (List Int × As)
 | 0, _, _ => none
 | f + 1, r, vs => if (HP (r.takeWhile Ay)).2 = true then (if (acc 44 (r.dropWhile Ay)).2 = true then Qn f (acc 44 (r.dropWhile Ay)).1 (vs ++ [(HP (r.takeWhile Ay)).1]) else some (vs ++ [(HP (r.takeWhile Ay)).1], (acc 44 (r.dropWhile Ay)).1)) else none
def Ic (r : As) : Option (List Int × As) := if [41] <+: r then some ([], r) else Qn (r.length + 1) r []
theorem Sr {c x : UInt8} {r : As} : acc c (x :: r) = if x = c then (r, true) else (x :: r, false) := rfl
theorem Dh (c : UInt8) (r : As) : (acc c r).1.length ≤ r.length ∧ ((acc c r).2 = true → (acc c r).1.length + 1 = r.length) := by
 cases r with
 | nil => simp [acc]
 | cons x r =>
  rw [Sr]
  split <;> simp
theorem EU (p : UInt8 → Bool) (r : As) : (r.dropWhile p).length ≤ r.length := (List.dropWhile_sublist _).length_le
def ZD (n : Nat) (H : A7) (gp gS gm : Nat) (k o m : Int) (ps : AV) (res : Option (List Int × As)) : Bm := fun b n' H' => n ≤ n' ∧ (∀ g, n' ≤ g → H' g = none) ∧ (∀ g, g < n → g ≠ gp → g ≠ gS → H' g = H g) ∧ match res with
 | some (vs, r') => b = .bool true ∧ H' gp = some (Ak r' gm) ∧ ∃ (z : Nat) (t : Tok), (z = 1 ∨ vs = []) ∧ H' gS = some (Ab k o m (.sl z (vs.map aI) t) ps)
 | none => b = .bool false ∧ (∃ r', H' gp = some (Ak r' gm)) ∧ ∃ w, H' gS = some (Ab k o m w ps)
theorem WK {c : UInt8} {r : As} (h : (acc c r).2 = false) : (acc c r).1 = r := by
 cases r with
 | nil => rfl
 | cons x r =>
  rw [Sr] at h ⊢
  split
  ·rename_i hx; rw [if_pos hx] at h; cases h
  ·rfl
theorem XL (r : As) (gp gS gm n : Nat) (H : A7) (k o m : Int) (ps : AV) (hps : ps.one = true) (hr : r.length ≤ 4000) (hp : H gp = some (Ak r gm)) (hS : H gS = some (Ab k o m (.sl 0 [] .nil) ps)) (hne : gp ≠ gS) (hpf : ps.fits none = true) : ACalls Tryz.prog 125 [.ptr gp 0, .ptr gS 0] n H (ZD n H gp gS gm k o m ps (Ic r)) := by
 have hh := Sp r [41]
 unfold Ic
 generalize hR : ZD _ _ _ _ _ _ _ _ _ _ = R
 refine AF Tryz.func125 Zj rfl fun hs => ?_
 have hgp : gp < n := by
  rcases Nat.lt_or_ge gp n with h | h
  ·exact h
  ·rw [hs gp h] at hp; cases hp
 have hgS : gS < n := by
  rcases Nat.lt_or_ge gS n with h | h
  ·exact h
  ·rw [hs gS h] at hS; cases hS
 by_cases h0 : [41] <+: r
 ·rw [decide_eq_true h0] at hh
  rw [if_pos h0] at hR
  repeat' (first | (simp -implicitDefEqProofs [GJ, GM, GU, c125, -getElem?_pos, hp]) | (simp (disch := omega) only [AC]) | ((with_reducible refine A9 128 ?_); (refine' CallP.sf ?_ (hh) ?_); (focus first | (with_reducible exact A0 _) | (simp [A5, A4, A1, A0]; done))) | (with_reducible first | refine A8 ?_ ?_ ?_ | exact AB | assumption | refine A2 ?_ | refine KM.of ?_ | refine AD ?_ | refine AI ?_ | refine AJ ?_ | refine AH ?_ | intro _g _hg | refine AE ?_ ?_ | intro _hc) | omega)
  subst hR
  exact Au (x := .bool true) (by simp -implicitDefEqProofs [-getElem?_pos]) (A1 _) (by omega) hs ⟨by omega, hs, fun _ _ _ _ => rfl, rfl, hp, 0, .nil, .inr rfl, hS⟩
 ·rw [decide_eq_false h0] at hh
  rw [if_neg h0] at hR
  repeat' (first | (simp -implicitDefEqProofs [c125, GJ, GM, GU, c125, -getElem?_pos, hp]) | (simp (disch := omega) only [AC]) | ((with_reducible refine A9 128 ?_); (refine' CallP.sf ?_ (hh) ?_); (focus first | (with_reducible exact A0 _) | (simp [A5, A4, A1, A0]; done))) | (with_reducible first | refine A8 ?_ ?_ ?_ | exact AB | assumption | refine A2 ?_ | refine KM.of ?_ | refine AD ?_ | refine AI ?_ | refine AJ ?_ | refine AH ?_ | intro _g _hg | refine AE ?_ ?_ | intro _hc) | omega)
  refine LoopK.go (fun f st => ∃ (r1 : As) (vs : List Int) (z : Nat) (t : Tok) (n1 : Nat) (H1 : A7), st = ⟨[(0, .ptr gp 0), (1, .ptr gS 0)], n1, H1⟩ ∧ n ≤ n1 ∧ (∀ g, n1 ≤ g → H1 g = none) ∧ (∀ g, g < n → g ≠ gp → g ≠ gS → H1 g = H g) ∧ H1 gp = some (Ak r1 gm) ∧ H1 gS = some (Ab k o m (.sl z (vs.map aI) t) ps) ∧ TokOk t vs.length H1 n1 ∧ (t ≠ .nil → z = 1) ∧ (∀ g, Bh t g → n ≤ g) ∧ Qn f r1 vs = Qn (r.length + 1) r [] ∧ r1.length < f ∧ vs.length + r1.length ≤ 4000) (r.length + 1) ⟨r, [], 0, .nil, n, H, rfl, Nat.le_refl _, hs, fun _ _ _ _ => rfl, hp, hS, rfl, fun h => absurd rfl h, fun g h => h.elim, rfl, by omega, by simpa using hr⟩ ?_
  rintro f st ⟨r1, vs, z, t, n1, H1, rfl, hn1, hs1, hfr, q1, q2, hT, hz, hTn, hE, hlf, hvl⟩ J hJ
  obtain ⟨f, rfl⟩ : ∃ f', f = f' + 1 := ⟨f - 1, by omega⟩
  have hnum := SP r1 gp gm n1 H1 (by omega) q1
  have hd1 := EU Ay r1
  rw [Qn] at hE
  generalize hd : HP (r1.takeWhile Ay) = d at *
  generalize hr2 : r1.dropWhile Ay = r2 at *
  by_cases hd2 : d.2 = true
  ·rw [if_pos hd2] at hE
   rw [hd2] at hnum
   have hac : ∀ n2 H2, H2 gp = some (Ak r2 gm) → AUpd Tryz.prog 85 [.ptr gp 0, .str [44]] n2 H2 (.bool (acc 44 r2).2) gp (Ak (acc 44 r2).1 gm) := fun n2 H2 h => HJ r2 44 gp gm n2 H2 h
   have hal := Dh 44 r2
   have han : (acc 44 r2).2 = false → (acc 44 r2).1 = r2 := WK
   have hvl2 : (vs.map aI).length = vs.length := by simp
   have hvm : (vs ++ [d.1]).map aI = vs.map aI ++ [aI d.1] := by simp
   have hvs1 : r1.length ≠ 0 := by
    intro e
    have := List.length_eq_zero_iff.1 e
    subst this
    rw [← hd] at hd2
    simp [HP, Lib.atoiAll, Lib.signless, Lib.parseMag] at hd2
   generalize hac1 : acc 44 r2 = a at *
   by_cases ha2 : a.2 = true
   ·rw [if_pos ha2] at hE
    rw [ha2] at hac
    
    repeat' (first | (simp -implicitDefEqProofs [GJ, GM, GU, c125, -getElem?_pos, q1, q2, Ne.symm hne, hne, splice]) | (simp (disch := omega) only [AC]) | (refine Hv (by rw [hvl2]; exact hT.at_ (fun k hk => by have := hT.lt k hk; have := hTn k hk; simp (disch := omega) only [upd_ne]) (by omega)) hz (by rw [hvl2]; omega) (fun k hk => by simp (disch := omega) only [upd_ne]; exact hs1 k (by omega)) (fun g' n2 H2 k1 k2 k3 k4 k5 k6 k7 => ?_); have e1 : H2 gS = _ := (k4 gS (by omega) (fun h => by have := hTn gS h; omega)); have e2 : H2 gp = _ := (k4 gp (by omega) (fun h => by have := hTn gp h; omega)); rw [upd_ne (by omega), upd_ne (Ne.symm hne), q2] at e1; rw [upd_ne (by omega), AO] at e2; have q2 := e1) | ((with_reducible refine Ae 127 ?_); (refine' CallK.sfU ?_ (hnum) ?_); (focus first | (with_reducible exact A0 _) | (simp [A5, A4, A1, A0]; done))) | ((with_reducible refine Ae 85 ?_); (refine' CallK.sfU ?_ ((hac _ _ (by simp (disch := omega) only [upd_ne]; exact e2))) ?_); (focus first | (with_reducible exact A0 _) | (simp [A5, A4, A1, A0]; done))) | (with_reducible first | refine A8 ?_ ?_ ?_ | exact AB | assumption | refine A2 ?_ | refine KM.of ?_ | refine AD ?_ | refine AI ?_ | refine AJ ?_ | refine AH ?_ | intro _g _hg | refine AE ?_ ?_ | intro _hc) | omega)
    have hal2 := hal.2 ha2
    have hgg : g' ≠ gp := fun e => k1.elim (fun h => by have := hTn g' h; omega) (fun h => by omega)
    have hgg2 : g' ≠ gS := fun e => k1.elim (fun h => by have := hTn g' h; omega) (fun h => by omega)
    refine hJ f _ (by omega) ⟨a.1, vs ++ [d.1], 1, .own g', n2, _, rfl, by omega, fun g hg => by simp (disch := omega) only [upd_ne]; exact k6 g hg, fun g h1 h2 h3 => ?_, AO _ _ _, by rw [upd_ne (Ne.symm hne), AO, hvm], ⟨by rw [upd_ne hgg, upd_ne hgg2, k5]; simp, k3⟩, fun _ => rfl, fun g hg => ?_, hE, by omega, by simp; omega⟩
    ·rw [upd_ne h2, upd_ne h3, k4 g (by omega) (fun h => by have := hTn g h; omega), upd_ne (by omega), upd_ne h2]; exact hfr g h1 h2 h3
    ·have e : g = g' := hg
     exact k1.elim (fun h => by rw [e]; exact hTn g' h) (fun h => by omega)
   ·rw [if_neg ha2] at hE
    rw [Bool.not_eq_true] at ha2
    rw [ha2] at hac
    
    repeat' (first | (simp -implicitDefEqProofs [GJ, GM, GU, c125, -getElem?_pos, q1, q2, Ne.symm hne, hne, splice]) | (simp (disch := omega) only [AC]) | (refine Hv (by rw [hvl2]; exact hT.at_ (fun k hk => by have := hT.lt k hk; have := hTn k hk; simp (disch := omega) only [upd_ne]) (by omega)) hz (by rw [hvl2]; omega) (fun k hk => by simp (disch := omega) only [upd_ne]; exact hs1 k (by omega)) (fun g' n2 H2 k1 k2 k3 k4 k5 k6 k7 => ?_); have e1 : H2 gS = _ := (k4 gS (by omega) (fun h => by have := hTn gS h; omega)); have e2 : H2 gp = _ := (k4 gp (by omega) (fun h => by have := hTn gp h; omega)); rw [upd_ne (by omega), upd_ne (Ne.symm hne), q2] at e1; rw [upd_ne (by omega), AO] at e2; have q2 := e1) | ((with_reducible refine Ae 127 ?_); (refine' CallK.sfU ?_ (hnum) ?_); (focus first | (with_reducible exact A0 _) | (simp [A5, A4, A1, A0]; done))) | ((with_reducible refine Ae 85 ?_); (refine' CallK.sfU ?_ ((hac _ _ (by simp (disch := omega) only [upd_ne]; exact e2))) ?_); (focus first | (with_reducible exact A0 _) | (simp [A5, A4, A1, A0]; done))) | (with_reducible first | refine A8 ?_ ?_ ?_ | exact AB | assumption | refine A2 ?_ | refine KM.of ?_ | refine AD ?_ | refine AI ?_ | refine AJ ?_ | refine AH ?_ | intro _g _hg | refine AE ?_ ?_ | intro _hc) | omega)
    subst hR
    rw [← hE]
    refine Au (x := .bool true) (by simp -implicitDefEqProofs [-getElem?_pos]) (A1 _) (by omega) (fun g hg => by simp (disch := omega) only [upd_ne]; exact k6 g hg) ⟨by omega, fun g hg => by simp (disch := omega) only [upd_ne]; exact k6 g hg, fun g h1 h2 h3 => ?_, rfl, AO _ _ _, 1, .own g', .inl rfl, by rw [upd_ne (Ne.symm hne), AO, hvm]⟩
    rw [upd_ne h2, upd_ne h3, k4 g (by omega) (fun h => by have := hTn g h; omega), upd_ne (by omega), upd_ne h2]; exact hfr g h1 h2 h3
  ·rw [if_neg hd2] at hE
   rw [Bool.not_eq_true] at hd2
   rw [hd2] at hnum
   
   repeat' (first | (simp -implicitDefEqProofs [GJ, GM, GU, c125, -getElem?_pos, q1, q2, Ne.symm hne, hne, splice]) | (simp (disch := omega) only [AC]) | ((with_reducible refine Ae 127 ?_); (refine' CallK.sfU ?_ (hnum) ?_); (focus first | (with_reducible exact A0 _) | (simp [A5, A4, A1, A0]; done))) | (with_reducible first | refine A8 ?_ ?_ ?_ | exact AB | assumption | refine A2 ?_ | refine KM.of ?_ | refine AD ?_ | refine AI ?_ | refine AJ ?_ | refine AH ?_ | intro _g _hg | refine AE ?_ ?_ | intro _hc) | omega)
   subst hR
   rw [← hE]
   exact Au (x := .bool false) (by simp -implicitDefEqProofs [-getElem?_pos]) (A1 _) (by omega) (fun g hg => by simp (disch := omega) only [upd_ne]; exact hs1 g hg) ⟨by omega, fun g hg => by simp (disch := omega) only [upd_ne]; exact hs1 g hg, fun g h1 h2 h3 => by rw [upd_ne h2]; exact hfr g h1 h2 h3, rfl, ⟨_, AO _ _ _⟩, _, by rw [upd_ne (Ne.symm hne)]; exact q2⟩
end Go.Proofs.YtjdccdelcnmocaaGreatDoor
