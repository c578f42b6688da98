/- Streams: the program's capped bound; no condition. -/
import Derived.Test.YtjdccdelcnmocaaGreatDoorMgK
import Derived.Test.YtjdccdelcnmocaaGreatDoorMdM
import Derived.Test.YtjdccdelcnmocaaGreatDoorMdP
import Derived.Test.YtjdccdelcnmocaaGreatDoorMgJ
set_option linter.all false
set_option maxHeartbeats 2000000
namespace Go.Proofs.YtjdccdelcnmocaaGreatDoor
attribute [local simp] Ng FD FC Lc MV LI Ni FN FF HQ HO Lg MC Nq MZ Ny No NG NY LV LZ M0 MT Ly LJ Tq pe N9 Ld MD Lv N1 Nf Li O7 Mz N4 Mx Mc Ln FU O5 OC Lk Nt NR Na Mr Ma OD Mh LX NT LR Ms MX LN Np N0 Ls LH Lf Ey MY F4 LL Lo OA O0 M9 Nj M4 MF MA MG NF N7 Mt Mi Mo Lw Mq MQ MH Mj N8 Nv Nr Ns Nm FX M1 Nh Mw Lu Mk Md M8 NZ O8 NJ MJ MS Nd M2 Lp NA N5 Mn Lt NQ NX NN MI Nc NW LW NK Mf Mp Nu Ja Ll List.mem_cons guardK EE G9 GK HN LK F3 FL F8 FO FJ FG FQ FY Ez LF ME FV LM MP M7 Lh N3 MM F1 MW NL NV LG LU Lr HS FT FB FS FM Nn M5 FP LQ F9 Lj F6 FA Nz F5 F2 Lq My ND NU NH MB Lm OB Tt KK Ki Hc KI Ju K7 Eb Gt HA MN Gm Gu EZ ED Wm Jx Kn Gq Ji Js E5 Dd BZ B9 CA DW AA ev get put Fc AC EC Mb MK Lx O4 KL NP Eu part B8 HY N2 HB isNil DA DG Dz DK DH NO O6 OF NS M3 Ke LY Mu Nl MR OE Nk Nb LT Nw Mv AV.fits AV.cells ones AV.one EP Bw EN DX Fb Ev Mm Fy GE CW Bd CB F7 GI AP BD Xd HU N6 Me List.getElem?_cons_zero List.getElem?_cons_succ FW FH F0 NB NM NI HW Ml MO NE Lz ML M6 Mg MU Nx O9 LP
variable {p : List St} {x : St} {j : Nat} {k o m : Int} {v : List Int} {H H1 : A1} {F : Fut} {c : AQ} {R : DD}
theorem SJ (k o m : Int) (v : List Int) (x : St) (hk : k = 5 ∨ k = 12) (hm : 0 ≤ m ∧ m ≤ 5000) (hx : APure Tryz.prog 70 [encS x] (aI (min (Ac x) 5001 : Nat))) : APure Tryz.prog 70 [encS (.mk k o m v [x])] (aI (min (Ac (.mk k o m v [x])) 5001 : Nat)) := by
 have hxf := C0 x
 have hb : min (Ac (.mk k o m v [x])) 5001 = min (Ei k m v [min (Ac x) 5001]) 5001 := by
  rw [Ac, P5]; rfl
 rw [hb]
 obtain ⟨b, hb'⟩ : ∃ b, min (Ac x) 5001 = b := ⟨_, rfl⟩
 have hb5 : b ≤ 5001 := by omega
 rw [hb'] at hx ⊢
 obtain ⟨m', rfl⟩ : ∃ m' : Nat, m = m' := ⟨m.toNat, by omega⟩
 rw [AN, AZ, AZ]
 generalize encS x = ex at *
 rcases hk with rfl | rfl
 ·have hz : (min (Ei 5 m' v [b]) 5001 : Nat) = min (min m' b) 5001 := by simp [Ei]
  rw [hz]
  
  refine A8 Tryz.func70 QW rfl fun n H hH => ?_
  repeat' (first | simp -implicitDefEqProofs [E4, Dr, Du, Dw, Dn, Dv, Dy, Dq, Dp, Zm, -getElem?_pos, hxf, -AV.fits, AH, AK] | simp (disch := omega) only [A6] | ((with_reducible refine AO 70 ?_); (refine' CallP.sf ?_ (hx) ?_); (focus first | (with_reducible exact A0 _) | (simp [AK, AH, A4, A0]; done))) | (with_reducible first | exact AG | refine Ai ?_ | intro _g _hg | refine A5 ?_ ?_ | intro _hc) | omega)
  all_goals (refine Bh ?_; grind)
 ·have hz : (min (Ei 12 m' v [b]) 5001 : Nat) = min (m' * b) 5001 := by simp [Ei]
  rw [hz]
  have hmb : m' * b ≤ 5000 * 5001 := Nat.mul_le_mul (by omega) hb5
  have hmc : ((m' * b : Nat) : Int) = (m' : Int) * b := Int.natCast_mul _ _
  
  refine A8 Tryz.func70 QW rfl fun n H hH => ?_
  repeat' (first | simp -implicitDefEqProofs [E4, Dr, Du, Dw, Dn, Dv, Dy, Dq, Dp, Zm, -getElem?_pos, hxf, -AV.fits, AH, AK] | simp (disch := omega) only [A6] | ((with_reducible refine AO 70 ?_); (refine' CallP.sf ?_ (hx) ?_); (focus first | (with_reducible exact A0 _) | (simp [AK, AH, A4, A0]; done))) | (with_reducible first | exact AG | refine Ai ?_ | intro _g _hg | refine A5 ?_ ?_ | intro _hc) | omega)
  all_goals (rw [← hmc, IntKind.i64_wrap_id (by omega) (by omega)]; omega)
theorem TE (o m : Int) (v : List Int) (x y : St) (hx : APure Tryz.prog 70 [encS x] (aI (min (Ac x) 5001 : Nat))) (hy : APure Tryz.prog 70 [encS y] (aI (min (Ac y) 5001 : Nat))) : APure Tryz.prog 70 [encS (.mk 15 o m v [x, y])] (aI (min (Ac (.mk 15 o m v [x, y])) 5001 : Nat)) := by
 have hxf := C0 x
 have hyf := C0 y
 have hb : min (Ac (.mk 15 o m v [x, y])) 5001 = min (min (Ac x) 5001) (min (Ac y) 5001) := by
  simp [Ac, Of, Ei]; omega
 rw [hb]
 obtain ⟨b, hb'⟩ : ∃ b, min (Ac x) 5001 = b := ⟨_, rfl⟩
 obtain ⟨c, hc'⟩ : ∃ c, min (Ac y) 5001 = c := ⟨_, rfl⟩
 have hb5 : b ≤ 5001 := by omega
 have hc5 : c ≤ 5001 := by omega
 rw [hb'] at hx ⊢
 rw [hc'] at hy ⊢
 rw [AN, AZ, AZ, AZ]
 generalize encS x = ex at *
 generalize encS y = ey at *
 
 refine A8 Tryz.func70 QW rfl fun n H hH => ?_
 repeat' (first | simp -implicitDefEqProofs [E4, Dr, Du, Dw, Dn, Dv, Dy, Dq, Dp, Zm, -getElem?_pos, hxf, hyf, -AV.fits, AH, AK] | simp (disch := omega) only [A6] | ((with_reducible refine AO 70 ?_); (refine' CallP.sf ?_ (hx) ?_); (focus first | (with_reducible exact A0 _) | (simp [AK, AH, A4, A0]; done))) | ((with_reducible refine AO 70 ?_); (refine' CallP.sf ?_ (hy) ?_); (focus first | (with_reducible exact A0 _) | (simp [AK, AH, A4, A0]; done))) | (with_reducible first | exact AG | refine Ai ?_ | intro _g _hg | refine A5 ?_ ?_ | intro _hc) | omega)
 all_goals first | omega | (refine Bh ?_; grind)
theorem Se {l : List Nat} {i x : Nat} (h : l[i]? = some x) : (l.take (i + 1)).sum = (l.take i).sum + x := by
 rw [List.take_succ, h]; simp
theorem Vf (c : Nat) (p : List St) (h : p.length ≤ 60) (i : Nat) : ((p.map fun s => min (Ac s) c).take i).sum ≤ 60 * c := by
 have g : ∀ l : List Nat, (∀ x ∈ l, x ≤ c) → l.sum ≤ l.length * c := by
  intro l hl
  induction l with
  | nil => simp
  | cons a r ih =>
   have h1 := hl a (by simp)
   have h2 := ih fun x hx => hl x (by simp [hx])
   simp only [List.sum_cons, List.length_cons, Nat.succ_mul]
   omega
 have h1 := g ((p.map fun s => min (Ac s) c).take i) (by
  intro x hx
  obtain ⟨s, _, rfl⟩ := List.mem_map.1 (List.mem_of_mem_take hx)
  omega)
 have h2 : ((p.map fun s => min (Ac s) c).take i).length ≤ 60 := by simp; omega
 exact Nat.le_trans h1 (Nat.mul_le_mul_right c h2)
theorem TH (k o m : Int) (v : List Int) (p : List St) (h1 : k ≠ 1) (h2 : k ≠ 2) (h5 : k ≠ 5) (h12 : k ≠ 12) (h15 : k ≠ 15) (hp : p.length ≤ 60) (hx : ∀ x ∈ p, APure Tryz.prog 70 [encS x] (aI (min (Ac x) 5001 : Nat))) : APure Tryz.prog 70 [encS (.mk k o m v p)] (aI (min (Ac (.mk k o m v p)) 5001 : Nat)) := by
 have hb : min (Ac (.mk k o m v p)) 5001 = min (p.map fun s => min (Ac s) 5001).sum 5001 := by
  rw [Ac, P5, Hm, List.map_map]
  simp [Ei, h1, h2, h5, h12, h15, Function.comp_def]
 have hcl := Vf 5001 p hp
 have hpl := Bn p
 rw [hb]
 rw [AN]
 
 refine A8 Tryz.func70 QW rfl fun n H hH => ?_
 repeat' (first | simp -implicitDefEqProofs [Zm, E4, Dr, Du, Dw, Dn, Dv, Dy, Dq, Dp, Zm, -getElem?_pos, h1, h2, h5, h12, h15] | simp (disch := omega) only [A6] | (with_reducible first | exact AG | refine Ai ?_ | intro _g _hg | refine A5 ?_ ?_ | intro _hc) | omega)
 refine LoopK.go (fun r st => ∃ (j n1 : Nat) (H1 : A1), j + r = p.length ∧ st = ⟨[(3, aI (((p.map fun s => min (Ac s) 5001).take j).sum : Nat)), (9, .sl 5 (AZ p) .ro), (10, aI p.length), (11, aI j)], n1, H1⟩ ∧ n ≤ n1 ∧ SameB n H H1) p.length ⟨0, _, _, by omega, by simp [hpl]; exact ⟨rfl, rfl⟩, by omega, by intro q hq; simp only [upd]; (repeat' split) <;> first | rfl | omega⟩ ?_
 rintro r st ⟨j, n1, H1, hj, rfl, hn1, hsame⟩ J hJ
 by_cases hjl : j < p.length
 ·obtain ⟨x, hx'⟩ : ∃ x, p[j]? = some x := ⟨_, List.getElem?_eq_getElem hjl⟩
  have hb := hx x (List.mem_of_getElem? hx')
  have hxe := GN hx'
  have hxf := C0 x
  have hjl' : (j : Int) < p.length := by omega
  have hs := Se (l := p.map fun s => min (Ac s) 5001) (i := j) (x := min (Ac x) 5001) (by rw [List.getElem?_map, hx']; rfl)
  have hc1 := hcl j
  generalize ((p.map fun s => min (Ac s) 5001).take j).sum = a at *
  obtain ⟨b, hb'⟩ : ∃ b, min (Ac x) 5001 = b := ⟨_, rfl⟩
  have hb5 : b ≤ 5001 := by omega
  rw [hb'] at hb hs
  obtain ⟨k', o', m', v', p'⟩ := x
  rw [AN] at hb hxe hxf
  generalize AZ p = ep at *
  generalize AZ p' = ep' at *
  generalize v'.map aI = ev' at *
  
  repeat' (first | simp -implicitDefEqProofs [E4, Dr, Du, Dw, Dn, Dv, Dy, Dq, Dp, Zm, -getElem?_pos, hjl', hxe, splice] | simp (disch := omega) only [A6] | ((with_reducible refine AO 70 ?_); refine' Aa (hb) ?_) | (with_reducible first | exact AG | refine Ai ?_ | intro _g _hg | refine A5 ?_ ?_ | intro _hc) | omega)
  exact hJ (r - 1) _ (by omega) ⟨j + 1, _, _, by omega, by rw [hs]; rfl, by omega, by intro q hq; simp only [upd]; (repeat' split) <;> first | (exact hsame q hq) | omega⟩
 ·have hjl' : ¬ (j : Int) < p.length := by omega
  have hc1 := hcl j
  have e : (p.map fun s => min (Ac s) 5001).take j = p.map fun s => min (Ac s) 5001 := List.take_of_length_le (by simp; omega)
  rw [e] at hc1 ⊢
  generalize (p.map fun s => min (Ac s) 5001).sum = a at *
  
  repeat' (first | simp -implicitDefEqProofs [E4, Dr, Du, Dw, Dn, Dv, Dy, Dq, Dp, Zm, -getElem?_pos, hjl', AH, AK] | simp (disch := omega) only [A6] | (with_reducible first | exact AG | refine Ai ?_ | intro _g _hg | refine A5 ?_ ?_ | intro _hc) | omega)
  all_goals first | omega | exact hsame | (refine Bh ?_; grind)
theorem J7 (k o m : Int) (v : List Int) (p : List St) (hk : k = 1 ∨ k = 2) (hb : APure Tryz.prog 36 [encS (.mk k o m v p)] (aI (Ac (.mk k o m v p) : Nat))) : APure Tryz.prog 70 [encS (.mk k o m v p)] (aI (min (Ac (.mk k o m v p)) 5001 : Nat)) := by
 generalize Ac (.mk k o m v p) = b at *
 rw [AN] at hb ⊢
 generalize AZ p = ep at *
 generalize v.map aI = ev at *
 rcases hk with rfl | rfl
 ·
  refine A8 Tryz.func70 QW rfl fun n H hH => ?_
  repeat' (first | simp -implicitDefEqProofs [E4, Dr, Du, Dw, Dn, Dv, Dy, Dq, Dp, Zm, -getElem?_pos, AH, AK] | simp (disch := omega) only [A6] | ((with_reducible refine AO 36 ?_); refine' Aa (hb) ?_) | (with_reducible first | exact AG | refine Ai ?_ | intro _g _hg | refine A5 ?_ ?_ | intro _hc) | omega)
  all_goals first | omega | (refine Bh ?_; grind)
 ·
  refine A8 Tryz.func70 QW rfl fun n H hH => ?_
  repeat' (first | simp -implicitDefEqProofs [E4, Dr, Du, Dw, Dn, Dv, Dy, Dq, Dp, Zm, -getElem?_pos, AH, AK] | simp (disch := omega) only [A6] | ((with_reducible refine AO 36 ?_); refine' Aa (hb) ?_) | (with_reducible first | exact AG | refine Ai ?_ | intro _g _hg | refine A5 ?_ ?_ | intro _hc) | omega)
  all_goals first | omega | (refine Bh ?_; grind)
theorem Vz (s : St) : EG s → T8 s → Bj s ≤ 60 → APure Tryz.prog 70 [encS s] (aI (min (Ac s) 5001 : Nat)) := by
 refine St.ind (Q := fun s => EG s → T8 s → Bj s ≤ 60 → APure Tryz.prog 70 [encS s] (aI (min (Ac s) 5001 : Nat))) ?_ s
 intro k o m v p ih hf hok hsz
 obtain ⟨hv, hp, hpp⟩ := hf
 obtain ⟨hn, hop⟩ := hok
 have hN := Hk hn
 simp only [Bj] at hsz
 have hpl := EI p
 have hx : ∀ x ∈ p, APure Tryz.prog 70 [encS x] (aI (min (Ac x) 5001 : Nat)) := fun x hx => ih x hx (EF hpp x hx) (GM hop x hx) (by have := Fz x hx; omega)
 by_cases h1 : k = 1
 ·subst h1
  exact J7 1 o m v p (.inl rfl) (by rw [Ac]; exact UM o m v p hv)
 by_cases h2 : k = 2
 ·subst h2
  exact J7 2 o m v p (.inr rfl) (by rw [Ac]; exact WI o m v p (hN.rng rfl) hN.vals)
 by_cases h5 : k = 5 ∨ k = 12
 ·obtain ⟨x, rfl⟩ := List.length_eq_one_iff.1 (hN.one (by omega) (by omega) (by omega) (by omega) (by omega) (by omega))
  refine SJ k o m v x h5 ?_ (hx x (by simp))
  have hm := hN.num (by rcases h5 with rfl | rfl <;> rfl)
  rcases h5 with rfl | rfl <;> simp [Io, Iv, Cj] at hm <;> omega
 by_cases h15 : k = 15
 ·subst h15
  have h2 := hN.two (.inl rfl)
  match p, h2 with
  | [x, y], _ => exact TE o m v x y (hx x (by simp)) (hx y (by simp))
 exact TH k o m v p h1 h2 (fun e => h5 (.inl e)) (fun e => h5 (.inr e)) h15 (by omega) hx
theorem VY {j q : Nat} (h : p[j]? = some x) : (GF (p.drop j) q).2 = (if (E9 x q).2 < 0 then (GF (p.drop (j + 1)) (q + Bj x)).2 else (E9 x q).2) := by
 rw [drop_at h, GF, Om]
theorem Ur (h : p[j]? = some x) : CX (p.drop j) = Bj x + CX (p.drop (j + 1)) := by
 rw [drop_at h, CX]
theorem A0u (s : St) : EG s → T8 s → Bj s ≤ 60 → ∀ i : Nat, i + Bj s ≤ 100 → APure Tryz.prog 41 [encS s, aI i] (.tup [aI (E9 s i).2, aI (Bj s : Nat)]) := by
 refine St.ind (Q := fun s => EG s → T8 s → Bj s ≤ 60 → ∀ i : Nat, i + Bj s ≤ 100 → APure Tryz.prog 41 [encS s, aI i] (.tup [aI (E9 s i).2, aI (Bj s : Nat)])) ?_ s
 intro k o m v p ih hf hok hsz i hi
 have hbd := Vz (.mk k o m v p) hf hok hsz
 obtain ⟨hv, hp, hpp⟩ := hf
 obtain ⟨hn, hop⟩ := hok
 simp only [Bj] at hsz hi
 rw [E9, Bj]
 generalize Ac (.mk k o m v p) = B at *
 rw [AN] at hbd ⊢
 have hpl := Bn p
 
 refine A8 Tryz.func41 A58 rfl fun n H hH => ?_
 repeat' (first | simp -implicitDefEqProofs [c41, Gc, Gx, Gf, Gl, Gw, Gi, c41, -getElem?_pos] | simp (disch := omega) only [A6] | (with_reducible first | exact AG | refine Ai ?_ | intro _g _hg | refine A5 ?_ ?_ | intro _hc) | omega)
 refine LoopK.go (fun r st => ∃ (j c n1 : Nat) (w : Int) (H1 : A1), j + r = p.length ∧ st = ⟨[(1, aI i), (2, .ptr _g 0), (4, aI w), (5, aI c), (11, .sl 5 (AZ p) .ro), (12, aI p.length), (13, aI j)], n1, H1⟩ ∧ _g < n1 ∧ 1 ≤ c ∧ c + CX (p.drop j) = CX p + 1 ∧ -1 ≤ w ∧ (GF p (i + 1)).2 = (if w < 0 then (GF (p.drop j) (i + c)).2 else w) ∧ SameB n H H1 ∧ H1 _g = some (.cells 25 [aI k, aI o, aI m, .sl 1 (v.map aI) .ro, .sl 5 (AZ p) .ro])) p.length ?_ ?_
 ·exact ⟨0, 1, _, -1, _, by omega, by rw [hpl]; rfl, by omega, by omega, by simp; omega, by omega, by simp, by intro q hq; simp only [upd]; (repeat' split) <;> first | rfl | omega, by simp (disch := omega) only [upd_ne, AP]⟩
 rintro r st ⟨j, c, n1, w, H1, hj, rfl, hn1, hc1, hcs, hw, hE, hsame, q1⟩ J hJ
 by_cases hjl : j < p.length
 ·obtain ⟨x, hx'⟩ : ∃ x, p[j]? = some x := ⟨_, List.getElem?_eq_getElem hjl⟩
  have hxm := List.mem_of_getElem? hx'
  have hsm := Fz x hxm
  rw [Ur hx'] at hcs
  have hst := ih x hxm (EF hpp x hxm) (GM hop x hxm) (by omega) (i + c) (by omega)
  have hxe := GN hx'
  have hxf := C0 x
  have hjl' : (j : Int) < p.length := by omega
  have hwx := (Ks x (i + c)).1
  rw [VY hx'] at hE
  rw [show ((i + c : Nat) : Int) = i + c from Int.natCast_add _ _] at hst
  generalize (E9 x (i + c)).2 = wx at *
  generalize hsx : Bj x = sx at *
  obtain ⟨k', o', m', v', p'⟩ := x
  rw [AN] at hst hxe hxf
  generalize AZ p = ep at *
  generalize AZ p' = ep' at *
  generalize v'.map aI = ev' at *
  by_cases hw0 : w < 0
  ·rw [if_pos hw0] at hE
   
   repeat' (first | simp -implicitDefEqProofs [Gc, Gx, Gf, Gl, Gw, Gi, c41, -getElem?_pos, hjl', hxe, hw0, splice] | simp (disch := omega) only [A6] | ((with_reducible refine AO 41 ?_); refine' Aa (hst) ?_) | (with_reducible first | exact AG | refine Ai ?_ | intro _g _hg | refine A5 ?_ ?_ | intro _hc) | omega)
   exact hJ (r - 1) _ (by omega) ⟨j + 1, c + sx, _, wx, _, by omega, rfl, by omega, by omega, by omega, hwx, by rw [hE, Nat.add_assoc], by intro q hq; simp only [upd]; (repeat' split) <;> first | (exact hsame q hq) | omega, by simp (disch := omega) only [upd_ne]; exact q1⟩
  ·rw [if_neg hw0] at hE
   
   repeat' (first | simp -implicitDefEqProofs [Gc, Gx, Gf, Gl, Gw, Gi, c41, -getElem?_pos, hjl', hxe, hw0, splice] | simp (disch := omega) only [A6] | ((with_reducible refine AO 41 ?_); refine' Aa (hst) ?_) | (with_reducible first | exact AG | refine Ai ?_ | intro _g _hg | refine A5 ?_ ?_ | intro _hc) | omega)
   exact hJ (r - 1) _ (by omega) ⟨j + 1, c + sx, _, w, _, by omega, rfl, by omega, by omega, by omega, hw, by rw [hE, if_neg hw0], by intro q hq; simp only [upd]; (repeat' split) <;> first | (exact hsame q hq) | omega, by simp (disch := omega) only [upd_ne]; exact q1⟩
 ·have hjl' : ¬ (j : Int) < p.length := by omega
  rw [List.drop_eq_nil_of_le (by omega), CX] at hcs
  rw [List.drop_eq_nil_of_le (by omega), GF] at hE
  have hE' : (GF p (i + 1)).2 = w := by rw [hE]; split <;> omega
  rw [hE']
  by_cases hB : 5000 < B
  ·rw [if_pos hB]
   have hB' : min B 5001 = 5001 := by omega
   rw [hB'] at hbd
   
   repeat' (first | simp -implicitDefEqProofs [Gc, Gx, Gf, Gl, Gw, Gi, c41, -getElem?_pos, hjl', q1, AH, AK] | simp (disch := omega) only [A6] | ((with_reducible refine AO 70 ?_); refine' Aa (hbd) ?_) | (with_reducible first | exact AG | refine Ai ?_ | intro _g _hg | refine A5 ?_ ?_ | intro _hc) | omega)
   all_goals first | omega | exact hsame | (refine Bh ?_; grind)
  ·rw [if_neg hB]
   have hB' : min B 5001 = B := by omega
   have hB2 : ¬ (5000 : Int) < B := by omega
   rw [hB'] at hbd
   
   repeat' (first | simp -implicitDefEqProofs [Gc, Gx, Gf, Gl, Gw, Gi, c41, -getElem?_pos, hjl', q1, hB2, AH, AK] | simp (disch := omega) only [A6] | ((with_reducible refine AO 70 ?_); refine' Aa (hbd) ?_) | (with_reducible first | exact AG | refine Ai ?_ | intro _g _hg | refine A5 ?_ ?_ | intro _hc) | omega)
   all_goals first | omega | exact hsame | (refine Bh ?_; grind)
theorem Ou (s : St) (hf : EG s) : APure Tryz.prog 15 [encS s] (aF (HM s)) := by
 have hvis := A0v s hf 0 (by omega)
 have hlg : (E8 s 0).2 = 0 → APure Tryz.prog 41 [encS s, aI 0] (.tup [aI (E9 s 0).2, aI (Bj s : Nat)]) := fun h => by
  obtain ⟨h1, h2, h3⟩ := KO s 0 h
  exact A0u s hf h1 (by omega) 0 (by omega)
 have hw := (Ks s 0).1
 unfold HM
 unfold RU at hvis
 unfold Re Rj at hvis
 generalize E8 s 0 = sg at *
 generalize E9 s 0 = wd at *
 generalize Bj s = sz at *
 obtain ⟨k, o, m, v, p⟩ := s
 rw [AN] at *
 generalize v.map aI = va at *
 generalize AZ p = ep at *
 
 refine A8 Tryz.func15 A5n rfl fun n H hH => ?_
 by_cases h0 : sg.2 = 0
 ·have hlg := hlg h0
  rw [if_neg (by simpa using h0)] at *
  rw [if_neg (by simpa using h0)] at hvis
  repeat' (first | simp -implicitDefEqProofs [QU, Q4, c15, -getElem?_pos, splice, AH, AK] | simp (disch := omega) only [A6] | ((with_reducible refine B0 39 ?_); refine ⟨_, TK _ _, ?_⟩; rintro r n' H' hle hsup ⟨gm, rfl, hg1, rfl, rfl⟩; dsimp only at hg1 hle) | ((with_reducible refine B0 40 ?_); (refine' CallK.sfU ?_ ((hvis _g gm _ _ (by simp (disch := omega) only [upd_ne, AP] <;> rfl) (by simp (disch := omega) only [upd_ne, AP] <;> rfl))) ?_); (focus first | (with_reducible exact A0 _) | (simp [AK, AH, A4, A0]; done))) | ((with_reducible refine AO 41 ?_); refine' Aa (hlg) ?_) | (with_reducible first | exact AG | refine Ai ?_ | intro _g _hg | refine A5 ?_ ?_ | intro _hc) | omega)
 ·rw [if_pos h0] at *
  rw [if_pos h0] at hvis
  repeat' (first | simp -implicitDefEqProofs [QU, Q4, c15, -getElem?_pos, h0, splice, AH, AK] | simp (disch := omega) only [A6] | ((with_reducible refine B0 39 ?_); refine ⟨_, TK _ _, ?_⟩; rintro r n' H' hle hsup ⟨gm, rfl, hg1, rfl, rfl⟩; dsimp only at hg1 hle) | ((with_reducible refine B0 40 ?_); (refine' CallK.sfU ?_ ((hvis _g gm _ _ (by simp (disch := omega) only [upd_ne, AP] <;> rfl) (by simp (disch := omega) only [upd_ne, AP] <;> rfl))) ?_); (focus first | (with_reducible exact A0 _) | (simp [AK, AH, A4, A0]; done))) | (with_reducible first | exact AG | refine Ai ?_ | intro _g _hg | refine A5 ?_ ?_ | intro _hc) | omega)
abbrev G7 (s : St) : Prop := APure Tryz.prog 17 [encS s] (aI (min (Ac s) 100000 : Nat))
theorem Wo (o m : Int) (v : List Int) (p : List St) (hv : v.length ≤ 140737488355328) : G7 (.mk 1 o m v p) := by
 unfold G7
 have hb : Ac (.mk 1 o m v p) = v.length := by simp [Ac, Ei]
 rw [hb]
 have hvl : (v.map aI).length = v.length := by simp
 rw [AN]
 generalize v.map aI = va at *
 by_cases h : 100000 < v.length
 ·have h' : (100000 : Int) < v.length := by omega
  have e : min v.length 100000 = 100000 := by omega
  rw [e]
  
  refine A8 Tryz.func17 Qc rfl fun n H hH => ?_
  repeat' (first | simp -implicitDefEqProofs [BV, BQ, BF, BR, BI, BH, BN, BT, BM, Aq, Am, Al, An, Ao, Ap, Ry, -getElem?_pos, hvl, h, h', AH, AK] | simp (disch := omega) only [A6] | (with_reducible first | exact AG | refine Ai ?_ | intro _g _hg | refine A5 ?_ ?_ | intro _hc) | omega)
 ·have h' : ¬ (100000 : Int) < v.length := by omega
  have e : min v.length 100000 = v.length := by omega
  rw [e]
  
  refine A8 Tryz.func17 Qc rfl fun n H hH => ?_
  repeat' (first | simp -implicitDefEqProofs [BV, BQ, BF, BR, BI, BH, BN, BT, BM, Aq, Am, Al, An, Ao, Ap, Ry, -getElem?_pos, hvl, h, h', AH, AK] | simp (disch := omega) only [A6] | (with_reducible first | exact AG | refine Ai ?_ | intro _g _hg | refine A5 ?_ ?_ | intro _hc) | omega)
theorem Xr (o m a b c : Int) (p : List St) (hv : 0 ≤ a ∧ a ≤ 9999 ∧ 0 ≤ b ∧ b ≤ 10000 ∧ 1 ≤ c ∧ c ≤ 9999) : G7 (.mk 2 o m [a, b, c] p) := by
 unfold G7
 have hb : Ac (.mk 2 o m [a, b, c] p) = Eg [a, b, c] := by simp [Ac, Ei]
 have hbd := RJ hv
 rw [hb]
 have e : min (Eg [a, b, c]) 100000 = Eg [a, b, c] := by omega
 rw [e]
 rw [AN]
 generalize AZ p = ep
 
 refine A8 Tryz.func17 Qc rfl fun n H hH => ?_
 repeat' (first | simp -implicitDefEqProofs [Ry, BV, BQ, BF, BR, BI, BH, BN, BT, BM, Aq, Am, Al, An, Ao, Ap, Ry, -getElem?_pos] | simp (disch := omega) only [A6] | (with_reducible first | exact AG | refine Ai ?_ | intro _g _hg | refine A5 ?_ ?_ | intro _hc) | omega)
 refine LoopK.go (fun r st => ∃ (j n1 : Nat) (H1 : A1), j + r = Eg [a, b, c] ∧ st = ⟨[(1, .ptr _g 0), (3, aI j), (4, aI (a + (j : Int) * c))], n1, H1⟩ ∧ _g < n1 ∧ SameB n H H1 ∧ H1 _g = some (Ah 2 o m (.sl 1 [aI a, aI b, aI c] .ro) (.sl 5 ep .ro))) (Eg [a, b, c]) ⟨0, _, _, by omega, by simp; exact ⟨rfl, rfl⟩, by omega, by intro q hq; simp only [upd]; (repeat' split) <;> first | rfl | omega, AP _ _ _⟩ ?_
 rintro r st ⟨j, n1, H1, hj, rfl, hn1, hsame, q1⟩ J hJ
 by_cases hjl : j < Eg [a, b, c]
 ·have hlt := (PU (a := a) (b := b) hv.2.2.2.2.1 j).2 hjl
  have hw : IntKind.i64.wrap (a + (j : Int) * c + c) = a + ((j + 1 : Nat) : Int) * c := by
   have h0 : 0 ≤ (j : Int) * c := Int.mul_nonneg (by omega) (by omega)
   have e : ((j + 1 : Nat) : Int) * c = (j : Int) * c + c := by rw [Int.natCast_add, Int.add_mul]; simp
   rw [IntWalk.i64_in _ (by omega), e]; omega
  have hw2 : IntKind.i64.wrap ((j : Int) + 1) = ((j + 1 : Nat) : Int) := by rw [IntWalk.i64_in _ (by omega)]; omega
  generalize hx1 : a + ((j + 1 : Nat) : Int) * c = x1 at *
  generalize a + (j : Int) * c = x at *
  generalize hj1 : ((j + 1 : Nat) : Int) = j1 at *
  
  repeat' (first | simp -implicitDefEqProofs [BV, BQ, BF, BR, BI, BH, BN, BT, BM, Aq, Am, Al, An, Ao, Ap, Ry, -getElem?_pos, q1, hlt, hw, hw2, splice] | simp (disch := omega) only [A6] | (with_reducible first | exact AG | refine Ai ?_ | intro _g _hg | refine A5 ?_ ?_ | intro _hc) | omega)
  exact hJ (r - 1) _ (by omega) ⟨j + 1, _, _, by omega, by rw [hj1, hx1], hn1, hsame, q1⟩
 ·have hlt : ¬ a + (j : Int) * c < b := fun h => hjl ((PU hv.2.2.2.2.1 j).1 h)
  have ej : j = Eg [a, b, c] := by omega
  have hfar : ¬ (100000 : Int) < j := by omega
  rw [← ej]
  generalize a + (j : Int) * c = x at *
  
  repeat' (first | simp -implicitDefEqProofs [BV, BQ, BF, BR, BI, BH, BN, BT, BM, Aq, Am, Al, An, Ao, Ap, Ry, -getElem?_pos, q1, hlt, hfar, AH, AK] | simp (disch := omega) only [A6] | (with_reducible first | exact AG | refine Ai ?_ | intro _g _hg | refine A5 ?_ ?_ | intro _hc) | omega)
  all_goals first | exact hsame | omega
theorem Xu (o m : Int) (v : List Int) (x y : St) (hx : G7 x) (hy : G7 y) : G7 (.mk 15 o m v [x, y]) := by
 unfold G7 at *
 have hxf := C0 x
 have hyf := C0 y
 have hb : min (Ac (.mk 15 o m v [x, y])) 100000 = min (min (Ac x) 100000) (min (Ac y) 100000) := by
  simp [Ac, Of, Ei]; omega
 rw [hb]
 obtain ⟨b, hb'⟩ : ∃ b, min (Ac x) 100000 = b := ⟨_, rfl⟩
 obtain ⟨c, hc'⟩ : ∃ c, min (Ac y) 100000 = c := ⟨_, rfl⟩
 have hb5 : b ≤ 100000 := by omega
 have hc5 : c ≤ 100000 := by omega
 rw [hb'] at hx ⊢
 rw [hc'] at hy ⊢
 rw [AN, AZ, AZ, AZ]
 generalize encS x = ex at *
 generalize encS y = ey at *
 by_cases h : c < b
 ·have h' : (c : Int) < b := by omega
  have e : min b c = c := by omega
  have hf : ¬ (100000 : Int) < c := by omega
  rw [e]
  
  refine A8 Tryz.func17 Qc rfl fun n H hH => ?_
  repeat' (first | simp -implicitDefEqProofs [BV, BQ, BF, BR, BI, BH, BN, BT, BM, Aq, Am, Al, An, Ao, Ap, Ry, -getElem?_pos, hxf, hyf, h, h', hf, -AV.fits, AH, AK] | simp (disch := omega) only [A6] | ((with_reducible refine AO 17 ?_); (refine' CallP.sf ?_ (hx) ?_); (focus first | (with_reducible exact A0 _) | (simp [AK, AH, A4, A0]; done))) | ((with_reducible refine AO 17 ?_); (refine' CallP.sf ?_ (hy) ?_); (focus first | (with_reducible exact A0 _) | (simp [AK, AH, A4, A0]; done))) | (with_reducible first | exact AG | refine Ai ?_ | intro _g _hg | refine A5 ?_ ?_ | intro _hc) | omega)
  all_goals omega
 ·have h' : ¬ (c : Int) < b := by omega
  have e : min b c = b := by omega
  have hf : ¬ (100000 : Int) < b := by omega
  rw [e]
  
  refine A8 Tryz.func17 Qc rfl fun n H hH => ?_
  repeat' (first | simp -implicitDefEqProofs [BV, BQ, BF, BR, BI, BH, BN, BT, BM, Aq, Am, Al, An, Ao, Ap, Ry, -getElem?_pos, hxf, hyf, h, h', hf, -AV.fits, AH, AK] | simp (disch := omega) only [A6] | ((with_reducible refine AO 17 ?_); (refine' CallP.sf ?_ (hx) ?_); (focus first | (with_reducible exact A0 _) | (simp [AK, AH, A4, A0]; done))) | ((with_reducible refine AO 17 ?_); (refine' CallP.sf ?_ (hy) ?_); (focus first | (with_reducible exact A0 _) | (simp [AK, AH, A4, A0]; done))) | (with_reducible first | exact AG | refine Ai ?_ | intro _g _hg | refine A5 ?_ ?_ | intro _hc) | omega)
  all_goals omega
theorem A1f (h1 : k ≠ 1) (h2 : k ≠ 2) (h15 : k ≠ 15) (hl : k = 5 ∨ k = 12 → p.length = 1) : min (Ac (.mk k o m v p)) 100000 = min (if k = 12 then m.toNat * (p.map fun s => min (Ac s) 100000).sum else if k = 5 then min m.toNat (p.map fun s => min (Ac s) 100000).sum else (p.map fun s => min (Ac s) 100000).sum) 100000 := by
 rw [Ac, P5, Hm, List.map_map]
 have e : ((min · 100000) ∘ Ac : St → Nat) = fun s => min (Ac s) 100000 := rfl
 rw [e]
 by_cases h12 : k = 12
 ·subst h12
  obtain ⟨x, rfl⟩ := List.length_eq_one_iff.1 (hl (.inr rfl))
  simp [Ei]
 ·by_cases h5 : k = 5
  ·subst h5
   obtain ⟨x, rfl⟩ := List.length_eq_one_iff.1 (hl (.inl rfl))
   simp [Ei]
  ·simp [Ei, h1, h2, h5, h12, h15]
theorem YF (k o m : Int) (v : List Int) (p : List St) (h1 : k ≠ 1) (h2 : k ≠ 2) (h15 : k ≠ 15) (hl : k = 5 ∨ k = 12 → p.length = 1) (hm : k = 5 ∨ k = 12 → 0 ≤ m ∧ m ≤ 5000) (hm12 : k = 12 → m ≤ 20) (hp : p.length ≤ 60) (hx : ∀ x ∈ p, G7 x) : G7 (.mk k o m v p) := by
 unfold G7 at *
 rw [A1f h1 h2 h15 hl]
 have hcl := Vf 100000 p hp
 have hpl := Bn p
 rw [AN]
 
 refine A8 Tryz.func17 Qc rfl fun n H hH => ?_
 repeat' (first | simp -implicitDefEqProofs [Ry, BV, BQ, BF, BR, BI, BH, BN, BT, BM, Aq, Am, Al, An, Ao, Ap, Ry, -getElem?_pos, h1, h2, h15] | simp (disch := omega) only [A6] | (with_reducible first | exact AG | refine Ai ?_ | intro _g _hg | refine A5 ?_ ?_ | intro _hc) | omega)
 refine LoopK.go (fun r st => ∃ (j n1 : Nat) (H1 : A1), j + r = p.length ∧ st = ⟨[(1, .ptr _g 0), (3, aI (((p.map fun s => min (Ac s) 100000).take j).sum : Nat)), (6, aI j)], n1, H1⟩ ∧ _g < n1 ∧ SameB n H H1 ∧ H1 _g = some (Ah k o m (.sl 1 (v.map aI) .ro) (.sl 5 (AZ p) .ro))) p.length ⟨0, _, _, by omega, by simp; exact ⟨rfl, rfl⟩, by omega, by intro q hq; simp only [upd]; (repeat' split) <;> first | rfl | omega, AP _ _ _⟩ ?_
 rintro r st ⟨j, n1, H1, hj, rfl, hn1, hsame, q1⟩ J hJ
 by_cases hjl : j < p.length
 ·obtain ⟨x, hx'⟩ : ∃ x, p[j]? = some x := ⟨_, List.getElem?_eq_getElem hjl⟩
  have hb := hx x (List.mem_of_getElem? hx')
  have hxe := GN hx'
  have hxf := C0 x
  have hjl' : (j : Int) < p.length := by omega
  have hs := Se (l := p.map fun s => min (Ac s) 100000) (i := j) (x := min (Ac x) 100000) (by rw [List.getElem?_map, hx']; rfl)
  have hc1 := hcl j
  generalize ((p.map fun s => min (Ac s) 100000).take j).sum = a at *
  obtain ⟨b, hb'⟩ : ∃ b, min (Ac x) 100000 = b := ⟨_, rfl⟩
  have hb5 : b ≤ 100000 := by omega
  rw [hb'] at hb hs
  obtain ⟨k', o', m', v', p'⟩ := x
  rw [AN] at hb hxe hxf
  generalize AZ p = ep at *
  generalize AZ p' = ep' at *
  generalize v'.map aI = ev' at *
  
  repeat' (first | simp -implicitDefEqProofs [BV, BQ, BF, BR, BI, BH, BN, BT, BM, Aq, Am, Al, An, Ao, Ap, Ry, -getElem?_pos, q1, hpl, hjl', hxe, splice] | simp (disch := omega) only [A6] | ((with_reducible refine AO 17 ?_); refine' Aa (hb) ?_) | (with_reducible first | exact AG | refine Ai ?_ | intro _g _hg | refine A5 ?_ ?_ | intro _hc) | omega)
  exact hJ (r - 1) _ (by omega) ⟨j + 1, _, _, by omega, by rw [hs]; rfl, hn1, hsame, q1⟩
 ·have hjl' : ¬ (j : Int) < p.length := by omega
  have hc1 := hcl j
  have e : (p.map fun s => min (Ac s) 100000).take j = p.map fun s => min (Ac s) 100000 := List.take_of_length_le (by simp; omega)
  rw [e] at hc1 ⊢
  generalize (p.map fun s => min (Ac s) 100000).sum = a at *
  generalize AZ p = ep at *
  by_cases h12 : k = 12
  ·subst h12
   have hm0 := hm (.inr rfl)
   have hm20 := hm12 rfl
   obtain ⟨m', rfl⟩ : ∃ m' : Nat, m = m' := ⟨m.toNat, by omega⟩
   have hma : m' * a ≤ 20 * (60 * 100000) := Nat.mul_le_mul (by omega) hc1
   have hmc : (a : Int) * (m' : Int) = ((m' * a : Nat) : Int) := by rw [Int.natCast_mul, Int.mul_comm]
   have hw : IntKind.i64.wrap ((a : Int) * (m' : Int)) = ((m' * a : Nat) : Int) := by rw [hmc, IntWalk.i64_in _ (by omega)]
   rw [if_pos rfl, Int.toNat_natCast]
   generalize m' * a = z at *
   by_cases hf : 100000 < z
   ·have hf' : (100000 : Int) < z := by omega
    have ez : min z 100000 = 100000 := by omega
    rw [ez]
    
    repeat' (first | simp -implicitDefEqProofs [BV, BQ, BF, BR, BI, BH, BN, BT, BM, Aq, Am, Al, An, Ao, Ap, Ry, -getElem?_pos, q1, hpl, hjl', hw, hf, hf', AH, AK] | simp (disch := omega) only [A6] | (with_reducible first | exact AG | refine Ai ?_ | intro _g _hg | refine A5 ?_ ?_ | intro _hc) | omega)
    all_goals first | omega | exact hsame | (refine Bh ?_; grind)
   ·have hf' : ¬ (100000 : Int) < z := by omega
    have ez : min z 100000 = z := by omega
    rw [ez]
    
    repeat' (first | simp -implicitDefEqProofs [BV, BQ, BF, BR, BI, BH, BN, BT, BM, Aq, Am, Al, An, Ao, Ap, Ry, -getElem?_pos, q1, hpl, hjl', hw, hf, hf', AH, AK] | simp (disch := omega) only [A6] | (with_reducible first | exact AG | refine Ai ?_ | intro _g _hg | refine A5 ?_ ?_ | intro _hc) | omega)
    all_goals first | omega | exact hsame | (refine Bh ?_; grind)
  ·rw [if_neg h12]
   by_cases h5 : k = 5
   ·subst h5
    have hm0 := hm (.inl rfl)
    obtain ⟨m', rfl⟩ : ∃ m' : Nat, m = m' := ⟨m.toNat, by omega⟩
    rw [if_pos rfl, Int.toNat_natCast]
    by_cases hf : m' < a
    ·have hf' : (m' : Int) < a := by omega
     have hf2 : ¬ (100000 : Int) < m' := by omega
     have ez : min (min m' a) 100000 = m' := by omega
     rw [ez]
     
     repeat' (first | simp -implicitDefEqProofs [BV, BQ, BF, BR, BI, BH, BN, BT, BM, Aq, Am, Al, An, Ao, Ap, Ry, -getElem?_pos, q1, hpl, hjl', hf, hf', hf2, AH, AK] | simp (disch := omega) only [A6] | (with_reducible first | exact AG | refine Ai ?_ | intro _g _hg | refine A5 ?_ ?_ | intro _hc) | omega)
     all_goals first | omega | exact hsame | (refine Bh ?_; grind)
    ·have hf' : ¬ (m' : Int) < a := by omega
     have hf2 : ¬ (100000 : Int) < a := by omega
     have ez : min (min m' a) 100000 = a := by omega
     rw [ez]
     
     repeat' (first | simp -implicitDefEqProofs [BV, BQ, BF, BR, BI, BH, BN, BT, BM, Aq, Am, Al, An, Ao, Ap, Ry, -getElem?_pos, q1, hpl, hjl', hf, hf', hf2, AH, AK] | simp (disch := omega) only [A6] | (with_reducible first | exact AG | refine Ai ?_ | intro _g _hg | refine A5 ?_ ?_ | intro _hc) | omega)
     all_goals first | omega | exact hsame | (refine Bh ?_; grind)
   ·rw [if_neg h5]
    by_cases hf : 100000 < a
    ·have hf' : (100000 : Int) < a := by omega
     have ez : min a 100000 = 100000 := by omega
     rw [ez]
     
     repeat' (first | simp -implicitDefEqProofs [BV, BQ, BF, BR, BI, BH, BN, BT, BM, Aq, Am, Al, An, Ao, Ap, Ry, -getElem?_pos, q1, hpl, hjl', h12, h5, hf, hf', AH, AK] | simp (disch := omega) only [A6] | (with_reducible first | exact AG | refine Ai ?_ | intro _g _hg | refine A5 ?_ ?_ | intro _hc) | omega)
     all_goals first | omega | exact hsame | (refine Bh ?_; grind)
    ·have hf' : ¬ (100000 : Int) < a := by omega
     have ez : min a 100000 = a := by omega
     rw [ez]
     
     repeat' (first | simp -implicitDefEqProofs [BV, BQ, BF, BR, BI, BH, BN, BT, BM, Aq, Am, Al, An, Ao, Ap, Ry, -getElem?_pos, q1, hpl, hjl', h12, h5, hf, hf', AH, AK] | simp (disch := omega) only [A6] | (with_reducible first | exact AG | refine Ai ?_ | intro _g _hg | refine A5 ?_ ?_ | intro _hc) | omega)
     all_goals first | omega | exact hsame | (refine Bh ?_; grind)
theorem A2i (s : St) : EG s → T8 s → Bj s ≤ 60 → G7 s := by
 refine St.ind (Q := fun s => EG s → T8 s → Bj s ≤ 60 → G7 s) ?_ s
 intro k o m v p ih hf hok hsz
 obtain ⟨hv, hp, hpp⟩ := hf
 obtain ⟨hn, hop⟩ := hok
 have hN := Hk hn
 simp only [Bj] at hsz
 have hpl := EI p
 have hx : ∀ x ∈ p, G7 x := fun x hx => ih x hx (EF hpp x hx) (GM hop x hx) (by have := Fz x hx; omega)
 by_cases h1 : k = 1
 ·subst h1; exact Wo o m v p hv
 by_cases h2 : k = 2
 ·subst h2
  obtain ⟨a, b, c, rfl, h⟩ := JA (hN.rng rfl) hN.vals
  exact Xr o m a b c p (by omega)
 by_cases h15 : k = 15
 ·subst h15
  match p, hN.two (.inl rfl) with
  | [x, y], _ => exact Xu o m v x y (hx x (by simp)) (hx y (by simp))
 have hm : k = 5 ∨ k = 12 → 0 ≤ m ∧ m ≤ 5000 := fun h => by
  have hm := hN.num (by rcases h with rfl | rfl <;> rfl)
  rcases h with rfl | rfl <;> simp [Io, Iv, Cj] at hm <;> omega
 exact YF k o m v p h1 h2 h15 (fun h => hN.one (by omega) (by omega) (by omega) (by omega) (by omega) (by omega)) hm (fun h => by have hm := hN.num (by subst h; rfl); subst h; simp [Io, Iv, Cj] at hm; omega) (by omega) hx
abbrev Uw (s : St) : Prop := ∀ i : Nat, i + Bj s ≤ 100 → APure Tryz.prog 38 [encS s, aI i] (.tup [aI ((E9 s i).1 : Nat), aI (E9 s i).2])
theorem Qo {i n g n1 : Nat} {w0 nx fd : Int} (h60 : p.length ≤ 60) (hx : ∀ x ∈ p, Uw x) (hi : i + 1 + CX p ≤ 100) (hw0 : -1 ≤ w0) (hnx : nx = ((i + 1 + CX p : Nat) : Int)) (hfd : fd = if w0 < 0 then (GF p (i + 1)).2 else w0) (hn : n ≤ g) (hg : g < n1) (hs : SameB n H H1) (q : H1 g = some (Ah k o m (.sl 1 (v.map aI) .ro) (.sl 5 (AZ p) .ro))) :
  LoopK (fun Q s => aw Tryz.prog c38_L5 Q s) (CD 0 (D6 (aw Tryz.prog c38_k1 (GD (.tup [aI nx, aI fd]) n H [.tmp 4, .tmp 5])) (GD (.tup [aI nx, aI fd]) n H [.tmp 4, .tmp 5]))) ⟨[(2, .ptr g 0), (6, aI w0), (7, aI ((i : Int) + 1)), (8, aI 0)], n1, H1⟩ := by
 have hpl := Bn p
 refine LoopK.go (fun r st => ∃ (j c n2 : Nat) (w : Int) (H2 : A1), j + r = p.length ∧ st = ⟨[(2, .ptr g 0), (6, aI w), (7, aI c), (8, aI j)], n2, H2⟩ ∧ g < n2 ∧ -1 ≤ w ∧ c + CX (p.drop j) = i + 1 + CX p ∧ (if w < 0 then (GF (p.drop j) c).2 else w) = fd ∧ SameB n H H2 ∧ H2 g = some (Ah k o m (.sl 1 (v.map aI) .ro) (.sl 5 (AZ p) .ro))) p.length ⟨0, i + 1, n1, w0, H1, by omega, by simp, hg, hw0, by simp, by rw [hfd]; rfl, hs, q⟩ ?_
 rintro r st ⟨j, c, n2, w, H2, hj, rfl, hn2, hw, hcs, hE, hsame, q1⟩ J hJ
 by_cases hjl : j < p.length
 ·obtain ⟨x, hx'⟩ : ∃ x, p[j]? = some x := ⟨_, List.getElem?_eq_getElem hjl⟩
  have hxm := List.mem_of_getElem? hx'
  rw [Ur hx'] at hcs
  have hst := hx x hxm c (by omega)
  have hxe := GN hx'
  have hxf := C0 x
  have hjl' : (j : Int) < p.length := by omega
  have hwx := (Ks x c).1
  have hwn := Om x c
  rw [VY hx'] at hE
  rw [hwn] at hst
  generalize (E9 x c).2 = wx at *
  generalize hsx : Bj x = sx at *
  obtain ⟨k', o', m', v', p'⟩ := x
  rw [AN] at hst hxe hxf
  generalize AZ p = ep at *
  generalize AZ p' = ep' at *
  generalize v'.map aI = ev' at *
  generalize hcc : ((c + sx : Nat) : Int) = cc at *
  by_cases hwz : w < 0
  ·rw [if_pos hwz] at hE
   
   repeat' (first | simp -implicitDefEqProofs [KG, Ku, Kv, KH, KB, Gk, c38, -getElem?_pos, q1, hpl, hjl', hxe, hwz, splice] | simp (disch := omega) only [A6] | ((with_reducible refine AO 38 ?_); refine' Aa (hst) ?_) | (with_reducible first | exact AG | refine Ai ?_ | intro _g _hg | refine A5 ?_ ?_ | intro _hc) | omega)
   exact hJ (r - 1) _ (by omega) ⟨j + 1, c + sx, _, wx, _, by omega, by rw [hcc]; rfl, hn2, hwx, by omega, hE, hsame, q1⟩
  ·rw [if_neg hwz] at hE
   
   repeat' (first | simp -implicitDefEqProofs [KG, Ku, Kv, KH, KB, Gk, c38, -getElem?_pos, q1, hpl, hjl', hxe, hwz, splice] | simp (disch := omega) only [A6] | ((with_reducible refine AO 38 ?_); refine' Aa (hst) ?_) | (with_reducible first | exact AG | refine Ai ?_ | intro _g _hg | refine A5 ?_ ?_ | intro _hc) | omega)
   exact hJ (r - 1) _ (by omega) ⟨j + 1, c + sx, _, w, _, by omega, by rw [hcc]; rfl, hn2, hw, by omega, by rw [if_neg hwz]; exact hE, hsame, q1⟩
 ·have hjl' : ¬ (j : Int) < p.length := by omega
  rw [List.drop_eq_nil_of_le (by omega), CX] at hcs
  rw [List.drop_eq_nil_of_le (by omega), GF] at hE
  have e1 : nx = c := by omega
  have e2 : fd = w := by rw [← hE]; split <;> omega
  subst e1 e2
  generalize AZ p = ep at *
  
  repeat' (first | simp -implicitDefEqProofs [KG, Ku, Kv, KH, KB, Gk, c38, -getElem?_pos, q1, hpl, hjl', AH, AK] | simp (disch := omega) only [A6] | (with_reducible first | exact AG | refine Ai ?_ | intro _g _hg | refine A5 ?_ ?_ | intro _hc) | omega)
  all_goals first | exact hsame | omega
theorem A2y (s : St) : EG s → T8 s → Bj s ≤ 60 → Uw s := by
 refine St.ind (Q := fun s => EG s → T8 s → Bj s ≤ 60 → Uw s) ?_ s
 intro k o m v p ih hf hok hsz i hi
 have hbd := A2i (.mk k o m v p) hf hok hsz
 obtain ⟨hv, hp, hpp⟩ := hf
 obtain ⟨hn, hop⟩ := hok
 simp only [Bj] at hsz hi
 have hx : ∀ x ∈ p, Uw x := fun x hx => ih x hx (EF hpp x hx) (GM hop x hx) (by have := Fz x hx; omega)
 have hw1 : (E9 (.mk k o m v p) i).1 = i + 1 + CX p := by rw [E9, Jp]
 have hw2 : (E9 (.mk k o m v p) i).2 = if 5000 < Ac (.mk k o m v p) then (i : Int) else (GF p (i + 1)).2 := by rw [E9]
 rw [hw1, hw2]
 unfold G7 at hbd
 generalize Ac (.mk k o m v p) = B at *
 rw [AN] at hbd ⊢
 generalize hnx : ((i + 1 + CX p : Nat) : Int) = nx
 generalize hfd : (if 5000 < B then (i : Int) else (GF p (i + 1)).2) = fd
 generalize hmb : ((min B 100000 : Nat) : Int) = mb at *
 
 refine A8 Tryz.func38 A64 rfl fun n H hH => ?_
 by_cases hB0 : 5000 < B
 ·have hB' : (5000 : Int) < mb := by omega
  rw [if_pos hB0] at hfd
  repeat' (first | simp -implicitDefEqProofs [c38, Gk, -getElem?_pos, hB'] | simp (disch := omega) only [A6] | ((with_reducible refine AO 17 ?_); refine' Aa (hbd) ?_) | (with_reducible first | exact AG | refine Ai ?_ | intro _g _hg | refine A5 ?_ ?_ | intro _hc) | omega)
  exact Qo (by have := EI p; omega) hx (by omega) (by omega) hnx.symm (by rw [if_neg (by omega)]; exact hfd.symm) (by omega) (by omega) (fun k hk => by simp (disch := omega) only [upd_ne]) (AP _ _ _)
 ·have hB' : ¬ (5000 : Int) < mb := by omega
  rw [if_neg hB0] at hfd
  repeat' (first | simp -implicitDefEqProofs [c38, Gk, -getElem?_pos, hB'] | simp (disch := omega) only [A6] | ((with_reducible refine AO 17 ?_); refine' Aa (hbd) ?_) | (with_reducible first | exact AG | refine Ai ?_ | intro _g _hg | refine A5 ?_ ?_ | intro _hc) | omega)
  exact Qo (by have := EI p; omega) hx (by omega) (by omega) hnx.symm (by rw [if_pos (by omega)]; exact hfd.symm) (by omega) (by omega) (fun k hk => by simp (disch := omega) only [upd_ne]) (AP _ _ _)
theorem Pp (s : St) (hf : EG s) : APure Tryz.prog 14 [encS s] (aF (HM s)) := by
 have hst : APure Tryz.prog 37 [encS s, aI 0] (.tup [aI ((E8 s 0).1 : Nat), aI (E8 s 0).2]) := Xv s hf 0 (by omega)
 have hwd : (E8 s 0).2 = 0 → APure Tryz.prog 38 [encS s, aI 0] (.tup [aI ((E9 s 0).1 : Nat), aI (E9 s 0).2]) := fun h => by
  obtain ⟨h1, h2, h3⟩ := KO s 0 h
  exact A2y s hf h1 (by omega) 0 (by omega)
 have hw := (Ks s 0).1
 unfold HM
 generalize E8 s 0 = sg at *
 generalize E9 s 0 = wd at *
 obtain ⟨k, o, m, v, p⟩ := s
 rw [AN] at *
 generalize v.map aI = va at *
 generalize AZ p = ep at *
 have hat := ZE
 
 refine A8 Tryz.func14 A56 rfl fun n H hH => ?_
 by_cases h0 : sg.2 = 0
 ·have hwd := hwd h0
  rw [if_neg (by simpa using h0)]
  by_cases hw0 : 0 ≤ wd.2
  ·rw [if_pos hw0]
   repeat' (first | simp -implicitDefEqProofs [KX, KD, c14, -getElem?_pos, h0, hw0, splice, AH, AK] | simp (disch := omega) only [A6] | ((with_reducible refine AO 37 ?_); refine' Aa (hst) ?_) | ((with_reducible refine AO 38 ?_); refine' Aa (hwd) ?_) | ((with_reducible refine AO 20 ?_); refine' Aa ((ZE _ _)) ?_) | (with_reducible first | exact AG | refine Ai ?_ | intro _g _hg | refine A5 ?_ ?_ | intro _hc) | omega)
  ·rw [if_neg hw0]
   repeat' (first | simp -implicitDefEqProofs [KX, KD, c14, -getElem?_pos, h0, hw0, splice, AH, AK] | simp (disch := omega) only [A6] | ((with_reducible refine AO 37 ?_); refine' Aa (hst) ?_) | ((with_reducible refine AO 38 ?_); refine' Aa (hwd) ?_) | ((with_reducible refine AO 20 ?_); refine' Aa ((ZE _ _)) ?_) | (with_reducible first | exact AG | refine Ai ?_ | intro _g _hg | refine A5 ?_ ?_ | intro _hc) | omega)
 ·rw [if_pos h0]
  repeat' (first | simp -implicitDefEqProofs [KX, KD, c14, -getElem?_pos, h0, splice, AH, AK] | simp (disch := omega) only [A6] | ((with_reducible refine AO 37 ?_); refine' Aa (hst) ?_) | ((with_reducible refine AO 20 ?_); refine' Aa ((ZE _ _)) ?_) | (with_reducible first | exact AG | refine Ai ?_ | intro _g _hg | refine A5 ?_ ?_ | intro _hc) | omega)
def HV (F : Fut) (k : Nat) : AQ := (F.cur :: F.l.map (·.2)).getD k []
abbrev A2c (a b : Int) : AObj := .cells 27 [aI a, aI b]
def A39 (n : Nat) (H : A1) (xs : List Int) (cs : AQ) (e : Bool) : DD := fun r n' H' => n ≤ n' ∧ (∀ k, n' ≤ k → H' k = none) ∧ SameB n H H' ∧ ∃ gg, n ≤ gg ∧ H' gg = some (.grow 3 (cs.map aI)) ∧ r = .tup [.sl 1 (xs.map aI) .ro, .slg 1 gg cs.length, .bool e, aF (0, 0)]
theorem Vx {y : Int} (h : F.l[j]? = some (y, c)) : HV F (j + 1) = c := by
 simp [HV, List.getD_eq_getElem?_getD, h]
theorem SM {cs c : AQ} (h : c.length = cs.length) : Ci cs 0 c = c := by
 unfold Ci; simp [List.drop_eq_nil_of_le, h]
theorem V6 {n m : Nat} {res : List ARes} {e : AJ} {x r : AV} (h1 : Bd ⟨e, m, H⟩ res = some x) (hs : AH x r) (h2 : n ≤ m) (h3 : ∀ k, m ≤ k → H k = none) (h4 : R r m H) : fin R n res .ret ⟨e, m, H⟩ := ⟨r, m, H, ⟨x, h1, hs⟩, h2, Nat.le_refl _, h3, SameB.rfl_ _ _, h4⟩
theorem Gy {z : Nat} {l : List AV} {t : Tok} (hz : z = 1 ∨ l = []) : AH (.sl z l t) (.sl 1 l .ro) := ⟨1, l, .ro, rfl, .inl rfl, hz.imp Eq.symm (fun h => ⟨h, rfl⟩), A0 l⟩
theorem A24 {a b c d a' : AV} (h : AH a a') : AH (.tup [a, b, c, d]) (.tup [a', b, c, d]) := ⟨_, rfl, _, _, rfl, h, A0 _⟩
theorem YP {n n1 gO gg g7 nR : Nat} {px : AV} {O : Nat → Prop} {m : Nat} (hm : m ≤ 5000) (hpx : Cp px) (hS : Sit gO 0 [⟨px, some F.l, F.cur, F.fin, O⟩] H1 n1 gg F.cur) (hn : n ≤ n1) (hgO : n ≤ gO) (hgg : n ≤ gg) (hOn : ∀ g, OU [⟨px, some F.l, F.cur, F.fin, O⟩] g → n ≤ g) (hsame : SameB n H H1) (h7 : Bx (OU [⟨px, some F.l, F.cur, F.fin, O⟩]) gO g7 H1 n1 (A2c 0 0)) (n7 : n ≤ g7) (g77 : gg ≠ g7)
  (hR : R = A39 n H ((F.l.map (·.1)).take m) (if m ≤ F.l.length then HV F m else F.fin) (decide (F.l.length < m))) (hnR : nR = n) :
  LoopK (fun Q s => aw Tryz.prog c18_L4 Q s) (CD 0 (D6 (aw Tryz.prog c18_k1 (fin R nR [.tmp 4, .tmp 5, .tmp 6, .cell 7 (some 2)])) (fin R nR [.tmp 4, .tmp 5, .tmp 6, .cell 7 (some 2)]))) ⟨[(1, aI m), (7, .ptr g7 0), (9, .ptr gO 0), (10, px), (11, .sl 0 [] .nil)], n1, H1⟩ := by
 subst hnR
 refine LoopK.go (fun r st => ∃ (j n2 z : Nat) (t : Tok) (O1 : Nat → Prop) (H2 : A1), j + r = m ∧ j ≤ F.l.length ∧ st = ⟨[(1, aI m), (7, .ptr g7 0), (9, .ptr gO 0), (10, px), (11, .sl z (((F.l.map (·.1)).take j).map aI) t)], n2, H2⟩ ∧ nR ≤ n2 ∧ SitT gO 0 ⟨px, some (F.l.drop j), HV F j, F.fin, O1⟩ t j H2 n2 gg (HV F j) ∧ (HV F j).length = F.cur.length ∧ (t ≠ .nil → z = 1) ∧ (∀ g, OT ⟨px, some (F.l.drop j), HV F j, F.fin, O1⟩ t g → nR ≤ g) ∧ SameB nR H H2 ∧ Bx (OT ⟨px, some (F.l.drop j), HV F j, F.fin, O1⟩ t) gO g7 H2 n2 (A2c 0 0)) m ?_ ?_
 ·exact ⟨0, n1, 0, .nil, O, H1, by omega, by omega, rfl, hn, ⟨hS, rfl, fun g h => h.elim, fun h => h, fun h => h⟩, rfl, fun h => absurd rfl h, fun g h => h.elim (hOn g) (fun h => h.elim), hsame, ⟨fun h => h.elim h7.no (fun h => h.elim), h7.nO, h7.lt, h7.at_⟩⟩
 rintro r st ⟨j, n2, z, t, O1, H2, hj, hjl, rfl, hn2, hST, hcl, hz, hOn2, hsame2, B7⟩ J hJ
 have hgiv := hST.sit.giv
 have hlt := hgiv.lt hST.sit.sup
 have hxl : (((F.l.map (·.1)).take j).map aI).length = j := by simp; omega
 have q7 := B7.at_
 have hz1 : z = 1 ∨ ((F.l.map (·.1)).take j).map aI = [] := by
  by_cases ht : t = .nil
  ·subst ht
   have e : j = 0 := hST.tok
   subst e
   exact .inr rfl
  ·exact .inl (hz ht)
 obtain ⟨ff, fa, fb, rfl⟩ := hpx
 by_cases hjm : j < m
 ·have hjm' : (j : Int) < m := by omega
  cases hd : F.l.drop j with
  | nil =>
   rw [hd] at hST B7 hOn2
   have hlen : F.l.length = j := by have := congrArg List.length hd; simp at this; omega
   have htk : (F.l.map (·.1)).take m = (F.l.map (·.1)).take j := by rw [List.take_of_length_le (by simp; omega), List.take_of_length_le (by simp; omega)]
   rw [if_neg (by omega), htk, decide_eq_true (by omega)] at hR
   generalize ((F.l.map (·.1)).take j) = xs at *
   generalize hxa : xs.map aI = xsa at *
   have qo := q7
   
   repeat' (first | simp -implicitDefEqProofs [Kk, Kj, Jm, K6, I7, EV, c18, -getElem?_pos, q7, qo, hxl, hjm', splice, -AA] | simp (disch := omega) only [A6] | (refine hST.call (fun r n' H' p' hle hr hl hS2 ha => ?_); obtain ⟨x', l', cur', fin', O3⟩ := p'; dsimp only [PtR] at hr; obtain ⟨rfl, rfl, ⟨v, rfl⟩, rfl, rfl⟩ := hr; have C7 := B7.go g77 ha; have q7 := C7.at_; have e1 : Ci (HV F j) 0 (AD [(⟨.fn ff fa fb, none, F.fin, F.fin, O3⟩ : Pt)]) = F.fin := (SM (by simpa [AD] using hl)).trans (by simp [AD]); rw [e1] at hS2; have qo := hS2.sit.giv.opn) | (with_reducible first | exact AG | refine Bu ?_ | intro _g _hg | refine A5 ?_ ?_ | intro _hc) | omega)
   subst hR hxa
   have hle' : n2 ≤ n' := hle
   have := C7.lt
   have hg := hS2.sit.giv.giv
   refine V6 (x := .tup [.sl z (xs.map aI) t, .slg 1 gg F.fin.length, .bool true, .agg [aI 0, aI 0]]) (by simp -implicitDefEqProofs [-getElem?_pos]) (A24 (Gy hz1)) (by omega) (fun k hk => by rw [upd_ne (by omega)]; exact hS2.sit.sup k hk) ⟨by omega, (fun k hk => by rw [upd_ne (by omega)]; exact hS2.sit.sup k hk), fun k hk => ?_, gg, hgg, by rw [upd_ne g77]; exact hg, rfl⟩
   rw [upd_ne (by omega), ha.fr k (by omega) (fun h => by have := hOn2 k h; omega) (by omega)]
   exact hsame2 k hk
  | cons e l2 =>
   obtain ⟨y, c⟩ := e
   have hy : F.l[j]? = some (y, c) := by
    have := congrArg (fun l => l[0]?) hd
    simpa using this
   have hd2 : F.l.drop (j + 1) = l2 := by
    have := congrArg List.tail hd
    simpa using this
   have hj1 : j + 1 ≤ F.l.length := by have := (List.getElem?_eq_some_iff.1 hy).1; omega
   have htk : ((F.l.map (·.1)).take (j + 1)).map aI = ((F.l.map (·.1)).take j).map aI ++ [aI y] := by
    rw [List.take_succ, List.getElem?_map, hy]; simp
   rw [hd] at hST B7 hOn2
   generalize hxs : ((F.l.map (·.1)).take j).map aI = xsa at *
   
   repeat' (first | simp -implicitDefEqProofs [Kk, Kj, Jm, K6, I7, EV, c18, -getElem?_pos, q7, hxl, hjm', splice, -AA] | simp (disch := omega) only [A6] | (refine hST.call (fun r n' H' p' hle hr hl hS2 ha => ?_); obtain ⟨x', l', cur', fin', O3⟩ := p'; dsimp only [PtR] at hr; obtain ⟨rfl, rfl, rfl, rfl, rfl⟩ := hr; have hle' : n2 ≤ n' := hle; have C7 := B7.go g77 ha; have e1 : Ci (HV F j) 0 (AD [(⟨.fn ff fa fb, some l2, cur', F.fin, O3⟩ : Pt)]) = cur' := (SM (by simpa [AD] using hl)).trans (by simp [AD]); rw [e1] at hS2) | (refine JQ (by rw [hxl]; exact hS2.tok.at_ (fun k hk => by have := hS2.tok.lt k hk; rw [upd_ne (by omega)]) (by omega)) hz (by rw [hxl]; omega) (fun k hk => by rw [upd_ne (by omega)]; exact hS2.sit.sup k (by omega)) (fun g' n3 H3 k1 k2 k3 k4 k5 k6 k7 => ?_)) | (with_reducible first | exact AG | refine Bu ?_ | intro _g _hg | refine A5 ?_ ?_ | intro _hc) | omega)
   have rep : Rep' t (j + 1) n' H' g' n3 H3 := ⟨k1.elim .inl (fun h => .inr (by omega)), by omega, k3, fun k h1 h2 => (k4 k (by omega) h2).trans (upd_ne (by omega)), by rw [k5, hxl], k6⟩
   have hS3 := hS2.app rep
   have D7 := C7.app rep
   have e2 : HV F (j + 1) = cur' := Vx hy
   refine hJ (r - 1) _ (by omega) ⟨j + 1, n3, 1, .own g', O3, H3, by omega, hj1, by rw [htk], by omega, by rw [hd2, e2]; exact hS3, by rw [e2]; simpa [AD] using hl.trans (by simpa [AD] using hcl), fun _ => rfl, ?_, ?_, by rw [hd2, e2]; exact D7⟩
   ·rw [hd2, e2]
    rintro g (hg | hg)
    ·exact (ha.sub g (.inl hg)).elim (hOn2 g) (fun h => by omega)
    ·have e : g = g' := hg
     exact k1.elim (fun h => by rw [e]; exact hOn2 g' (.inr h)) (fun h => by omega)
   ·intro k hk
    rw [rep.fr k (by omega) (fun h => by have := hOn2 k (.inr h); omega), ha.fr k (by omega) (fun h => by have := hOn2 k h; omega) (by omega)]
    exact hsame2 k hk
 ·have hjm' : ¬ (j : Int) < m := by omega
  have hmj : m = j := by omega
  subst hmj
  rw [if_pos hjl, decide_eq_false (by omega)] at hR
  have qo := hST.sit.giv.opn
  have qg := hST.sit.giv.giv
  generalize ((F.l.map (·.1)).take m) = xs at *
  generalize hxa : xs.map aI = xsa at *
  
  repeat' (first | simp -implicitDefEqProofs [Kk, Kj, Jm, K6, I7, EV, c18, -getElem?_pos, q7, qo, hxl, hjm', splice, -AA] | simp (disch := omega) only [A6] | (with_reducible first | exact AG | refine Bu ?_ | intro _g _hg | refine A5 ?_ ?_ | intro _hc) | omega)
  subst hR hxa
  have := B7.lt
  refine V6 (x := .tup [.sl z (xs.map aI) t, .slg 1 gg (HV F m).length, .bool false, .agg [aI 0, aI 0]]) (by simp -implicitDefEqProofs [-getElem?_pos]) (A24 (Gy hz1)) (by omega) (fun k hk => by rw [upd_ne (by omega)]; exact hST.sit.sup k hk) ⟨by omega, (fun k hk => by rw [upd_ne (by omega)]; exact hST.sit.sup k hk), fun k hk => ?_, gg, hgg, by rw [upd_ne g77]; exact qg, rfl⟩
  rw [upd_ne (by omega)]
  exact hsame2 k hk
end Go.Proofs.YtjdccdelcnmocaaGreatDoor
