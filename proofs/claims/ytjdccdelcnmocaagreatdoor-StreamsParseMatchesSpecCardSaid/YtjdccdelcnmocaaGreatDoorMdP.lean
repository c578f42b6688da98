/- Streams: the program's capped bound; no condition. -/
import Derived.Test.YtjdccdelcnmocaaGreatDoorMdL
import Derived.Test.YtjdccdelcnmocaaGreatDoorMdO
import Derived.Test.YtjdccdelcnmocaaGreatDoorMgJ
set_option linter.all false
set_option linter.unusedSimpArgs false
set_option linter.unusedVariables false
set_option maxHeartbeats 2000000
namespace Go.Proofs.YtjdccdelcnmocaaGreatDoor
attribute [local simp] Kz De DC Kv Lp Je Jw Dj DK Fe Fi KJ JN LL KL Ig JX Ix L9 Kn K6 Kk LJ K3 Ji RM pe KK Io Iu JW JI Kf Ir L7 Jx LH J5 L8 Is DT J0 Ju Jg Ih Li Lf K5 KN Js LO Ks LC La Im Ip Ln JQ Kt Jt JF L4 DG Lv DY Kq JZ Ky LB LG Lk KH JM LE Jr LF KA JU L0 JY JB Lo JJ Ly Jl Lm Ik Jm Jf Kw DJ KO Lj JG Ld Jn Lh Kj J9 Kp Kb Lc K2 KE LR Il Lq JC L3 Km JR Lz Jd LN L2 M1 LM Lr KG Iv JO L1 LK List.mem_cons guardK CR Ez F6 Fa Lx DX DF DL Dd DP DM DN Dh D9 M0 Ki Dg KF LP JV Jp Kc K8 DR KX LV J1 JA LW LQ Fj DQ DS DH DA Lw Ja DW Ii DD L6 Db DE Ku DO DU LZ LD KR Lg Kl J7 L5 J4 RL IR IV Gt IN IS IL Cx FB FA KV FC F8 Cv CY Sc IH II F9 IK IT D0 D4 Bg BG C3 CK Ar ev get put GQ AP Cr Jc K4 Kd LI JT Jh EF part BZ HA Jy Gx isNil CA CG EL CQ C1 Kx JP J3 KI Iq IF Ij JE Jo LU Jq Jv K7 Jz KZ Iz AV.fits AV.cells ones AV.one EK CD EE E2 FV ES Ll GB Fy CH Br C5 F3 Gg AX BY TO Fc Ko Ie List.getElem?_cons_zero List.getElem?_cons_succ Dc Df Di J8 Kg Ls H9 It Kh JK KD Ke LT JH Lu Iw LY JD
theorem SQ (k o m : Int) (v : List Int) (x : St) (hk : k = 5 ∨ k = 12) (hm : 0 ≤ m ∧ m ≤ 5000) (hx : APure Tryz.prog 70 [encS x] (aI (min (Ac x) 5001 : Nat))) : APure Tryz.prog 70 [encS (.mk k o m v [x])] (aI (min (Ac (.mk k o m v [x])) 5001 : Nat)) := by
 have hxf := BF x
 have hb : min (Ac (.mk k o m v [x])) 5001 = min (Ct k m v [min (Ac x) 5001]) 5001 := by
  rw [Ac, Nz]; rfl
 rw [hb]
 obtain ⟨b, hb'⟩ : ∃ b, min (Ac x) 5001 = b := ⟨_, rfl⟩
 have hb5 : b ≤ 5001 := by omega
 rw [hb'] at hx ⊢
 obtain ⟨m', rfl⟩ : ∃ m' : Nat, m = m' := ⟨m.toNat, by omega⟩
 rw [AQ, Ae, Ae]
 generalize encS x = ex at *
 rcases hk with rfl | rfl
 ·have hz : (min (Ct 5 m' v [b]) 5001 : Nat) = min (min m' b) 5001 := by simp [Ct]
  rw [hz]
  
  refine A9 Tryz.func70 QN rfl fun n H hH => ?_
  repeat' (first | (simp -implicitDefEqProofs [Dn, E4, E3, Dy, Dl, E6, Dv, Dp, Dm, c70, -getElem?_pos, hxf, -AV.fits, A8, AC]) | (simp (disch := omega) only [AF]) | ((with_reducible refine AJ 70 ?_); (refine' CallP.sf ?_ (hx) ?_); (focus first | (with_reducible exact A0 _) | (simp [AC, A8, A1, A0]; done))) | (with_reducible first | refine A7 ?_ ?_ ?_ | exact AB | refine SameB.upd ?_ ?_ _ | assumption | refine A3 ?_ | refine KM.of ?_ | refine AG ?_ | refine A2 ?_ | refine A5 ?_ | intro _g _hg | refine AE ?_ ?_ | intro _hc) | omega)
  all_goals (refine BD ?_; grind)
 ·have hz : (min (Ct 12 m' v [b]) 5001 : Nat) = min (m' * b) 5001 := by simp [Ct]
  rw [hz]
  have hmb : m' * b ≤ 5000 * 5001 := Nat.mul_le_mul (by omega) hb5
  have hmc : ((m' * b : Nat) : Int) = (m' : Int) * b := Int.natCast_mul _ _
  
  refine A9 Tryz.func70 QN rfl fun n H hH => ?_
  repeat' (first | (simp -implicitDefEqProofs [Dn, E4, E3, Dy, Dl, E6, Dv, Dp, Dm, c70, -getElem?_pos, hxf, -AV.fits, A8, AC]) | (simp (disch := omega) only [AF]) | ((with_reducible refine AJ 70 ?_); (refine' CallP.sf ?_ (hx) ?_); (focus first | (with_reducible exact A0 _) | (simp [AC, A8, A1, A0]; done))) | (with_reducible first | refine A7 ?_ ?_ ?_ | exact AB | refine SameB.upd ?_ ?_ _ | assumption | refine A3 ?_ | refine KM.of ?_ | refine AG ?_ | refine A2 ?_ | refine A5 ?_ | intro _g _hg | refine AE ?_ ?_ | intro _hc) | omega)
  all_goals (rw [← hmc, IntKind.i64_wrap_id (by omega) (by omega)]; omega)
theorem Rq (o m : Int) (v : List Int) (x y : St) (hx : APure Tryz.prog 70 [encS x] (aI (min (Ac x) 5001 : Nat))) (hy : APure Tryz.prog 70 [encS y] (aI (min (Ac y) 5001 : Nat))) : APure Tryz.prog 70 [encS (.mk 15 o m v [x, y])] (aI (min (Ac (.mk 15 o m v [x, y])) 5001 : Nat)) := by
 have hxf := BF x
 have hyf := BF y
 have hb : min (Ac (.mk 15 o m v [x, y])) 5001 = min (min (Ac x) 5001) (min (Ac y) 5001) := by
  simp [Ac, Nl, Ct]; omega
 rw [hb]
 obtain ⟨b, hb'⟩ : ∃ b, min (Ac x) 5001 = b := ⟨_, rfl⟩
 obtain ⟨c, hc'⟩ : ∃ c, min (Ac y) 5001 = c := ⟨_, rfl⟩
 have hb5 : b ≤ 5001 := by omega
 have hc5 : c ≤ 5001 := by omega
 rw [hb'] at hx ⊢
 rw [hc'] at hy ⊢
 rw [AQ, Ae, Ae, Ae]
 generalize encS x = ex at *
 generalize encS y = ey at *
 
 refine A9 Tryz.func70 QN rfl fun n H hH => ?_
 repeat' (first | (simp -implicitDefEqProofs [Dn, E4, E3, Dy, Dl, E6, Dv, Dp, Dm, c70, -getElem?_pos, hxf, hyf, -AV.fits, A8, AC]) | (simp (disch := omega) only [AF]) | ((with_reducible refine AJ 70 ?_); (refine' CallP.sf ?_ (hx) ?_); (focus first | (with_reducible exact A0 _) | (simp [AC, A8, A1, A0]; done))) | ((with_reducible refine AJ 70 ?_); (refine' CallP.sf ?_ (hy) ?_); (focus first | (with_reducible exact A0 _) | (simp [AC, A8, A1, A0]; done))) | (with_reducible first | refine A7 ?_ ?_ ?_ | exact AB | refine SameB.upd ?_ ?_ _ | assumption | refine A3 ?_ | refine KM.of ?_ | refine AG ?_ | refine A2 ?_ | refine A5 ?_ | intro _g _hg | refine AE ?_ ?_ | intro _hc) | omega)
 all_goals first | omega | (refine BD ?_; grind)
theorem Oq {l : List Nat} {i x : Nat} (h : l[i]? = some x) : (l.take (i + 1)).sum = (l.take i).sum + x := by
 rw [List.take_succ, h]; simp
theorem UO (c : Nat) (p : List St) (h : p.length ≤ 60) (i : Nat) : ((p.map fun s => min (Ac s) c).take i).sum ≤ 60 * c := by
 have g : ∀ l : List Nat, (∀ x ∈ l, x ≤ c) → l.sum ≤ l.length * c := by
  intro l hl
  induction l with
  | nil => simp
  | cons a r ih =>
   have h1 := hl a (by simp)
   have h2 := ih fun x hx => hl x (by simp [hx])
   simp only [List.sum_cons, List.length_cons, Nat.succ_mul]
   omega
 have h1 := g ((p.map fun s => min (Ac s) c).take i) (by
  intro x hx
  obtain ⟨s, _, rfl⟩ := List.mem_map.1 (List.mem_of_mem_take hx)
  omega)
 have h2 : ((p.map fun s => min (Ac s) c).take i).length ≤ 60 := by simp; omega
 exact Nat.le_trans h1 (Nat.mul_le_mul_right c h2)
theorem Re (k o m : Int) (v : List Int) (p : List St) (h1 : k ≠ 1) (h2 : k ≠ 2) (h5 : k ≠ 5) (h12 : k ≠ 12) (h15 : k ≠ 15) (hp : p.length ≤ 60) (hx : ∀ x ∈ p, APure Tryz.prog 70 [encS x] (aI (min (Ac x) 5001 : Nat))) : APure Tryz.prog 70 [encS (.mk k o m v p)] (aI (min (Ac (.mk k o m v p)) 5001 : Nat)) := by
 have hb : min (Ac (.mk k o m v p)) 5001 = min (p.map fun s => min (Ac s) 5001).sum 5001 := by
  rw [Ac, Nz, GV, List.map_map]
  simp [Ct, h1, h2, h5, h12, h15, Function.comp_def]
 have hcl := UO 5001 p hp
 have hpl := BB p
 rw [hb]
 rw [AQ]
 
 refine A9 Tryz.func70 QN rfl fun n H hH => ?_
 repeat' (first | (simp -implicitDefEqProofs [c70, Dn, E4, E3, Dy, Dl, E6, Dv, Dp, Dm, c70, -getElem?_pos, h1, h2, h5, h12, h15]) | (simp (disch := omega) only [AF]) | (with_reducible first | refine A7 ?_ ?_ ?_ | exact AB | refine SameB.upd ?_ ?_ _ | assumption | refine A3 ?_ | refine KM.of ?_ | refine AG ?_ | refine A2 ?_ | refine A5 ?_ | intro _g _hg | refine AE ?_ ?_ | intro _hc) | omega)
 refine LoopK.go (fun r st => ∃ (j n1 : Nat) (H1 : A4), j + r = p.length ∧ st = ⟨[(3, aI (((p.map fun s => min (Ac s) 5001).take j).sum : Nat)), (9, .sl 5 (Ae p) .ro), (10, aI p.length), (11, aI j)], n1, H1⟩ ∧ n ≤ n1 ∧ SameB n H H1) p.length ⟨0, _, _, by omega, by simp [hpl]; exact ⟨rfl, rfl⟩, by omega, by intro q hq; simp only [upd]; (repeat' split) <;> first | rfl | omega⟩ ?_
 rintro r st ⟨j, n1, H1, hj, rfl, hn1, hsame⟩ J hJ
 by_cases hjl : j < p.length
 ·obtain ⟨x, hx'⟩ : ∃ x, p[j]? = some x := ⟨_, List.getElem?_eq_getElem hjl⟩
  have hb := hx x (List.mem_of_getElem? hx')
  have hxe := Er hx'
  have hxf := BF x
  have hjl' : (j : Int) < p.length := by omega
  have hs := Oq (l := p.map fun s => min (Ac s) 5001) (i := j) (x := min (Ac x) 5001) (by rw [List.getElem?_map, hx']; rfl)
  have hc1 := hcl j
  generalize ((p.map fun s => min (Ac s) 5001).take j).sum = a at *
  obtain ⟨b, hb'⟩ : ∃ b, min (Ac x) 5001 = b := ⟨_, rfl⟩
  have hb5 : b ≤ 5001 := by omega
  rw [hb'] at hb hs
  obtain ⟨k', o', m', v', p'⟩ := x
  rw [AQ] at hb hxe hxf
  generalize Ae p = ep at *
  generalize Ae p' = ep' at *
  generalize v'.map aI = ev' at *
  
  repeat' (first | (simp -implicitDefEqProofs [Dn, E4, E3, Dy, Dl, E6, Dv, Dp, Dm, c70, -getElem?_pos, hjl', hxe, splice]) | (simp (disch := omega) only [AF]) | ((with_reducible refine AJ 70 ?_); refine' AZ (hb) ?_) | (with_reducible first | refine A7 ?_ ?_ ?_ | exact AB | refine SameB.upd ?_ ?_ _ | assumption | refine A3 ?_ | refine KM.of ?_ | refine AG ?_ | refine A2 ?_ | refine A5 ?_ | intro _g _hg | refine AE ?_ ?_ | intro _hc) | omega)
  exact hJ (r - 1) _ (by omega) ⟨j + 1, _, _, by omega, by rw [hs]; rfl, by omega, by intro q hq; simp only [upd]; (repeat' split) <;> first | (exact hsame q hq) | omega⟩
 ·have hjl' : ¬ (j : Int) < p.length := by omega
  have hc1 := hcl j
  have e : (p.map fun s => min (Ac s) 5001).take j = p.map fun s => min (Ac s) 5001 := List.take_of_length_le (by simp; omega)
  rw [e] at hc1 ⊢
  generalize (p.map fun s => min (Ac s) 5001).sum = a at *
  
  repeat' (first | (simp -implicitDefEqProofs [Dn, E4, E3, Dy, Dl, E6, Dv, Dp, Dm, c70, -getElem?_pos, hjl', A8, AC]) | (simp (disch := omega) only [AF]) | (with_reducible first | refine A7 ?_ ?_ ?_ | exact AB | refine SameB.upd ?_ ?_ _ | assumption | refine A3 ?_ | refine KM.of ?_ | refine AG ?_ | refine A2 ?_ | refine A5 ?_ | intro _g _hg | refine AE ?_ ?_ | intro _hc) | omega)
  all_goals first | omega | exact hsame | (refine BD ?_; grind)
theorem ME (k o m : Int) (v : List Int) (p : List St) (hk : k = 1 ∨ k = 2) (hb : APure Tryz.prog 36 [encS (.mk k o m v p)] (aI (Ac (.mk k o m v p) : Nat))) : APure Tryz.prog 70 [encS (.mk k o m v p)] (aI (min (Ac (.mk k o m v p)) 5001 : Nat)) := by
 generalize Ac (.mk k o m v p) = b at *
 rw [AQ] at hb ⊢
 generalize Ae p = ep at *
 generalize v.map aI = ev at *
 rcases hk with rfl | rfl
 ·
  refine A9 Tryz.func70 QN rfl fun n H hH => ?_
  repeat' (first | (simp -implicitDefEqProofs [Dn, E4, E3, Dy, Dl, E6, Dv, Dp, Dm, c70, -getElem?_pos, A8, AC]) | (simp (disch := omega) only [AF]) | ((with_reducible refine AJ 36 ?_); refine' AZ (hb) ?_) | (with_reducible first | refine A7 ?_ ?_ ?_ | exact AB | refine SameB.upd ?_ ?_ _ | assumption | refine A3 ?_ | refine KM.of ?_ | refine AG ?_ | refine A2 ?_ | refine A5 ?_ | intro _g _hg | refine AE ?_ ?_ | intro _hc) | omega)
  all_goals first | omega | (refine BD ?_; grind)
 ·
  refine A9 Tryz.func70 QN rfl fun n H hH => ?_
  repeat' (first | (simp -implicitDefEqProofs [Dn, E4, E3, Dy, Dl, E6, Dv, Dp, Dm, c70, -getElem?_pos, A8, AC]) | (simp (disch := omega) only [AF]) | ((with_reducible refine AJ 36 ?_); refine' AZ (hb) ?_) | (with_reducible first | refine A7 ?_ ?_ ?_ | exact AB | refine SameB.upd ?_ ?_ _ | assumption | refine A3 ?_ | refine KM.of ?_ | refine AG ?_ | refine A2 ?_ | refine A5 ?_ | intro _g _hg | refine AE ?_ ?_ | intro _hc) | omega)
  all_goals first | omega | (refine BD ?_; grind)
theorem V2 (s : St) : EN s → PD s → Bh s ≤ 60 → APure Tryz.prog 70 [encS s] (aI (min (Ac s) 5001 : Nat)) := by
 refine St.ind (Q := fun s => EN s → PD s → Bh s ≤ 60 → APure Tryz.prog 70 [encS s] (aI (min (Ac s) 5001 : Nat))) ?_ s
 intro k o m v p ih hf hok hsz
 obtain ⟨hv, hp, hpp⟩ := hf
 obtain ⟨hn, hop⟩ := hok
 have hN := HK hn
 simp only [Bh] at hsz
 have hpl := F0 p
 have hx : ∀ x ∈ p, APure Tryz.prog 70 [encS x] (aI (min (Ac x) 5001 : Nat)) := fun x hx => ih x hx (Cz hpp x hx) (G6 hop x hx) (by have := Fb x hx; omega)
 by_cases h1 : k = 1
 ·subst h1
  exact ME 1 o m v p (.inl rfl) (by rw [Ac]; exact Ou o m v p hv)
 by_cases h2 : k = 2
 ·subst h2
  exact ME 2 o m v p (.inr rfl) (by rw [Ac]; exact Pb o m v p (hN.rng rfl) hN.vals)
 by_cases h5 : k = 5 ∨ k = 12
 ·obtain ⟨x, rfl⟩ := List.length_eq_one_iff.1 (hN.one (by omega) (by omega) (by omega) (by omega) (by omega) (by omega))
  refine SQ k o m v x h5 ?_ (hx x (by simp))
  have hm := hN.num (by rcases h5 with rfl | rfl <;> rfl)
  rcases h5 with rfl | rfl <;> simp [TI, TU, CP] at hm <;> omega
 by_cases h15 : k = 15
 ·subst h15
  have h2 := hN.two (.inl rfl)
  match p, h2 with
  | [x, y], _ => exact Rq o m v x y (hx x (by simp)) (hx y (by simp))
 exact Re k o m v p h1 h2 (fun e => h5 (.inl e)) (fun e => h5 (.inr e)) h15 (by omega) hx
theorem Tl {p : List St} {j q : Nat} {x : St} (h : p[j]? = some x) : (Fx (p.drop j) q).2 = (if (EC x q).2 < 0 then (Fx (p.drop (j + 1)) (q + Bh x)).2 else (EC x q).2) := by
 rw [drop_at h, Fx, O8]
theorem UT {p : List St} {j : Nat} {x : St} (h : p[j]? = some x) : C2 (p.drop j) = Bh x + C2 (p.drop (j + 1)) := by
 rw [drop_at h, C2]
theorem Xi (s : St) : EN s → PD s → Bh s ≤ 60 → ∀ i : Nat, i + Bh s ≤ 100 → APure Tryz.prog 41 [encS s, aI i] (.tup [aI (EC s i).2, aI (Bh s : Nat)]) := by
 refine St.ind (Q := fun s => EN s → PD s → Bh s ≤ 60 → ∀ i : Nat, i + Bh s ≤ 100 → APure Tryz.prog 41 [encS s, aI i] (.tup [aI (EC s i).2, aI (Bh s : Nat)])) ?_ s
 intro k o m v p ih hf hok hsz i hi
 have hbd := V2 (.mk k o m v p) hf hok hsz
 obtain ⟨hv, hp, hpp⟩ := hf
 obtain ⟨hn, hop⟩ := hok
 simp only [Bh] at hsz hi
 rw [EC, Bh]
 generalize Ac (.mk k o m v p) = B at *
 rw [AQ] at hbd ⊢
 have hpl := BB p
 
 refine A9 Tryz.func41 A2t rfl fun n H hH => ?_
 repeat' (first | (simp -implicitDefEqProofs [c41, GT, Gj, Gr, Gc, GK, GL, c41, -getElem?_pos]) | (simp (disch := omega) only [AF]) | (with_reducible first | refine A7 ?_ ?_ ?_ | exact AB | refine SameB.upd ?_ ?_ _ | assumption | refine A3 ?_ | refine KM.of ?_ | refine AG ?_ | refine A2 ?_ | refine A5 ?_ | intro _g _hg | refine AE ?_ ?_ | intro _hc) | omega)
 refine LoopK.go (fun r st => ∃ (j c n1 : Nat) (w : Int) (H1 : A4), j + r = p.length ∧ st = ⟨[(1, aI i), (2, .ptr _g 0), (4, aI w), (5, aI c), (11, .sl 5 (Ae p) .ro), (12, aI p.length), (13, aI j)], n1, H1⟩ ∧ _g < n1 ∧ 1 ≤ c ∧ c + C2 (p.drop j) = C2 p + 1 ∧ -1 ≤ w ∧ (Fx p (i + 1)).2 = (if w < 0 then (Fx (p.drop j) (i + c)).2 else w) ∧ SameB n H H1 ∧ H1 _g = some (.cells 25 [aI k, aI o, aI m, .sl 1 (v.map aI) .ro, .sl 5 (Ae p) .ro])) p.length ?_ ?_
 ·exact ⟨0, 1, _, -1, _, by omega, by rw [hpl]; rfl, by omega, by omega, by simp; omega, by omega, by simp, by intro q hq; simp only [upd]; (repeat' split) <;> first | rfl | omega, by simp (disch := omega) only [upd_ne, AX]⟩
 rintro r st ⟨j, c, n1, w, H1, hj, rfl, hn1, hc1, hcs, hw, hE, hsame, q1⟩ J hJ
 by_cases hjl : j < p.length
 ·obtain ⟨x, hx'⟩ : ∃ x, p[j]? = some x := ⟨_, List.getElem?_eq_getElem hjl⟩
  have hxm := List.mem_of_getElem? hx'
  have hsm := Fb x hxm
  rw [UT hx'] at hcs
  have hst := ih x hxm (Cz hpp x hxm) (G6 hop x hxm) (by omega) (i + c) (by omega)
  have hxe := Er hx'
  have hxf := BF x
  have hjl' : (j : Int) < p.length := by omega
  have hwx := (Mu x (i + c)).1
  rw [Tl hx'] at hE
  rw [show ((i + c : Nat) : Int) = i + c from Int.natCast_add _ _] at hst
  generalize (EC x (i + c)).2 = wx at *
  generalize hsx : Bh x = sx at *
  obtain ⟨k', o', m', v', p'⟩ := x
  rw [AQ] at hst hxe hxf
  generalize Ae p = ep at *
  generalize Ae p' = ep' at *
  generalize v'.map aI = ev' at *
  by_cases hw0 : w < 0
  ·rw [if_pos hw0] at hE
   
   repeat' (first | (simp -implicitDefEqProofs [GT, Gj, Gr, Gc, GK, GL, c41, -getElem?_pos, hjl', hxe, hw0, splice]) | (simp (disch := omega) only [AF]) | ((with_reducible refine AJ 41 ?_); refine' AZ (hst) ?_) | (with_reducible first | refine A7 ?_ ?_ ?_ | exact AB | refine SameB.upd ?_ ?_ _ | assumption | refine A3 ?_ | refine KM.of ?_ | refine AG ?_ | refine A2 ?_ | refine A5 ?_ | intro _g _hg | refine AE ?_ ?_ | intro _hc) | omega)
   exact hJ (r - 1) _ (by omega) ⟨j + 1, c + sx, _, wx, _, by omega, rfl, by omega, by omega, by omega, hwx, by rw [hE, Nat.add_assoc], by intro q hq; simp only [upd]; (repeat' split) <;> first | (exact hsame q hq) | omega, by simp (disch := omega) only [upd_ne]; exact q1⟩
  ·rw [if_neg hw0] at hE
   
   repeat' (first | (simp -implicitDefEqProofs [GT, Gj, Gr, Gc, GK, GL, c41, -getElem?_pos, hjl', hxe, hw0, splice]) | (simp (disch := omega) only [AF]) | ((with_reducible refine AJ 41 ?_); refine' AZ (hst) ?_) | (with_reducible first | refine A7 ?_ ?_ ?_ | exact AB | refine SameB.upd ?_ ?_ _ | assumption | refine A3 ?_ | refine KM.of ?_ | refine AG ?_ | refine A2 ?_ | refine A5 ?_ | intro _g _hg | refine AE ?_ ?_ | intro _hc) | omega)
   exact hJ (r - 1) _ (by omega) ⟨j + 1, c + sx, _, w, _, by omega, rfl, by omega, by omega, by omega, hw, by rw [hE, if_neg hw0], by intro q hq; simp only [upd]; (repeat' split) <;> first | (exact hsame q hq) | omega, by simp (disch := omega) only [upd_ne]; exact q1⟩
 ·have hjl' : ¬ (j : Int) < p.length := by omega
  rw [List.drop_eq_nil_of_le (by omega), C2] at hcs
  rw [List.drop_eq_nil_of_le (by omega), Fx] at hE
  have hE' : (Fx p (i + 1)).2 = w := by rw [hE]; split <;> omega
  rw [hE']
  by_cases hB : 5000 < B
  ·rw [if_pos hB]
   have hB' : min B 5001 = 5001 := by omega
   rw [hB'] at hbd
   
   repeat' (first | (simp -implicitDefEqProofs [GT, Gj, Gr, Gc, GK, GL, c41, -getElem?_pos, hjl', q1, A8, AC]) | (simp (disch := omega) only [AF]) | ((with_reducible refine AJ 70 ?_); refine' AZ (hbd) ?_) | (with_reducible first | refine A7 ?_ ?_ ?_ | exact AB | refine SameB.upd ?_ ?_ _ | assumption | refine A3 ?_ | refine KM.of ?_ | refine AG ?_ | refine A2 ?_ | refine A5 ?_ | intro _g _hg | refine AE ?_ ?_ | intro _hc) | omega)
   all_goals first | omega | exact hsame | (refine BD ?_; grind)
  ·rw [if_neg hB]
   have hB' : min B 5001 = B := by omega
   have hB2 : ¬ (5000 : Int) < B := by omega
   rw [hB'] at hbd
   
   repeat' (first | (simp -implicitDefEqProofs [GT, Gj, Gr, Gc, GK, GL, c41, -getElem?_pos, hjl', q1, hB2, A8, AC]) | (simp (disch := omega) only [AF]) | ((with_reducible refine AJ 70 ?_); refine' AZ (hbd) ?_) | (with_reducible first | refine A7 ?_ ?_ ?_ | exact AB | refine SameB.upd ?_ ?_ _ | assumption | refine A3 ?_ | refine KM.of ?_ | refine AG ?_ | refine A2 ?_ | refine A5 ?_ | intro _g _hg | refine AE ?_ ?_ | intro _hc) | omega)
   all_goals first | omega | exact hsame | (refine BD ?_; grind)
theorem Fm (s : St) (hf : EN s) : APure Tryz.prog 15 [encS s] (aF (Cl s)) := by
 have hvis := Yw s hf 0 (by omega)
 have hlg : (EB s 0).2 = 0 → APure Tryz.prog 41 [encS s, aI 0] (.tup [aI (EC s 0).2, aI (Bh s : Nat)]) := fun h => by
  obtain ⟨h1, h2, h3⟩ := NN s 0 h
  exact Xi s hf h1 (by omega) 0 (by omega)
 have hw := (Mu s 0).1
 unfold Cl
 unfold RA at hvis
 unfold Qd Qg at hvis
 generalize EB s 0 = sg at *
 generalize EC s 0 = wd at *
 generalize Bh s = sz at *
 obtain ⟨k, o, m, v, p⟩ := s
 rw [AQ] at *
 generalize v.map aI = va at *
 generalize Ae p = ep at *
 
 refine A9 Tryz.func15 A23 rfl fun n H hH => ?_
 by_cases h0 : sg.2 = 0
 ·have hlg := hlg h0
  rw [if_neg (by simpa using h0)] at *
  rw [if_neg (by simpa using h0)] at hvis
  repeat' (first | (simp -implicitDefEqProofs [Pg, Pj, c15, -getElem?_pos, splice, A8, AC]) | (simp (disch := omega) only [AF]) | ((with_reducible refine Ay 39 ?_); refine ⟨_, Ex _ _, ?_⟩; rintro r n' H' hle hsup ⟨gm, rfl, hg1, rfl, rfl⟩; dsimp only at hg1 hle) | ((with_reducible refine Ay 40 ?_); (refine' CallK.sfU ?_ ((hvis _g gm _ _ (by simp (disch := omega) only [upd_ne, AX] <;> rfl) (by simp (disch := omega) only [upd_ne, AX] <;> rfl))) ?_); (focus first | (with_reducible exact A0 _) | (simp [AC, A8, A1, A0]; done))) | ((with_reducible refine AJ 41 ?_); refine' AZ (hlg) ?_) | (with_reducible first | refine A7 ?_ ?_ ?_ | exact AB | refine SameB.upd ?_ ?_ _ | assumption | refine A3 ?_ | refine KM.of ?_ | refine AG ?_ | refine A2 ?_ | refine A5 ?_ | intro _g _hg | refine AE ?_ ?_ | intro _hc) | omega)
 ·rw [if_pos h0] at *
  rw [if_pos h0] at hvis
  repeat' (first | (simp -implicitDefEqProofs [Pg, Pj, c15, -getElem?_pos, h0, splice, A8, AC]) | (simp (disch := omega) only [AF]) | ((with_reducible refine Ay 39 ?_); refine ⟨_, Ex _ _, ?_⟩; rintro r n' H' hle hsup ⟨gm, rfl, hg1, rfl, rfl⟩; dsimp only at hg1 hle) | ((with_reducible refine Ay 40 ?_); (refine' CallK.sfU ?_ ((hvis _g gm _ _ (by simp (disch := omega) only [upd_ne, AX] <;> rfl) (by simp (disch := omega) only [upd_ne, AX] <;> rfl))) ?_); (focus first | (with_reducible exact A0 _) | (simp [AC, A8, A1, A0]; done))) | (with_reducible first | refine A7 ?_ ?_ ?_ | exact AB | refine SameB.upd ?_ ?_ _ | assumption | refine A3 ?_ | refine KM.of ?_ | refine AG ?_ | refine A2 ?_ | refine A5 ?_ | intro _g _hg | refine AE ?_ ?_ | intro _hc) | omega)
theorem Uu (k o m : Int) (v : List Int) (x : St) (hk : k = 5 ∨ k = 12) (hm : 0 ≤ m ∧ m ≤ 5000) (hb : Ac x ≤ 5000) (hx : APure Tryz.prog 36 [encS x] (aI (Ac x : Nat))) : APure Tryz.prog 36 [encS (.mk k o m v [x])] (aI (Ac (.mk k o m v [x]) : Nat)) := by
 have hxf := BF x
 have hbb : Ac (.mk k o m v [x]) = Ct k m v [Ac x] := by rw [Ac]; rfl
 rw [hbb]
 generalize Ac x = b at *
 obtain ⟨m', rfl⟩ : ∃ m' : Nat, m = m' := ⟨m.toNat, by omega⟩
 rw [AQ, Ae, Ae]
 generalize encS x = ex at *
 rcases hk with rfl | rfl
 ·have hz : Ct 5 m' v [b] = min m' b := by simp [Ct]
  rw [hz]
  
  refine A9 Tryz.func36 Pz rfl fun n H hH => ?_
  repeat' (first | (simp -implicitDefEqProofs [Du, E9, Ds, Dq, E1, E7, E5, Dw, Dx, c36, -getElem?_pos, hxf, -AV.fits, A8, AC]) | (simp (disch := omega) only [AF]) | ((with_reducible refine AJ 36 ?_); (refine' CallP.sf ?_ (hx) ?_); (focus first | (with_reducible exact A0 _) | (simp [AC, A8, A1, A0]; done))) | (with_reducible first | refine A7 ?_ ?_ ?_ | exact AB | refine SameB.upd ?_ ?_ _ | assumption | refine A3 ?_ | refine KM.of ?_ | refine AG ?_ | refine A2 ?_ | refine A5 ?_ | intro _g _hg | refine AE ?_ ?_ | intro _hc) | omega)
  all_goals first | omega | (refine BD ?_; grind)
 ·have hz : Ct 12 m' v [b] = m' * b := by simp [Ct]
  rw [hz]
  have hmb : m' * b ≤ 5000 * 5001 := Nat.mul_le_mul (by omega) (by omega)
  have hmc : ((m' * b : Nat) : Int) = (m' : Int) * b := Int.natCast_mul _ _
  have hw : IntKind.i64.wrap ((m' : Int) * b) = ((m' * b : Nat) : Int) := by rw [← hmc, IntWalk.i64_in _ (by omega)]
  
  refine A9 Tryz.func36 Pz rfl fun n H hH => ?_
  repeat' (first | (simp -implicitDefEqProofs [Du, E9, Ds, Dq, E1, E7, E5, Dw, Dx, c36, -getElem?_pos, hxf, hw, -AV.fits, A8, AC]) | (simp (disch := omega) only [AF]) | ((with_reducible refine AJ 36 ?_); (refine' CallP.sf ?_ (hx) ?_); (focus first | (with_reducible exact A0 _) | (simp [AC, A8, A1, A0]; done))) | (with_reducible first | refine A7 ?_ ?_ ?_ | exact AB | refine SameB.upd ?_ ?_ _ | assumption | refine A3 ?_ | refine KM.of ?_ | refine AG ?_ | refine A2 ?_ | refine A5 ?_ | intro _g _hg | refine AE ?_ ?_ | intro _hc) | omega)
  all_goals first | omega | (refine BD ?_; grind)
theorem Uo (o m : Int) (v : List Int) (x y : St) (hx : APure Tryz.prog 36 [encS x] (aI (Ac x : Nat))) (hy : APure Tryz.prog 36 [encS y] (aI (Ac y : Nat))) : APure Tryz.prog 36 [encS (.mk 15 o m v [x, y])] (aI (Ac (.mk 15 o m v [x, y]) : Nat)) := by
 have hxf := BF x
 have hyf := BF y
 have hbb : Ac (.mk 15 o m v [x, y]) = min (Ac x) (Ac y) := by simp [Ac, Nl, Ct]
 rw [hbb]
 generalize Ac x = b at *
 generalize Ac y = c at *
 rw [AQ, Ae, Ae, Ae]
 generalize encS x = ex at *
 generalize encS y = ey at *
 
 refine A9 Tryz.func36 Pz rfl fun n H hH => ?_
 repeat' (first | (simp -implicitDefEqProofs [Du, E9, Ds, Dq, E1, E7, E5, Dw, Dx, c36, -getElem?_pos, hxf, hyf, -AV.fits, A8, AC]) | (simp (disch := omega) only [AF]) | ((with_reducible refine AJ 36 ?_); (refine' CallP.sf ?_ (hx) ?_); (focus first | (with_reducible exact A0 _) | (simp [AC, A8, A1, A0]; done))) | ((with_reducible refine AJ 36 ?_); (refine' CallP.sf ?_ (hy) ?_); (focus first | (with_reducible exact A0 _) | (simp [AC, A8, A1, A0]; done))) | (with_reducible first | refine A7 ?_ ?_ ?_ | exact AB | refine SameB.upd ?_ ?_ _ | assumption | refine A3 ?_ | refine KM.of ?_ | refine AG ?_ | refine A2 ?_ | refine A5 ?_ | intro _g _hg | refine AE ?_ ?_ | intro _hc) | omega)
 all_goals first | omega | (refine BD ?_; grind)
theorem VI (k o m : Int) (v : List Int) (p : List St) (h1 : k ≠ 1) (h2 : k ≠ 2) (h5 : k ≠ 5) (h12 : k ≠ 12) (h15 : k ≠ 15) (hp : p.length ≤ 60) (hbs : ∀ x ∈ p, Ac x ≤ 5000) (hx : ∀ x ∈ p, APure Tryz.prog 36 [encS x] (aI (Ac x : Nat))) : APure Tryz.prog 36 [encS (.mk k o m v p)] (aI (Ac (.mk k o m v p) : Nat)) := by
 have hb : Ac (.mk k o m v p) = (p.map Ac).sum := by
  rw [Ac, GV]
  simp [Ct, h1, h2, h5, h12, h15]
 have hcl : ∀ i, ((p.map Ac).take i).sum ≤ 300000 := by
  intro i
  have g : ∀ l : List Nat, (∀ x ∈ l, x ≤ 5000) → l.sum ≤ l.length * 5000 := by
   intro l hl
   induction l with
   | nil => simp
   | cons a r ih =>
    have h1 := hl a (by simp)
    have h2 := ih fun x hx => hl x (by simp [hx])
    simp only [List.sum_cons, List.length_cons, Nat.succ_mul]
    omega
  have h1 := g ((p.map Ac).take i) (by
   intro x hx
   obtain ⟨s, hs, rfl⟩ := List.mem_map.1 (List.mem_of_mem_take hx)
   exact hbs s hs)
  have h2 : ((p.map Ac).take i).length ≤ 60 := by simp; omega
  omega
 have hpl := BB p
 rw [hb]
 rw [AQ]
 
 refine A9 Tryz.func36 Pz rfl fun n H hH => ?_
 repeat' (first | (simp -implicitDefEqProofs [c36, Du, E9, Ds, Dq, E1, E7, E5, Dw, Dx, c36, -getElem?_pos, h1, h2, h5, h12, h15]) | (simp (disch := omega) only [AF]) | (with_reducible first | refine A7 ?_ ?_ ?_ | exact AB | refine SameB.upd ?_ ?_ _ | assumption | refine A3 ?_ | refine KM.of ?_ | refine AG ?_ | refine A2 ?_ | refine A5 ?_ | intro _g _hg | refine AE ?_ ?_ | intro _hc) | omega)
 refine LoopK.go (fun r st => ∃ (j n1 : Nat) (H1 : A4), j + r = p.length ∧ st = ⟨[(3, aI (((p.map Ac).take j).sum : Nat)), (70, .sl 5 (Ae p) .ro), (71, aI p.length), (72, aI j)], n1, H1⟩ ∧ n ≤ n1 ∧ SameB n H H1) p.length ⟨0, _, _, by omega, by simp [hpl]; exact ⟨rfl, rfl⟩, by omega, by intro q hq; simp only [upd]; (repeat' split) <;> first | rfl | omega⟩ ?_
 rintro r st ⟨j, n1, H1, hj, rfl, hn1, hsame⟩ J hJ
 by_cases hjl : j < p.length
 ·obtain ⟨x, hx'⟩ : ∃ x, p[j]? = some x := ⟨_, List.getElem?_eq_getElem hjl⟩
  have hb := hx x (List.mem_of_getElem? hx')
  have hbx := hbs x (List.mem_of_getElem? hx')
  have hxe := Er hx'
  have hxf := BF x
  have hjl' : (j : Int) < p.length := by omega
  have hs := Oq (l := p.map Ac) (i := j) (x := Ac x) (by rw [List.getElem?_map, hx']; rfl)
  have hc1 := hcl j
  generalize ((p.map Ac).take j).sum = a at *
  generalize Ac x = b at *
  obtain ⟨k', o', m', v', p'⟩ := x
  rw [AQ] at hb hxe hxf
  generalize Ae p = ep at *
  generalize Ae p' = ep' at *
  generalize v'.map aI = ev' at *
  
  repeat' (first | (simp -implicitDefEqProofs [Du, E9, Ds, Dq, E1, E7, E5, Dw, Dx, c36, -getElem?_pos, hjl', hxe, splice]) | (simp (disch := omega) only [AF]) | ((with_reducible refine AJ 36 ?_); (refine' CallP.sf ?_ (hb) ?_); (focus first | (with_reducible exact A0 _) | (simp [AC, A8, A1, A0]; done))) | (with_reducible first | refine A7 ?_ ?_ ?_ | exact AB | refine SameB.upd ?_ ?_ _ | assumption | refine A3 ?_ | refine KM.of ?_ | refine AG ?_ | refine A2 ?_ | refine A5 ?_ | intro _g _hg | refine AE ?_ ?_ | intro _hc) | omega)
  exact hJ (r - 1) _ (by omega) ⟨j + 1, _, _, by omega, by rw [hs]; rfl, by omega, by intro q hq; simp only [upd]; (repeat' split) <;> first | (exact hsame q hq) | omega⟩
 ·have hjl' : ¬ (j : Int) < p.length := by omega
  have e : (p.map Ac).take j = p.map Ac := List.take_of_length_le (by simp; omega)
  rw [e]
  generalize (p.map Ac).sum = a at *
  
  repeat' (first | (simp -implicitDefEqProofs [Du, E9, Ds, Dq, E1, E7, E5, Dw, Dx, c36, -getElem?_pos, hjl', A8, AC]) | (simp (disch := omega) only [AF]) | (with_reducible first | refine A7 ?_ ?_ ?_ | exact AB | refine SameB.upd ?_ ?_ _ | assumption | refine A3 ?_ | refine KM.of ?_ | refine AG ?_ | refine A2 ?_ | refine A5 ?_ | intro _g _hg | refine AE ?_ ?_ | intro _hc) | omega)
  all_goals first | omega | exact hsame | (refine BD ?_; grind)
theorem YT (s : St) : EN s → PD s → Vo s → Bh s ≤ 60 → APure Tryz.prog 36 [encS s] (aI (Ac s : Nat)) := by
 refine St.ind (Q := fun s => EN s → PD s → Vo s → Bh s ≤ 60 → APure Tryz.prog 36 [encS s] (aI (Ac s : Nat))) ?_ s
 intro k o m v p ih hf hok hsm hsz
 obtain ⟨hv, hp, hpp⟩ := hf
 obtain ⟨hn, hop⟩ := hok
 have hN := HK hn
 simp only [Bh] at hsz
 have hpl := F0 p
 have hbs : ∀ x ∈ p, Ac x ≤ 5000 := fun x hx => by have := No hsm.2 x hx; cases x; exact this.1
 have hx : ∀ x ∈ p, APure Tryz.prog 36 [encS x] (aI (Ac x : Nat)) := fun x hx => ih x hx (Cz hpp x hx) (G6 hop x hx) (No hsm.2 x hx) (by have := Fb x hx; omega)
 by_cases h1 : k = 1
 ·subst h1
  rw [Ac]; exact Ou o m v p hv
 by_cases h2 : k = 2
 ·subst h2
  rw [Ac]; exact Pb o m v p (hN.rng rfl) hN.vals
 by_cases h5 : k = 5 ∨ k = 12
 ·obtain ⟨x, rfl⟩ := List.length_eq_one_iff.1 (hN.one (by omega) (by omega) (by omega) (by omega) (by omega) (by omega))
  refine Uu k o m v x h5 ?_ (hbs x (by simp)) (hx x (by simp))
  have hm := hN.num (by rcases h5 with rfl | rfl <;> rfl)
  rcases h5 with rfl | rfl <;> simp [TI, TU, CP] at hm <;> omega
 by_cases h15 : k = 15
 ·subst h15
  have h2 := hN.two (.inl rfl)
  match p, h2 with
  | [x, y], _ => exact Uo o m v x y (hx x (by simp)) (hx y (by simp))
 exact VI k o m v p h1 h2 (fun e => h5 (.inl e)) (fun e => h5 (.inr e)) h15 (by omega) hbs hx
abbrev Fp (s : St) : Prop := APure Tryz.prog 17 [encS s] (aI (min (Ac s) 100000 : Nat))
theorem Vf (o m : Int) (v : List Int) (p : List St) (hv : v.length ≤ 140737488355328) : Fp (.mk 1 o m v p) := by
 unfold Fp
 have hb : Ac (.mk 1 o m v p) = v.length := by simp [Ac, Ct]
 rw [hb]
 have hvl : (v.map aI).length = v.length := by simp
 rw [AQ]
 generalize v.map aI = va at *
 by_cases h : 100000 < v.length
 ·have h' : (100000 : Int) < v.length := by omega
  have e : min v.length 100000 = 100000 := by omega
  rw [e]
  
  refine A9 Tryz.func17 PQ rfl fun n H hH => ?_
  repeat' (first | (simp -implicitDefEqProofs [BL, BM, BX, BV, BN, BU, BW, BT, BS, B8, BA, B6, B5, B4, B9, c17, -getElem?_pos, hvl, h, h', A8, AC]) | (simp (disch := omega) only [AF]) | (with_reducible first | refine A7 ?_ ?_ ?_ | exact AB | refine SameB.upd ?_ ?_ _ | assumption | refine A3 ?_ | refine KM.of ?_ | refine AG ?_ | refine A2 ?_ | refine A5 ?_ | intro _g _hg | refine AE ?_ ?_ | intro _hc) | omega)
 ·have h' : ¬ (100000 : Int) < v.length := by omega
  have e : min v.length 100000 = v.length := by omega
  rw [e]
  
  refine A9 Tryz.func17 PQ rfl fun n H hH => ?_
  repeat' (first | (simp -implicitDefEqProofs [BL, BM, BX, BV, BN, BU, BW, BT, BS, B8, BA, B6, B5, B4, B9, c17, -getElem?_pos, hvl, h, h', A8, AC]) | (simp (disch := omega) only [AF]) | (with_reducible first | refine A7 ?_ ?_ ?_ | exact AB | refine SameB.upd ?_ ?_ _ | assumption | refine A3 ?_ | refine KM.of ?_ | refine AG ?_ | refine A2 ?_ | refine A5 ?_ | intro _g _hg | refine AE ?_ ?_ | intro _hc) | omega)
theorem W6 (o m a b c : Int) (p : List St) (hv : 0 ≤ a ∧ a ≤ 9999 ∧ 0 ≤ b ∧ b ≤ 10000 ∧ 1 ≤ c ∧ c ≤ 9999) : Fp (.mk 2 o m [a, b, c] p) := by
 unfold Fp
 have hb : Ac (.mk 2 o m [a, b, c] p) = GS [a, b, c] := by simp [Ac, Ct]
 have hbd := R6 hv
 rw [hb]
 have e : min (GS [a, b, c]) 100000 = GS [a, b, c] := by omega
 rw [e]
 rw [AQ]
 generalize Ae p = ep
 
 refine A9 Tryz.func17 PQ rfl fun n H hH => ?_
 repeat' (first | (simp -implicitDefEqProofs [c17, BL, BM, BX, BV, BN, BU, BW, BT, BS, B8, BA, B6, B5, B4, B9, c17, -getElem?_pos]) | (simp (disch := omega) only [AF]) | (with_reducible first | refine A7 ?_ ?_ ?_ | exact AB | refine SameB.upd ?_ ?_ _ | assumption | refine A3 ?_ | refine KM.of ?_ | refine AG ?_ | refine A2 ?_ | refine A5 ?_ | intro _g _hg | refine AE ?_ ?_ | intro _hc) | omega)
 refine LoopK.go (fun r st => ∃ (j n1 : Nat) (H1 : A4), j + r = GS [a, b, c] ∧ st = ⟨[(1, .ptr _g 0), (3, aI j), (4, aI (a + (j : Int) * c))], n1, H1⟩ ∧ _g < n1 ∧ SameB n H H1 ∧ H1 _g = some (Aj 2 o m (.sl 1 [aI a, aI b, aI c] .ro) (.sl 5 ep .ro))) (GS [a, b, c]) ⟨0, _, _, by omega, by simp; exact ⟨rfl, rfl⟩, by omega, by intro q hq; simp only [upd]; (repeat' split) <;> first | rfl | omega, AX _ _ _⟩ ?_
 rintro r st ⟨j, n1, H1, hj, rfl, hn1, hsame, q1⟩ J hJ
 by_cases hjl : j < GS [a, b, c]
 ·have hlt := (R8 (a := a) (b := b) hv.2.2.2.2.1 j).2 hjl
  have hw : IntKind.i64.wrap (a + (j : Int) * c + c) = a + ((j + 1 : Nat) : Int) * c := by
   have h0 : 0 ≤ (j : Int) * c := Int.mul_nonneg (by omega) (by omega)
   have e : ((j + 1 : Nat) : Int) * c = (j : Int) * c + c := by rw [Int.natCast_add, Int.add_mul]; simp
   rw [IntWalk.i64_in _ (by omega), e]; omega
  have hw2 : IntKind.i64.wrap ((j : Int) + 1) = ((j + 1 : Nat) : Int) := by rw [IntWalk.i64_in _ (by omega)]; omega
  generalize hx1 : a + ((j + 1 : Nat) : Int) * c = x1 at *
  generalize a + (j : Int) * c = x at *
  generalize hj1 : ((j + 1 : Nat) : Int) = j1 at *
  
  repeat' (first | (simp -implicitDefEqProofs [BL, BM, BX, BV, BN, BU, BW, BT, BS, B8, BA, B6, B5, B4, B9, c17, -getElem?_pos, q1, hlt, hw, hw2, splice]) | (simp (disch := omega) only [AF]) | (with_reducible first | refine A7 ?_ ?_ ?_ | exact AB | refine SameB.upd ?_ ?_ _ | assumption | refine A3 ?_ | refine KM.of ?_ | refine AG ?_ | refine A2 ?_ | refine A5 ?_ | intro _g _hg | refine AE ?_ ?_ | intro _hc) | omega)
  exact hJ (r - 1) _ (by omega) ⟨j + 1, _, _, by omega, by rw [hj1, hx1], hn1, hsame, q1⟩
 ·have hlt : ¬ a + (j : Int) * c < b := fun h => hjl ((R8 hv.2.2.2.2.1 j).1 h)
  have ej : j = GS [a, b, c] := by omega
  have hfar : ¬ (100000 : Int) < j := by omega
  rw [← ej]
  generalize a + (j : Int) * c = x at *
  
  repeat' (first | (simp -implicitDefEqProofs [BL, BM, BX, BV, BN, BU, BW, BT, BS, B8, BA, B6, B5, B4, B9, c17, -getElem?_pos, q1, hlt, hfar, A8, AC]) | (simp (disch := omega) only [AF]) | (with_reducible first | refine A7 ?_ ?_ ?_ | exact AB | refine SameB.upd ?_ ?_ _ | assumption | refine A3 ?_ | refine KM.of ?_ | refine AG ?_ | refine A2 ?_ | refine A5 ?_ | intro _g _hg | refine AE ?_ ?_ | intro _hc) | omega)
  all_goals first | exact hsame | omega
theorem XR (o m : Int) (v : List Int) (x y : St) (hx : Fp x) (hy : Fp y) : Fp (.mk 15 o m v [x, y]) := by
 unfold Fp at *
 have hxf := BF x
 have hyf := BF y
 have hb : min (Ac (.mk 15 o m v [x, y])) 100000 = min (min (Ac x) 100000) (min (Ac y) 100000) := by
  simp [Ac, Nl, Ct]; omega
 rw [hb]
 obtain ⟨b, hb'⟩ : ∃ b, min (Ac x) 100000 = b := ⟨_, rfl⟩
 obtain ⟨c, hc'⟩ : ∃ c, min (Ac y) 100000 = c := ⟨_, rfl⟩
 have hb5 : b ≤ 100000 := by omega
 have hc5 : c ≤ 100000 := by omega
 rw [hb'] at hx ⊢
 rw [hc'] at hy ⊢
 rw [AQ, Ae, Ae, Ae]
 generalize encS x = ex at *
 generalize encS y = ey at *
 by_cases h : c < b
 ·have h' : (c : Int) < b := by omega
  have e : min b c = c := by omega
  have hf : ¬ (100000 : Int) < c := by omega
  rw [e]
  
  refine A9 Tryz.func17 PQ rfl fun n H hH => ?_
  repeat' (first | (simp -implicitDefEqProofs [BL, BM, BX, BV, BN, BU, BW, BT, BS, B8, BA, B6, B5, B4, B9, c17, -getElem?_pos, hxf, hyf, h, h', hf, -AV.fits, A8, AC]) | (simp (disch := omega) only [AF]) | ((with_reducible refine AJ 17 ?_); (refine' CallP.sf ?_ (hx) ?_); (focus first | (with_reducible exact A0 _) | (simp [AC, A8, A1, A0]; done))) | ((with_reducible refine AJ 17 ?_); (refine' CallP.sf ?_ (hy) ?_); (focus first | (with_reducible exact A0 _) | (simp [AC, A8, A1, A0]; done))) | (with_reducible first | refine A7 ?_ ?_ ?_ | exact AB | refine SameB.upd ?_ ?_ _ | assumption | refine A3 ?_ | refine KM.of ?_ | refine AG ?_ | refine A2 ?_ | refine A5 ?_ | intro _g _hg | refine AE ?_ ?_ | intro _hc) | omega)
  all_goals omega
 ·have h' : ¬ (c : Int) < b := by omega
  have e : min b c = b := by omega
  have hf : ¬ (100000 : Int) < b := by omega
  rw [e]
  
  refine A9 Tryz.func17 PQ rfl fun n H hH => ?_
  repeat' (first | (simp -implicitDefEqProofs [BL, BM, BX, BV, BN, BU, BW, BT, BS, B8, BA, B6, B5, B4, B9, c17, -getElem?_pos, hxf, hyf, h, h', hf, -AV.fits, A8, AC]) | (simp (disch := omega) only [AF]) | ((with_reducible refine AJ 17 ?_); (refine' CallP.sf ?_ (hx) ?_); (focus first | (with_reducible exact A0 _) | (simp [AC, A8, A1, A0]; done))) | ((with_reducible refine AJ 17 ?_); (refine' CallP.sf ?_ (hy) ?_); (focus first | (with_reducible exact A0 _) | (simp [AC, A8, A1, A0]; done))) | (with_reducible first | refine A7 ?_ ?_ ?_ | exact AB | refine SameB.upd ?_ ?_ _ | assumption | refine A3 ?_ | refine KM.of ?_ | refine AG ?_ | refine A2 ?_ | refine A5 ?_ | intro _g _hg | refine AE ?_ ?_ | intro _hc) | omega)
  all_goals omega
theorem Xw {k o m : Int} {v : List Int} {p : List St} (h1 : k ≠ 1) (h2 : k ≠ 2) (h15 : k ≠ 15) (hl : k = 5 ∨ k = 12 → p.length = 1) : min (Ac (.mk k o m v p)) 100000 = min (if k = 12 then m.toNat * (p.map fun s => min (Ac s) 100000).sum else if k = 5 then min m.toNat (p.map fun s => min (Ac s) 100000).sum else (p.map fun s => min (Ac s) 100000).sum) 100000 := by
 rw [Ac, Nz, GV, List.map_map]
 have e : ((min · 100000) ∘ Ac : St → Nat) = fun s => min (Ac s) 100000 := rfl
 rw [e]
 by_cases h12 : k = 12
 ·subst h12
  obtain ⟨x, rfl⟩ := List.length_eq_one_iff.1 (hl (.inr rfl))
  simp [Ct]
 ·by_cases h5 : k = 5
  ·subst h5
   obtain ⟨x, rfl⟩ := List.length_eq_one_iff.1 (hl (.inl rfl))
   simp [Ct]
  ·simp [Ct, h1, h2, h5, h12, h15]
theorem Wk (k o m : Int) (v : List Int) (p : List St) (h1 : k ≠ 1) (h2 : k ≠ 2) (h15 : k ≠ 15) (hl : k = 5 ∨ k = 12 → p.length = 1) (hm : k = 5 ∨ k = 12 → 0 ≤ m ∧ m ≤ 5000) (hm12 : k = 12 → m ≤ 20) (hp : p.length ≤ 60) (hx : ∀ x ∈ p, Fp x) : Fp (.mk k o m v p) := by
 unfold Fp at *
 rw [Xw h1 h2 h15 hl]
 have hcl := UO 100000 p hp
 have hpl := BB p
 rw [AQ]
 
 refine A9 Tryz.func17 PQ rfl fun n H hH => ?_
 repeat' (first | (simp -implicitDefEqProofs [c17, BL, BM, BX, BV, BN, BU, BW, BT, BS, B8, BA, B6, B5, B4, B9, c17, -getElem?_pos, h1, h2, h15]) | (simp (disch := omega) only [AF]) | (with_reducible first | refine A7 ?_ ?_ ?_ | exact AB | refine SameB.upd ?_ ?_ _ | assumption | refine A3 ?_ | refine KM.of ?_ | refine AG ?_ | refine A2 ?_ | refine A5 ?_ | intro _g _hg | refine AE ?_ ?_ | intro _hc) | omega)
 refine LoopK.go (fun r st => ∃ (j n1 : Nat) (H1 : A4), j + r = p.length ∧ st = ⟨[(1, .ptr _g 0), (3, aI (((p.map fun s => min (Ac s) 100000).take j).sum : Nat)), (6, aI j)], n1, H1⟩ ∧ _g < n1 ∧ SameB n H H1 ∧ H1 _g = some (Aj k o m (.sl 1 (v.map aI) .ro) (.sl 5 (Ae p) .ro))) p.length ⟨0, _, _, by omega, by simp; exact ⟨rfl, rfl⟩, by omega, by intro q hq; simp only [upd]; (repeat' split) <;> first | rfl | omega, AX _ _ _⟩ ?_
 rintro r st ⟨j, n1, H1, hj, rfl, hn1, hsame, q1⟩ J hJ
 by_cases hjl : j < p.length
 ·obtain ⟨x, hx'⟩ : ∃ x, p[j]? = some x := ⟨_, List.getElem?_eq_getElem hjl⟩
  have hb := hx x (List.mem_of_getElem? hx')
  have hxe := Er hx'
  have hxf := BF x
  have hjl' : (j : Int) < p.length := by omega
  have hs := Oq (l := p.map fun s => min (Ac s) 100000) (i := j) (x := min (Ac x) 100000) (by rw [List.getElem?_map, hx']; rfl)
  have hc1 := hcl j
  generalize ((p.map fun s => min (Ac s) 100000).take j).sum = a at *
  obtain ⟨b, hb'⟩ : ∃ b, min (Ac x) 100000 = b := ⟨_, rfl⟩
  have hb5 : b ≤ 100000 := by omega
  rw [hb'] at hb hs
  obtain ⟨k', o', m', v', p'⟩ := x
  rw [AQ] at hb hxe hxf
  generalize Ae p = ep at *
  generalize Ae p' = ep' at *
  generalize v'.map aI = ev' at *
  
  repeat' (first | (simp -implicitDefEqProofs [BL, BM, BX, BV, BN, BU, BW, BT, BS, B8, BA, B6, B5, B4, B9, c17, -getElem?_pos, q1, hpl, hjl', hxe, splice]) | (simp (disch := omega) only [AF]) | ((with_reducible refine AJ 17 ?_); refine' AZ (hb) ?_) | (with_reducible first | refine A7 ?_ ?_ ?_ | exact AB | refine SameB.upd ?_ ?_ _ | assumption | refine A3 ?_ | refine KM.of ?_ | refine AG ?_ | refine A2 ?_ | refine A5 ?_ | intro _g _hg | refine AE ?_ ?_ | intro _hc) | omega)
  exact hJ (r - 1) _ (by omega) ⟨j + 1, _, _, by omega, by rw [hs]; rfl, hn1, hsame, q1⟩
 ·have hjl' : ¬ (j : Int) < p.length := by omega
  have hc1 := hcl j
  have e : (p.map fun s => min (Ac s) 100000).take j = p.map fun s => min (Ac s) 100000 := List.take_of_length_le (by simp; omega)
  rw [e] at hc1 ⊢
  generalize (p.map fun s => min (Ac s) 100000).sum = a at *
  generalize Ae p = ep at *
  by_cases h12 : k = 12
  ·subst h12
   have hm0 := hm (.inr rfl)
   have hm20 := hm12 rfl
   obtain ⟨m', rfl⟩ : ∃ m' : Nat, m = m' := ⟨m.toNat, by omega⟩
   have hma : m' * a ≤ 20 * (60 * 100000) := Nat.mul_le_mul (by omega) hc1
   have hmc : (a : Int) * (m' : Int) = ((m' * a : Nat) : Int) := by rw [Int.natCast_mul, Int.mul_comm]
   have hw : IntKind.i64.wrap ((a : Int) * (m' : Int)) = ((m' * a : Nat) : Int) := by rw [hmc, IntWalk.i64_in _ (by omega)]
   rw [if_pos rfl, Int.toNat_natCast]
   generalize m' * a = z at *
   by_cases hf : 100000 < z
   ·have hf' : (100000 : Int) < z := by omega
    have ez : min z 100000 = 100000 := by omega
    rw [ez]
    
    repeat' (first | (simp -implicitDefEqProofs [BL, BM, BX, BV, BN, BU, BW, BT, BS, B8, BA, B6, B5, B4, B9, c17, -getElem?_pos, q1, hpl, hjl', hw, hf, hf', A8, AC]) | (simp (disch := omega) only [AF]) | (with_reducible first | refine A7 ?_ ?_ ?_ | exact AB | refine SameB.upd ?_ ?_ _ | assumption | refine A3 ?_ | refine KM.of ?_ | refine AG ?_ | refine A2 ?_ | refine A5 ?_ | intro _g _hg | refine AE ?_ ?_ | intro _hc) | omega)
    all_goals first | omega | exact hsame | (refine BD ?_; grind)
   ·have hf' : ¬ (100000 : Int) < z := by omega
    have ez : min z 100000 = z := by omega
    rw [ez]
    
    repeat' (first | (simp -implicitDefEqProofs [BL, BM, BX, BV, BN, BU, BW, BT, BS, B8, BA, B6, B5, B4, B9, c17, -getElem?_pos, q1, hpl, hjl', hw, hf, hf', A8, AC]) | (simp (disch := omega) only [AF]) | (with_reducible first | refine A7 ?_ ?_ ?_ | exact AB | refine SameB.upd ?_ ?_ _ | assumption | refine A3 ?_ | refine KM.of ?_ | refine AG ?_ | refine A2 ?_ | refine A5 ?_ | intro _g _hg | refine AE ?_ ?_ | intro _hc) | omega)
    all_goals first | omega | exact hsame | (refine BD ?_; grind)
  ·rw [if_neg h12]
   by_cases h5 : k = 5
   ·subst h5
    have hm0 := hm (.inl rfl)
    obtain ⟨m', rfl⟩ : ∃ m' : Nat, m = m' := ⟨m.toNat, by omega⟩
    rw [if_pos rfl, Int.toNat_natCast]
    by_cases hf : m' < a
    ·have hf' : (m' : Int) < a := by omega
     have hf2 : ¬ (100000 : Int) < m' := by omega
     have ez : min (min m' a) 100000 = m' := by omega
     rw [ez]
     
     repeat' (first | (simp -implicitDefEqProofs [BL, BM, BX, BV, BN, BU, BW, BT, BS, B8, BA, B6, B5, B4, B9, c17, -getElem?_pos, q1, hpl, hjl', hf, hf', hf2, A8, AC]) | (simp (disch := omega) only [AF]) | (with_reducible first | refine A7 ?_ ?_ ?_ | exact AB | refine SameB.upd ?_ ?_ _ | assumption | refine A3 ?_ | refine KM.of ?_ | refine AG ?_ | refine A2 ?_ | refine A5 ?_ | intro _g _hg | refine AE ?_ ?_ | intro _hc) | omega)
     all_goals first | omega | exact hsame | (refine BD ?_; grind)
    ·have hf' : ¬ (m' : Int) < a := by omega
     have hf2 : ¬ (100000 : Int) < a := by omega
     have ez : min (min m' a) 100000 = a := by omega
     rw [ez]
     
     repeat' (first | (simp -implicitDefEqProofs [BL, BM, BX, BV, BN, BU, BW, BT, BS, B8, BA, B6, B5, B4, B9, c17, -getElem?_pos, q1, hpl, hjl', hf, hf', hf2, A8, AC]) | (simp (disch := omega) only [AF]) | (with_reducible first | refine A7 ?_ ?_ ?_ | exact AB | refine SameB.upd ?_ ?_ _ | assumption | refine A3 ?_ | refine KM.of ?_ | refine AG ?_ | refine A2 ?_ | refine A5 ?_ | intro _g _hg | refine AE ?_ ?_ | intro _hc) | omega)
     all_goals first | omega | exact hsame | (refine BD ?_; grind)
   ·rw [if_neg h5]
    by_cases hf : 100000 < a
    ·have hf' : (100000 : Int) < a := by omega
     have ez : min a 100000 = 100000 := by omega
     rw [ez]
     
     repeat' (first | (simp -implicitDefEqProofs [BL, BM, BX, BV, BN, BU, BW, BT, BS, B8, BA, B6, B5, B4, B9, c17, -getElem?_pos, q1, hpl, hjl', h12, h5, hf, hf', A8, AC]) | (simp (disch := omega) only [AF]) | (with_reducible first | refine A7 ?_ ?_ ?_ | exact AB | refine SameB.upd ?_ ?_ _ | assumption | refine A3 ?_ | refine KM.of ?_ | refine AG ?_ | refine A2 ?_ | refine A5 ?_ | intro _g _hg | refine AE ?_ ?_ | intro _hc) | omega)
     all_goals first | omega | exact hsame | (refine BD ?_; grind)
    ·have hf' : ¬ (100000 : Int) < a := by omega
     have ez : min a 100000 = a := by omega
     rw [ez]
     
     repeat' (first | (simp -implicitDefEqProofs [BL, BM, BX, BV, BN, BU, BW, BT, BS, B8, BA, B6, B5, B4, B9, c17, -getElem?_pos, q1, hpl, hjl', h12, h5, hf, hf', A8, AC]) | (simp (disch := omega) only [AF]) | (with_reducible first | refine A7 ?_ ?_ ?_ | exact AB | refine SameB.upd ?_ ?_ _ | assumption | refine A3 ?_ | refine KM.of ?_ | refine AG ?_ | refine A2 ?_ | refine A5 ?_ | intro _g _hg | refine AE ?_ ?_ | intro _hc) | omega)
     all_goals first | omega | exact hsame | (refine BD ?_; grind)
theorem A1d (s : St) : EN s → PD s → Bh s ≤ 60 → Fp s := by
 refine St.ind (Q := fun s => EN s → PD s → Bh s ≤ 60 → Fp s) ?_ s
 intro k o m v p ih hf hok hsz
 obtain ⟨hv, hp, hpp⟩ := hf
 obtain ⟨hn, hop⟩ := hok
 have hN := HK hn
 simp only [Bh] at hsz
 have hpl := F0 p
 have hx : ∀ x ∈ p, Fp x := fun x hx => ih x hx (Cz hpp x hx) (G6 hop x hx) (by have := Fb x hx; omega)
 by_cases h1 : k = 1
 ·subst h1; exact Vf o m v p hv
 by_cases h2 : k = 2
 ·subst h2
  obtain ⟨a, b, c, rfl, h⟩ := OR (hN.rng rfl) hN.vals
  exact W6 o m a b c p (by omega)
 by_cases h15 : k = 15
 ·subst h15
  match p, hN.two (.inl rfl) with
  | [x, y], _ => exact XR o m v x y (hx x (by simp)) (hx y (by simp))
 have hm : k = 5 ∨ k = 12 → 0 ≤ m ∧ m ≤ 5000 := fun h => by
  have hm := hN.num (by rcases h with rfl | rfl <;> rfl)
  rcases h with rfl | rfl <;> simp [TI, TU, CP] at hm <;> omega
 exact Wk k o m v p h1 h2 h15 (fun h => hN.one (by omega) (by omega) (by omega) (by omega) (by omega) (by omega)) hm (fun h => by have hm := hN.num (by subst h; rfl); subst h; simp [TI, TU, CP] at hm; omega) (by omega) hx
abbrev Ts (s : St) : Prop := ∀ i : Nat, i + Bh s ≤ 100 → APure Tryz.prog 38 [encS s, aI i] (.tup [aI ((EC s i).1 : Nat), aI (EC s i).2])
theorem Q4 {k o m : Int} {v : List Int} {p : List St} {i n g n1 : Nat} {H H1 : A4} {w0 nx fd : Int} (h60 : p.length ≤ 60) (hx : ∀ x ∈ p, Ts x) (hi : i + 1 + C2 p ≤ 100) (hw0 : -1 ≤ w0) (hnx : nx = ((i + 1 + C2 p : Nat) : Int)) (hfd : fd = if w0 < 0 then (Fx p (i + 1)).2 else w0) (hn : n ≤ g) (hg : g < n1) (hs : SameB n H H1) (q : H1 g = some (Aj k o m (.sl 1 (v.map aI) .ro) (.sl 5 (Ae p) .ro))) :
  LoopK (fun Q s => aw Tryz.prog c38_L5 Q s) (Cy 0 (Bz (aw Tryz.prog c38_k1 (D1 (.tup [aI nx, aI fd]) n H [.tmp 4, .tmp 5])) (D1 (.tup [aI nx, aI fd]) n H [.tmp 4, .tmp 5]))) ⟨[(2, .ptr g 0), (6, aI w0), (7, aI ((i : Int) + 1)), (8, aI 0)], n1, H1⟩ := by
 have hpl := BB p
 refine LoopK.go (fun r st => ∃ (j c n2 : Nat) (w : Int) (H2 : A4), j + r = p.length ∧ st = ⟨[(2, .ptr g 0), (6, aI w), (7, aI c), (8, aI j)], n2, H2⟩ ∧ g < n2 ∧ -1 ≤ w ∧ c + C2 (p.drop j) = i + 1 + C2 p ∧ (if w < 0 then (Fx (p.drop j) c).2 else w) = fd ∧ SameB n H H2 ∧ H2 g = some (Aj k o m (.sl 1 (v.map aI) .ro) (.sl 5 (Ae p) .ro))) p.length ⟨0, i + 1, n1, w0, H1, by omega, by simp, hg, hw0, by simp, by rw [hfd]; rfl, hs, q⟩ ?_
 rintro r st ⟨j, c, n2, w, H2, hj, rfl, hn2, hw, hcs, hE, hsame, q1⟩ J hJ
 by_cases hjl : j < p.length
 ·obtain ⟨x, hx'⟩ : ∃ x, p[j]? = some x := ⟨_, List.getElem?_eq_getElem hjl⟩
  have hxm := List.mem_of_getElem? hx'
  rw [UT hx'] at hcs
  have hst := hx x hxm c (by omega)
  have hxe := Er hx'
  have hxf := BF x
  have hjl' : (j : Int) < p.length := by omega
  have hwx := (Mu x c).1
  have hwn := O8 x c
  rw [Tl hx'] at hE
  rw [hwn] at hst
  generalize (EC x c).2 = wx at *
  generalize hsx : Bh x = sx at *
  obtain ⟨k', o', m', v', p'⟩ := x
  rw [AQ] at hst hxe hxf
  generalize Ae p = ep at *
  generalize Ae p' = ep' at *
  generalize v'.map aI = ev' at *
  generalize hcc : ((c + sx : Nat) : Int) = cc at *
  by_cases hwz : w < 0
  ·rw [if_pos hwz] at hE
   
   repeat' (first | (simp -implicitDefEqProofs [N5, Mp, N1, N8, NM, GU, c38, -getElem?_pos, q1, hpl, hjl', hxe, hwz, splice]) | (simp (disch := omega) only [AF]) | ((with_reducible refine AJ 38 ?_); refine' AZ (hst) ?_) | (with_reducible first | refine A7 ?_ ?_ ?_ | exact AB | refine SameB.upd ?_ ?_ _ | assumption | refine A3 ?_ | refine KM.of ?_ | refine AG ?_ | refine A2 ?_ | refine A5 ?_ | intro _g _hg | refine AE ?_ ?_ | intro _hc) | omega)
   exact hJ (r - 1) _ (by omega) ⟨j + 1, c + sx, _, wx, _, by omega, by rw [hcc]; rfl, hn2, hwx, by omega, hE, hsame, q1⟩
  ·rw [if_neg hwz] at hE
   
   repeat' (first | (simp -implicitDefEqProofs [N5, Mp, N1, N8, NM, GU, c38, -getElem?_pos, q1, hpl, hjl', hxe, hwz, splice]) | (simp (disch := omega) only [AF]) | ((with_reducible refine AJ 38 ?_); refine' AZ (hst) ?_) | (with_reducible first | refine A7 ?_ ?_ ?_ | exact AB | refine SameB.upd ?_ ?_ _ | assumption | refine A3 ?_ | refine KM.of ?_ | refine AG ?_ | refine A2 ?_ | refine A5 ?_ | intro _g _hg | refine AE ?_ ?_ | intro _hc) | omega)
   exact hJ (r - 1) _ (by omega) ⟨j + 1, c + sx, _, w, _, by omega, by rw [hcc]; rfl, hn2, hw, by omega, by rw [if_neg hwz]; exact hE, hsame, q1⟩
 ·have hjl' : ¬ (j : Int) < p.length := by omega
  rw [List.drop_eq_nil_of_le (by omega), C2] at hcs
  rw [List.drop_eq_nil_of_le (by omega), Fx] at hE
  have e1 : nx = c := by omega
  have e2 : fd = w := by rw [← hE]; split <;> omega
  subst e1 e2
  generalize Ae p = ep at *
  
  repeat' (first | (simp -implicitDefEqProofs [N5, Mp, N1, N8, NM, GU, c38, -getElem?_pos, q1, hpl, hjl', A8, AC]) | (simp (disch := omega) only [AF]) | (with_reducible first | refine A7 ?_ ?_ ?_ | exact AB | refine SameB.upd ?_ ?_ _ | assumption | refine A3 ?_ | refine KM.of ?_ | refine AG ?_ | refine A2 ?_ | refine A5 ?_ | intro _g _hg | refine AE ?_ ?_ | intro _hc) | omega)
  all_goals first | exact hsame | omega
theorem Zo (s : St) : EN s → PD s → Bh s ≤ 60 → Ts s := by
 refine St.ind (Q := fun s => EN s → PD s → Bh s ≤ 60 → Ts s) ?_ s
 intro k o m v p ih hf hok hsz i hi
 have hbd := A1d (.mk k o m v p) hf hok hsz
 obtain ⟨hv, hp, hpp⟩ := hf
 obtain ⟨hn, hop⟩ := hok
 simp only [Bh] at hsz hi
 have hx : ∀ x ∈ p, Ts x := fun x hx => ih x hx (Cz hpp x hx) (G6 hop x hx) (by have := Fb x hx; omega)
 have hw1 : (EC (.mk k o m v p) i).1 = i + 1 + C2 p := by rw [EC, NP]
 have hw2 : (EC (.mk k o m v p) i).2 = if 5000 < Ac (.mk k o m v p) then (i : Int) else (Fx p (i + 1)).2 := by rw [EC]
 rw [hw1, hw2]
 unfold Fp at hbd
 generalize Ac (.mk k o m v p) = B at *
 rw [AQ] at hbd ⊢
 generalize hnx : ((i + 1 + C2 p : Nat) : Int) = nx
 generalize hfd : (if 5000 < B then (i : Int) else (Fx p (i + 1)).2) = fd
 generalize hmb : ((min B 100000 : Nat) : Int) = mb at *
 
 refine A9 Tryz.func38 A3d rfl fun n H hH => ?_
 by_cases hB0 : 5000 < B
 ·have hB' : (5000 : Int) < mb := by omega
  rw [if_pos hB0] at hfd
  repeat' (first | (simp -implicitDefEqProofs [c38, GU, -getElem?_pos, hB']) | (simp (disch := omega) only [AF]) | ((with_reducible refine AJ 17 ?_); refine' AZ (hbd) ?_) | (with_reducible first | refine A7 ?_ ?_ ?_ | exact AB | refine SameB.upd ?_ ?_ _ | assumption | refine A3 ?_ | refine KM.of ?_ | refine AG ?_ | refine A2 ?_ | refine A5 ?_ | intro _g _hg | refine AE ?_ ?_ | intro _hc) | omega)
  exact Q4 (by have := F0 p; omega) hx (by omega) (by omega) hnx.symm (by rw [if_neg (by omega)]; exact hfd.symm) (by omega) (by omega) (fun k hk => by simp (disch := omega) only [upd_ne]) (AX _ _ _)
 ·have hB' : ¬ (5000 : Int) < mb := by omega
  rw [if_neg hB0] at hfd
  repeat' (first | (simp -implicitDefEqProofs [c38, GU, -getElem?_pos, hB']) | (simp (disch := omega) only [AF]) | ((with_reducible refine AJ 17 ?_); refine' AZ (hbd) ?_) | (with_reducible first | refine A7 ?_ ?_ ?_ | exact AB | refine SameB.upd ?_ ?_ _ | assumption | refine A3 ?_ | refine KM.of ?_ | refine AG ?_ | refine A2 ?_ | refine A5 ?_ | intro _g _hg | refine AE ?_ ?_ | intro _hc) | omega)
  exact Q4 (by have := F0 p; omega) hx (by omega) (by omega) hnx.symm (by rw [if_pos (by omega)]; exact hfd.symm) (by omega) (by omega) (fun k hk => by simp (disch := omega) only [upd_ne]) (AX _ _ _)
theorem P9 (s : St) (hf : EN s) : APure Tryz.prog 14 [encS s] (aF (Cl s)) := by
 have hst : APure Tryz.prog 37 [encS s, aI 0] (.tup [aI ((EB s 0).1 : Nat), aI (EB s 0).2]) := Wj s hf 0 (by omega)
 have hwd : (EB s 0).2 = 0 → APure Tryz.prog 38 [encS s, aI 0] (.tup [aI ((EC s 0).1 : Nat), aI (EC s 0).2]) := fun h => by
  obtain ⟨h1, h2, h3⟩ := NN s 0 h
  exact Zo s hf h1 (by omega) 0 (by omega)
 have hw := (Mu s 0).1
 unfold Cl
 generalize EB s 0 = sg at *
 generalize EC s 0 = wd at *
 obtain ⟨k, o, m, v, p⟩ := s
 rw [AQ] at *
 generalize v.map aI = va at *
 generalize Ae p = ep at *
 have hat := VV
 
 refine A9 Tryz.func14 A2u rfl fun n H hH => ?_
 by_cases h0 : sg.2 = 0
 ·have hwd := hwd h0
  rw [if_neg (by simpa using h0)]
  by_cases hw0 : 0 ≤ wd.2
  ·rw [if_pos hw0]
   repeat' (first | (simp -implicitDefEqProofs [N0, Ml, c14, -getElem?_pos, h0, hw0, splice, A8, AC]) | (simp (disch := omega) only [AF]) | ((with_reducible refine AJ 37 ?_); refine' AZ (hst) ?_) | ((with_reducible refine AJ 38 ?_); refine' AZ (hwd) ?_) | ((with_reducible refine AJ 20 ?_); refine' AZ ((VV _ _)) ?_) | (with_reducible first | refine A7 ?_ ?_ ?_ | exact AB | refine SameB.upd ?_ ?_ _ | assumption | refine A3 ?_ | refine KM.of ?_ | refine AG ?_ | refine A2 ?_ | refine A5 ?_ | intro _g _hg | refine AE ?_ ?_ | intro _hc) | omega)
  ·rw [if_neg hw0]
   repeat' (first | (simp -implicitDefEqProofs [N0, Ml, c14, -getElem?_pos, h0, hw0, splice, A8, AC]) | (simp (disch := omega) only [AF]) | ((with_reducible refine AJ 37 ?_); refine' AZ (hst) ?_) | ((with_reducible refine AJ 38 ?_); refine' AZ (hwd) ?_) | ((with_reducible refine AJ 20 ?_); refine' AZ ((VV _ _)) ?_) | (with_reducible first | refine A7 ?_ ?_ ?_ | exact AB | refine SameB.upd ?_ ?_ _ | assumption | refine A3 ?_ | refine KM.of ?_ | refine AG ?_ | refine A2 ?_ | refine A5 ?_ | intro _g _hg | refine AE ?_ ?_ | intro _hc) | omega)
 ·rw [if_pos h0]
  repeat' (first | (simp -implicitDefEqProofs [N0, Ml, c14, -getElem?_pos, h0, splice, A8, AC]) | (simp (disch := omega) only [AF]) | ((with_reducible refine AJ 37 ?_); refine' AZ (hst) ?_) | ((with_reducible refine AJ 20 ?_); refine' AZ ((VV _ _)) ?_) | (with_reducible first | refine A7 ?_ ?_ ?_ | exact AB | refine SameB.upd ?_ ?_ _ | assumption | refine A3 ?_ | refine KM.of ?_ | refine AG ?_ | refine A2 ?_ | refine A5 ?_ | intro _g _hg | refine AE ?_ ?_ | intro _hc) | omega)
def Zu (s : St) : AV := .tup [aI (if (Cl s).1 = 0 then (Ac s : Int) else 0), aF (Cl s)]
theorem W1 (s : St) (hf : EN s) : APure Tryz.prog 13 [encS s] (Zu s) := by
 have hv := Fm s hf
 have hb : (Cl s).1 = 0 → APure Tryz.prog 36 [encS s] (aI (Ac s : Nat)) := fun h => by
  obtain ⟨_, h1, h2, h3⟩ := Hg h
  exact YT s hf h1 h2 h3
 have h00 : (Cl s).1 = 0 → Cl s = (0, 0) := fun h => (Hg h).1
 unfold Zu
 generalize Cl s = f at *
 generalize Ac s = b at *
 obtain ⟨k, o, m, v, p⟩ := s
 rw [AQ] at *
 generalize v.map aI = va at *
 generalize Ae p = ep at *
 
 refine A9 Tryz.func13 A1v rfl fun n H hH => ?_
 by_cases h0 : f.1 = 0
 ·have hb2 := hb h0
  have h00 := h00 h0
  subst h00
  repeat' (first | (simp -implicitDefEqProofs [QP, c13, -getElem?_pos, splice, A8, AC]) | (simp (disch := omega) only [AF]) | ((with_reducible refine AJ 15 ?_); refine' AZ (hv) ?_) | ((with_reducible refine AJ 36 ?_); refine' AZ (hb2) ?_) | (with_reducible first | refine A7 ?_ ?_ ?_ | exact AB | refine SameB.upd ?_ ?_ _ | assumption | refine A3 ?_ | refine KM.of ?_ | refine AG ?_ | refine A2 ?_ | refine A5 ?_ | intro _g _hg | refine AE ?_ ?_ | intro _hc) | omega)
 ·rw [if_neg h0]
  repeat' (first | (simp -implicitDefEqProofs [QP, c13, -getElem?_pos, h0, splice, A8, AC]) | (simp (disch := omega) only [AF]) | ((with_reducible refine AJ 15 ?_); refine' AZ (hv) ?_) | (with_reducible first | refine A7 ?_ ?_ ?_ | exact AB | refine SameB.upd ?_ ?_ _ | assumption | refine A3 ?_ | refine KM.of ?_ | refine AG ?_ | refine A2 ?_ | refine A5 ?_ | intro _g _hg | refine AE ?_ ?_ | intro _hc) | omega)
def IM (F : Fut) (k : Nat) : Ai := (F.cur :: F.l.map (·.2)).getD k []
abbrev ZJ (a b : Int) : AObj := .cells 27 [aI a, aI b]
def A13 (n : Nat) (H : A4) (xs : List Int) (cs : Ai) (e : Bool) : Bi := fun r n' H' => n ≤ n' ∧ (∀ k, n' ≤ k → H' k = none) ∧ SameB n H H' ∧ ∃ gg, n ≤ gg ∧ H' gg = some (.grow 3 (cs.map aI)) ∧ r = .tup [.sl 1 (xs.map aI) .ro, .slg 1 gg cs.length, .bool e, aF (0, 0)]
theorem VN {F : Fut} {j : Nat} {y : Int} {c : Ai} (h : F.l[j]? = some (y, c)) : IM F (j + 1) = c := by
 simp [IM, List.getD_eq_getElem?_getD, h]
theorem RV {cs c : Ai} (h : c.length = cs.length) : EA cs 0 c = c := by
 unfold EA; simp [List.drop_eq_nil_of_le, h]
theorem Ax {R : Bi} {n m : Nat} {res : List ARes} {e : AT} {H : A4} {x r : AV} (h1 : Br ⟨e, m, H⟩ res = some x) (hs : A8 x r) (h2 : n ≤ m) (h3 : ∀ k, m ≤ k → H k = none) (h4 : R r m H) : fin R n res .ret ⟨e, m, H⟩ := ⟨r, m, H, ⟨x, h1, hs⟩, h2, Nat.le_refl _, h3, SameB.rfl_ _ _, h4⟩
theorem EG {z : Nat} {l : List AV} {t : Tok} (hz : z = 1 ∨ l = []) : A8 (.sl z l t) (.sl 1 l .ro) := ⟨1, l, .ro, rfl, .inl rfl, hz.imp Eq.symm (fun h => ⟨h, rfl⟩), A0 l⟩
theorem Z6 {a b c d a' : AV} (h : A8 a a') : A8 (.tup [a, b, c, d]) (.tup [a', b, c, d]) := ⟨_, rfl, _, _, rfl, h, A0 _⟩
theorem Wl {R : Bi} {n n1 gO gg g7 nR : Nat} {H H1 : A4} {px : AV} {F : Fut} {O : Nat → Prop} {m : Nat} (hm : m ≤ 5000) (hpx : Ox px) (hS : Sit gO 0 [⟨px, some F.l, F.cur, F.fin, O⟩] H1 n1 gg F.cur) (hn : n ≤ n1) (hgO : n ≤ gO) (hgg : n ≤ gg) (hOn : ∀ g, OU [⟨px, some F.l, F.cur, F.fin, O⟩] g → n ≤ g) (hsame : SameB n H H1) (h7 : Bx (OU [⟨px, some F.l, F.cur, F.fin, O⟩]) gO g7 H1 n1 (ZJ 0 0)) (n7 : n ≤ g7) (g77 : gg ≠ g7)
  (hR : R = A13 n H ((F.l.map (·.1)).take m) (if m ≤ F.l.length then IM F m else F.fin) (decide (F.l.length < m))) (hnR : nR = n) :
  LoopK (fun Q s => aw Tryz.prog c18_L4 Q s) (Cy 0 (Bz (aw Tryz.prog c18_k1 (fin R nR [.tmp 4, .tmp 5, .tmp 6, .cell 7 (some 2)])) (fin R nR [.tmp 4, .tmp 5, .tmp 6, .cell 7 (some 2)]))) ⟨[(1, aI m), (7, .ptr g7 0), (9, .ptr gO 0), (10, px), (11, .sl 0 [] .nil)], n1, H1⟩ := by
 subst hnR
 refine LoopK.go (fun r st => ∃ (j n2 z : Nat) (t : Tok) (O1 : Nat → Prop) (H2 : A4), j + r = m ∧ j ≤ F.l.length ∧ st = ⟨[(1, aI m), (7, .ptr g7 0), (9, .ptr gO 0), (10, px), (11, .sl z (((F.l.map (·.1)).take j).map aI) t)], n2, H2⟩ ∧ nR ≤ n2 ∧ SitT gO 0 ⟨px, some (F.l.drop j), IM F j, F.fin, O1⟩ t j H2 n2 gg (IM F j) ∧ (IM F j).length = F.cur.length ∧ (t ≠ .nil → z = 1) ∧ (∀ g, OT ⟨px, some (F.l.drop j), IM F j, F.fin, O1⟩ t g → nR ≤ g) ∧ SameB nR H H2 ∧ Bx (OT ⟨px, some (F.l.drop j), IM F j, F.fin, O1⟩ t) gO g7 H2 n2 (ZJ 0 0)) m ?_ ?_
 ·exact ⟨0, n1, 0, .nil, O, H1, by omega, by omega, rfl, hn, ⟨hS, rfl, fun g h => h.elim, fun h => h, fun h => h⟩, rfl, fun h => absurd rfl h, fun g h => h.elim (hOn g) (fun h => h.elim), hsame, ⟨fun h => h.elim h7.no (fun h => h.elim), h7.nO, h7.lt, h7.at_⟩⟩
 rintro r st ⟨j, n2, z, t, O1, H2, hj, hjl, rfl, hn2, hST, hcl, hz, hOn2, hsame2, B7⟩ J hJ
 have hgiv := hST.sit.giv
 have hlt := hgiv.lt hST.sit.sup
 have hxl : (((F.l.map (·.1)).take j).map aI).length = j := by simp; omega
 have q7 := B7.at_
 have hz1 : z = 1 ∨ ((F.l.map (·.1)).take j).map aI = [] := by
  by_cases ht : t = .nil
  ·subst ht
   have e : j = 0 := hST.tok
   subst e
   exact .inr rfl
  ·exact .inl (hz ht)
 obtain ⟨ff, fa, fb, rfl⟩ := hpx
 by_cases hjm : j < m
 ·have hjm' : (j : Int) < m := by omega
  cases hd : F.l.drop j with
  | nil =>
   rw [hd] at hST B7 hOn2
   have hlen : F.l.length = j := by have := congrArg List.length hd; simp at this; omega
   have htk : (F.l.map (·.1)).take m = (F.l.map (·.1)).take j := by rw [List.take_of_length_le (by simp; omega), List.take_of_length_le (by simp; omega)]
   rw [if_neg (by omega), htk, decide_eq_true (by omega)] at hR
   generalize ((F.l.map (·.1)).take j) = xs at *
   generalize hxa : xs.map aI = xsa at *
   have qo := q7
   
   repeat' (first | (simp -implicitDefEqProofs [MZ, NH, N6, Mx, ID, Ej, c18, -getElem?_pos, q7, qo, hxl, hjm', splice, -Ar]) | (simp (disch := omega) only [AF]) | (refine hST.call (fun r n' H' p' hle hr hl hS2 ha => ?_); obtain ⟨x', l', cur', fin', O3⟩ := p'; dsimp only [PtR] at hr; obtain ⟨rfl, rfl, ⟨v, rfl⟩, rfl, rfl⟩ := hr; have C7 := B7.go g77 ha; have q7 := C7.at_; have e1 : EA (IM F j) 0 (Ap [(⟨.fn ff fa fb, none, F.fin, F.fin, O3⟩ : Pt)]) = F.fin := (RV (by simpa [Ap] using hl)).trans (by simp [Ap]); rw [e1] at hS2; have qo := hS2.sit.giv.opn) | (with_reducible first | refine A7 ?_ ?_ ?_ | exact AB | assumption | refine A3 ?_ | refine KM.of ?_ | refine AG ?_ | refine A2 ?_ | refine A6 ?_ | refine A5 ?_ | refine AH ?_ | refine AA ?_ | intro _g _hg | refine AE ?_ ?_ | intro _hc) | omega)
   subst hR hxa
   have hle' : n2 ≤ n' := hle
   have := C7.lt
   have hg := hS2.sit.giv.giv
   refine Ax (x := .tup [.sl z (xs.map aI) t, .slg 1 gg F.fin.length, .bool true, .agg [aI 0, aI 0]]) (by simp -implicitDefEqProofs [-getElem?_pos]) (Z6 (EG hz1)) (by omega) (fun k hk => by rw [upd_ne (by omega)]; exact hS2.sit.sup k hk) ⟨by omega, (fun k hk => by rw [upd_ne (by omega)]; exact hS2.sit.sup k hk), fun k hk => ?_, gg, hgg, by rw [upd_ne g77]; exact hg, rfl⟩
   rw [upd_ne (by omega), ha.fr k (by omega) (fun h => by have := hOn2 k h; omega) (by omega)]
   exact hsame2 k hk
  | cons e l2 =>
   obtain ⟨y, c⟩ := e
   have hy : F.l[j]? = some (y, c) := by
    have := congrArg (fun l => l[0]?) hd
    simpa using this
   have hd2 : F.l.drop (j + 1) = l2 := by
    have := congrArg List.tail hd
    simpa using this
   have hj1 : j + 1 ≤ F.l.length := by have := (List.getElem?_eq_some_iff.1 hy).1; omega
   have htk : ((F.l.map (·.1)).take (j + 1)).map aI = ((F.l.map (·.1)).take j).map aI ++ [aI y] := by
    rw [List.take_succ, List.getElem?_map, hy]; simp
   rw [hd] at hST B7 hOn2
   generalize hxs : ((F.l.map (·.1)).take j).map aI = xsa at *
   
   repeat' (first | (simp -implicitDefEqProofs [MZ, NH, N6, Mx, ID, Ej, c18, -getElem?_pos, q7, hxl, hjm', splice, -Ar]) | (simp (disch := omega) only [AF]) | (refine hST.call (fun r n' H' p' hle hr hl hS2 ha => ?_); obtain ⟨x', l', cur', fin', O3⟩ := p'; dsimp only [PtR] at hr; obtain ⟨rfl, rfl, rfl, rfl, rfl⟩ := hr; have hle' : n2 ≤ n' := hle; have C7 := B7.go g77 ha; have e1 : EA (IM F j) 0 (Ap [(⟨.fn ff fa fb, some l2, cur', F.fin, O3⟩ : Pt)]) = cur' := (RV (by simpa [Ap] using hl)).trans (by simp [Ap]); rw [e1] at hS2) | (refine Nu (by rw [hxl]; exact hS2.tok.at_ (fun k hk => by have := hS2.tok.lt k hk; rw [upd_ne (by omega)]) (by omega)) hz (by rw [hxl]; omega) (fun k hk => by rw [upd_ne (by omega)]; exact hS2.sit.sup k (by omega)) (fun g' n3 H3 k1 k2 k3 k4 k5 k6 k7 => ?_)) | (with_reducible first | refine A7 ?_ ?_ ?_ | exact AB | assumption | refine A3 ?_ | refine KM.of ?_ | refine AG ?_ | refine A2 ?_ | refine A6 ?_ | refine A5 ?_ | refine AH ?_ | refine AA ?_ | intro _g _hg | refine AE ?_ ?_ | intro _hc) | omega)
   have rep : Rep' t (j + 1) n' H' g' n3 H3 := ⟨k1.elim .inl (fun h => .inr (by omega)), by omega, k3, fun k h1 h2 => (k4 k (by omega) h2).trans (upd_ne (by omega)), by rw [k5, hxl], k6⟩
   have hS3 := hS2.app rep
   have D7 := C7.app rep
   have e2 : IM F (j + 1) = cur' := VN hy
   refine hJ (r - 1) _ (by omega) ⟨j + 1, n3, 1, .own g', O3, H3, by omega, hj1, by rw [htk], by omega, by rw [hd2, e2]; exact hS3, by rw [e2]; simpa [Ap] using hl.trans (by simpa [Ap] using hcl), fun _ => rfl, ?_, ?_, by rw [hd2, e2]; exact D7⟩
   ·rw [hd2, e2]
    rintro g (hg | hg)
    ·exact (ha.sub g (.inl hg)).elim (hOn2 g) (fun h => by omega)
    ·have e : g = g' := hg
     exact k1.elim (fun h => by rw [e]; exact hOn2 g' (.inr h)) (fun h => by omega)
   ·intro k hk
    rw [rep.fr k (by omega) (fun h => by have := hOn2 k (.inr h); omega), ha.fr k (by omega) (fun h => by have := hOn2 k h; omega) (by omega)]
    exact hsame2 k hk
 ·have hjm' : ¬ (j : Int) < m := by omega
  have hmj : m = j := by omega
  subst hmj
  rw [if_pos hjl, decide_eq_false (by omega)] at hR
  have qo := hST.sit.giv.opn
  have qg := hST.sit.giv.giv
  generalize ((F.l.map (·.1)).take m) = xs at *
  generalize hxa : xs.map aI = xsa at *
  
  repeat' (first | (simp -implicitDefEqProofs [MZ, NH, N6, Mx, ID, Ej, c18, -getElem?_pos, q7, qo, hxl, hjm', splice, -Ar]) | (simp (disch := omega) only [AF]) | (with_reducible first | refine A7 ?_ ?_ ?_ | exact AB | assumption | refine A3 ?_ | refine KM.of ?_ | refine AG ?_ | refine A2 ?_ | refine A6 ?_ | refine A5 ?_ | refine AH ?_ | refine AA ?_ | intro _g _hg | refine AE ?_ ?_ | intro _hc) | omega)
  subst hR hxa
  have := B7.lt
  refine Ax (x := .tup [.sl z (xs.map aI) t, .slg 1 gg (IM F m).length, .bool false, .agg [aI 0, aI 0]]) (by simp -implicitDefEqProofs [-getElem?_pos]) (Z6 (EG hz1)) (by omega) (fun k hk => by rw [upd_ne (by omega)]; exact hST.sit.sup k hk) ⟨by omega, (fun k hk => by rw [upd_ne (by omega)]; exact hST.sit.sup k hk), fun k hk => ?_, gg, hgg, by rw [upd_ne g77]; exact qg, rfl⟩
  rw [upd_ne (by omega)]
  exact hsame2 k hk
def NB : Nat → AW → List Int → Option (List Int × AW)
 | 0, _, _ => none
 | f + 1, r, vs => if (ER (r.takeWhile Af)).2 = true then (if (acc 44 (r.dropWhile Af)).2 = true then NB f (acc 44 (r.dropWhile Af)).1 (vs ++ [(ER (r.takeWhile Af)).1]) else some (vs ++ [(ER (r.takeWhile Af)).1], (acc 44 (r.dropWhile Af)).1)) else none
def Es (r : AW) : Option (List Int × AW) := if [41] <+: r then some ([], r) else NB (r.length + 1) r []
theorem HQ {c x : UInt8} {r : AW} : acc c (x :: r) = if x = c then (r, true) else (x :: r, false) := rfl
theorem D8 (c : UInt8) (r : AW) : (acc c r).1.length ≤ r.length ∧ ((acc c r).2 = true → (acc c r).1.length + 1 = r.length) := by
 cases r with
 | nil => simp [acc]
 | cons x r =>
  rw [HQ]
  split <;> simp
theorem EM (p : UInt8 → Bool) (r : AW) : (r.dropWhile p).length ≤ r.length := (List.dropWhile_sublist _).length_le
def ZD (n : Nat) (H : A4) (gp gS gm : Nat) (k o m : Int) (ps : AV) (res : Option (List Int × AW)) : Bi := fun b n' H' => n ≤ n' ∧ (∀ g, n' ≤ g → H' g = none) ∧ (∀ g, g < n → g ≠ gp → g ≠ gS → H' g = H g) ∧ match res with
 | some (vs, r') => b = .bool true ∧ H' gp = some (An r' gm) ∧ ∃ (z : Nat) (t : Tok), (z = 1 ∨ vs = []) ∧ H' gS = some (Aj k o m (.sl z (vs.map aI) t) ps)
 | none => b = .bool false ∧ (∃ r', H' gp = some (An r' gm)) ∧ ∃ w, H' gS = some (Aj k o m w ps)
theorem Ta {c : UInt8} {r : AW} (h : (acc c r).2 = false) : (acc c r).1 = r := by
 cases r with
 | nil => rfl
 | cons x r =>
  rw [HQ] at h ⊢
  split
  ·rename_i hx; rw [if_pos hx] at h; cases h
  ·rfl
theorem WE (r : AW) (gp gS gm n : Nat) (H : A4) (k o m : Int) (ps : AV) (hps : ps.one = true) (hr : r.length ≤ 4000) (hp : H gp = some (An r gm)) (hS : H gS = some (Aj k o m (.sl 0 [] .nil) ps)) (hne : gp ≠ gS) (hpf : ps.fits none = true) : ACalls Tryz.prog 125 [.ptr gp 0, .ptr gS 0] n H (ZD n H gp gS gm k o m ps (Es r)) := by
 have hh := Ri r [41]
 unfold Es
 generalize hR : ZD _ _ _ _ _ _ _ _ _ _ = R
 refine Ab Tryz.func125 A0k rfl fun hs => ?_
 have hgp : gp < n := by
  rcases Nat.lt_or_ge gp n with h | h
  ·exact h
  ·rw [hs gp h] at hp; cases hp
 have hgS : gS < n := by
  rcases Nat.lt_or_ge gS n with h | h
  ·exact h
  ·rw [hs gS h] at hS; cases hS
 by_cases h0 : [41] <+: r
 ·rw [decide_eq_true h0] at hh
  rw [if_pos h0] at hR
  repeat' (first | (simp -implicitDefEqProofs [FZ, Ff, FY, c125, -getElem?_pos, hp]) | (simp (disch := omega) only [AF]) | ((with_reducible refine AJ 128 ?_); refine' AZ (hh) ?_) | (with_reducible first | refine A7 ?_ ?_ ?_ | exact AB | assumption | refine A3 ?_ | refine KM.of ?_ | refine AG ?_ | refine A6 ?_ | refine AH ?_ | refine AA ?_ | intro _g _hg | refine AE ?_ ?_ | intro _hc) | omega)
  subst hR
  exact Ax (x := .bool true) (by simp -implicitDefEqProofs [-getElem?_pos]) (A1 _) (by omega) hs ⟨by omega, hs, fun _ _ _ _ => rfl, rfl, hp, 0, .nil, .inr rfl, hS⟩
 ·rw [decide_eq_false h0] at hh
  rw [if_neg h0] at hR
  repeat' (first | (simp -implicitDefEqProofs [c125, FZ, Ff, FY, c125, -getElem?_pos, hp]) | (simp (disch := omega) only [AF]) | ((with_reducible refine AJ 128 ?_); refine' AZ (hh) ?_) | (with_reducible first | refine A7 ?_ ?_ ?_ | exact AB | assumption | refine A3 ?_ | refine KM.of ?_ | refine AG ?_ | refine A6 ?_ | refine AH ?_ | refine AA ?_ | intro _g _hg | refine AE ?_ ?_ | intro _hc) | omega)
  refine LoopK.go (fun f st => ∃ (r1 : AW) (vs : List Int) (z : Nat) (t : Tok) (n1 : Nat) (H1 : A4), st = ⟨[(0, .ptr gp 0), (1, .ptr gS 0)], n1, H1⟩ ∧ n ≤ n1 ∧ (∀ g, n1 ≤ g → H1 g = none) ∧ (∀ g, g < n → g ≠ gp → g ≠ gS → H1 g = H g) ∧ H1 gp = some (An r1 gm) ∧ H1 gS = some (Aj k o m (.sl z (vs.map aI) t) ps) ∧ TokOk t vs.length H1 n1 ∧ (t ≠ .nil → z = 1) ∧ (∀ g, CT t g → n ≤ g) ∧ NB f r1 vs = NB (r.length + 1) r [] ∧ r1.length < f ∧ vs.length + r1.length ≤ 4000) (r.length + 1) ⟨r, [], 0, .nil, n, H, rfl, Nat.le_refl _, hs, fun _ _ _ _ => rfl, hp, hS, rfl, fun h => absurd rfl h, fun g h => h.elim, rfl, by omega, by simpa using hr⟩ ?_
  rintro f st ⟨r1, vs, z, t, n1, H1, rfl, hn1, hs1, hfr, q1, q2, hT, hz, hTn, hE, hlf, hvl⟩ J hJ
  obtain ⟨f, rfl⟩ : ∃ f', f = f' + 1 := ⟨f - 1, by omega⟩
  have hnum := Rf r1 gp gm n1 H1 (by omega) q1
  have hd1 := EM Af r1
  rw [NB] at hE
  generalize hd : ER (r1.takeWhile Af) = d at *
  generalize hr2 : r1.dropWhile Af = r2 at *
  by_cases hd2 : d.2 = true
  ·rw [if_pos hd2] at hE
   rw [hd2] at hnum
   have hac : ∀ n2 H2, H2 gp = some (An r2 gm) → AUpd Tryz.prog 85 [.ptr gp 0, .str [44]] n2 H2 (.bool (acc 44 r2).2) gp (An (acc 44 r2).1 gm) := fun n2 H2 h => GM r2 44 gp gm n2 H2 h
   have hal := D8 44 r2
   have han : (acc 44 r2).2 = false → (acc 44 r2).1 = r2 := Ta
   have hvl2 : (vs.map aI).length = vs.length := by simp
   have hvm : (vs ++ [d.1]).map aI = vs.map aI ++ [aI d.1] := by simp
   have hvs1 : r1.length ≠ 0 := by
    intro e
    have := List.length_eq_zero_iff.1 e
    subst this
    rw [← hd] at hd2
    simp [ER, Lib.atoiAll, Lib.signless, Lib.parseMag] at hd2
   generalize hac1 : acc 44 r2 = a at *
   by_cases ha2 : a.2 = true
   ·rw [if_pos ha2] at hE
    rw [ha2] at hac
    
    repeat' (first | (simp -implicitDefEqProofs [FZ, Ff, FY, c125, -getElem?_pos, q1, q2, Ne.symm hne, hne, splice]) | (simp (disch := omega) only [AF]) | (refine Nu (by rw [hvl2]; exact hT.at_ (fun k hk => by have := hT.lt k hk; have := hTn k hk; simp (disch := omega) only [upd_ne]) (by omega)) hz (by rw [hvl2]; omega) (fun k hk => by simp (disch := omega) only [upd_ne]; exact hs1 k (by omega)) (fun g' n2 H2 k1 k2 k3 k4 k5 k6 k7 => ?_); have e1 : H2 gS = _ := (k4 gS (by omega) (fun h => by have := hTn gS h; omega)); have e2 : H2 gp = _ := (k4 gp (by omega) (fun h => by have := hTn gp h; omega)); rw [upd_ne (by omega), upd_ne (Ne.symm hne), q2] at e1; rw [upd_ne (by omega), AX] at e2; have q2 := e1) | ((with_reducible refine Ay 127 ?_); (refine' CallK.sfU ?_ (hnum) ?_); (focus first | (with_reducible exact A0 _) | (simp [AC, A8, A1, A0]; done))) | ((with_reducible refine Ay 85 ?_); (refine' CallK.sfU ?_ ((hac _ _ (by simp (disch := omega) only [upd_ne]; exact e2))) ?_); (focus first | (with_reducible exact A0 _) | (simp [AC, A8, A1, A0]; done))) | (with_reducible first | refine A7 ?_ ?_ ?_ | exact AB | assumption | refine A3 ?_ | refine KM.of ?_ | refine AG ?_ | refine A6 ?_ | refine AH ?_ | refine AA ?_ | intro _g _hg | refine AE ?_ ?_ | intro _hc) | omega)
    have hal2 := hal.2 ha2
    have hgg : g' ≠ gp := fun e => k1.elim (fun h => by have := hTn g' h; omega) (fun h => by omega)
    have hgg2 : g' ≠ gS := fun e => k1.elim (fun h => by have := hTn g' h; omega) (fun h => by omega)
    refine hJ f _ (by omega) ⟨a.1, vs ++ [d.1], 1, .own g', n2, _, rfl, by omega, fun g hg => by simp (disch := omega) only [upd_ne]; exact k6 g hg, fun g h1 h2 h3 => ?_, AX _ _ _, by rw [upd_ne (Ne.symm hne), AX, hvm], ⟨by rw [upd_ne hgg, upd_ne hgg2, k5]; simp, k3⟩, fun _ => rfl, fun g hg => ?_, hE, by omega, by simp; omega⟩
    ·rw [upd_ne h2, upd_ne h3, k4 g (by omega) (fun h => by have := hTn g h; omega), upd_ne (by omega), upd_ne h2]; exact hfr g h1 h2 h3
    ·have e : g = g' := hg
     exact k1.elim (fun h => by rw [e]; exact hTn g' h) (fun h => by omega)
   ·rw [if_neg ha2] at hE
    rw [Bool.not_eq_true] at ha2
    rw [ha2] at hac
    
    repeat' (first | (simp -implicitDefEqProofs [FZ, Ff, FY, c125, -getElem?_pos, q1, q2, Ne.symm hne, hne, splice]) | (simp (disch := omega) only [AF]) | (refine Nu (by rw [hvl2]; exact hT.at_ (fun k hk => by have := hT.lt k hk; have := hTn k hk; simp (disch := omega) only [upd_ne]) (by omega)) hz (by rw [hvl2]; omega) (fun k hk => by simp (disch := omega) only [upd_ne]; exact hs1 k (by omega)) (fun g' n2 H2 k1 k2 k3 k4 k5 k6 k7 => ?_); have e1 : H2 gS = _ := (k4 gS (by omega) (fun h => by have := hTn gS h; omega)); have e2 : H2 gp = _ := (k4 gp (by omega) (fun h => by have := hTn gp h; omega)); rw [upd_ne (by omega), upd_ne (Ne.symm hne), q2] at e1; rw [upd_ne (by omega), AX] at e2; have q2 := e1) | ((with_reducible refine Ay 127 ?_); (refine' CallK.sfU ?_ (hnum) ?_); (focus first | (with_reducible exact A0 _) | (simp [AC, A8, A1, A0]; done))) | ((with_reducible refine Ay 85 ?_); (refine' CallK.sfU ?_ ((hac _ _ (by simp (disch := omega) only [upd_ne]; exact e2))) ?_); (focus first | (with_reducible exact A0 _) | (simp [AC, A8, A1, A0]; done))) | (with_reducible first | refine A7 ?_ ?_ ?_ | exact AB | assumption | refine A3 ?_ | refine KM.of ?_ | refine AG ?_ | refine A6 ?_ | refine AH ?_ | refine AA ?_ | intro _g _hg | refine AE ?_ ?_ | intro _hc) | omega)
    subst hR
    rw [← hE]
    refine Ax (x := .bool true) (by simp -implicitDefEqProofs [-getElem?_pos]) (A1 _) (by omega) (fun g hg => by simp (disch := omega) only [upd_ne]; exact k6 g hg) ⟨by omega, fun g hg => by simp (disch := omega) only [upd_ne]; exact k6 g hg, fun g h1 h2 h3 => ?_, rfl, AX _ _ _, 1, .own g', .inl rfl, by rw [upd_ne (Ne.symm hne), AX, hvm]⟩
    rw [upd_ne h2, upd_ne h3, k4 g (by omega) (fun h => by have := hTn g h; omega), upd_ne (by omega), upd_ne h2]; exact hfr g h1 h2 h3
  ·rw [if_neg hd2] at hE
   rw [Bool.not_eq_true] at hd2
   rw [hd2] at hnum
   
   repeat' (first | (simp -implicitDefEqProofs [FZ, Ff, FY, c125, -getElem?_pos, q1, q2, Ne.symm hne, hne, splice]) | (simp (disch := omega) only [AF]) | ((with_reducible refine Ay 127 ?_); (refine' CallK.sfU ?_ (hnum) ?_); (focus first | (with_reducible exact A0 _) | (simp [AC, A8, A1, A0]; done))) | (with_reducible first | refine A7 ?_ ?_ ?_ | exact AB | assumption | refine A3 ?_ | refine KM.of ?_ | refine AG ?_ | refine A6 ?_ | refine AH ?_ | refine AA ?_ | intro _g _hg | refine AE ?_ ?_ | intro _hc) | omega)
   subst hR
   rw [← hE]
   exact Ax (x := .bool false) (by simp -implicitDefEqProofs [-getElem?_pos]) (A1 _) (by omega) (fun g hg => by simp (disch := omega) only [upd_ne]; exact hs1 g hg) ⟨by omega, fun g hg => by simp (disch := omega) only [upd_ne]; exact hs1 g hg, fun g h1 h2 h3 => by rw [upd_ne h2]; exact hfr g h1 h2 h3, rfl, ⟨_, AX _ _ _⟩, _, by rw [upd_ne (Ne.symm hne)]; exact q2⟩
end Go.Proofs.YtjdccdelcnmocaaGreatDoor
