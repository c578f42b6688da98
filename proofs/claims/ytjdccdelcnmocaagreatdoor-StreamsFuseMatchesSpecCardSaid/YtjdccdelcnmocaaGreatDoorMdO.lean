/- Streams: sources of ranges are made; no condition. -/
import Derived.Test.YtjdccdelcnmocaaGreatDoorMdN
import Derived.Test.YtjdccdelcnmocaaGreatDoorMdL
import Derived.Test.YtjdccdelcnmocaaGreatDoorMgI
import Derived.Test.YtjdccdelcnmocaaGreatDoorAdE
import Derived.Test.YtjdccdelcnmocaaGreatDoorMdK
import Derived.Shelf.Strings.Fields
import Derived.Shelf.Strconv.Itoa3
import Derived.Shelf.Strings.OnBuilder
import Derived.Lib.AppendIntMem
import Derived.Test.YtjdccdelcnmocaaGreatDoorMgJ
set_option linter.all false
set_option linter.unusedSimpArgs false
set_option linter.unusedVariables false
set_option maxHeartbeats 2000000
namespace Go.Proofs.YtjdccdelcnmocaaGreatDoor
theorem Tt {a b c : Int} (hc : 1 ≤ c) (j : Nat) : a + (j : Int) * c < b ↔ j < Gj [a, b, c] := by
 show _ ↔ j < ((b - a + c - 1) / c).toNat
 have h := Int.le_ediv_iff_mul_le (a := (j : Int) + 1) (b := b - a + c - 1) (c := c) (by omega)
 rw [Int.add_mul] at h
 omega
theorem WA {a b c : Int} (hv : 0 ≤ a ∧ a ≤ 9999 ∧ 0 ≤ b ∧ b ≤ 10000 ∧ 1 ≤ c ∧ c ≤ 9999) : Gj [a, b, c] ≤ 10000 := by
 show ((b - a + c - 1) / c).toNat ≤ 10000
 have h := Int.ediv_lt_of_lt_mul (a := b - a + c - 1) (b := 10001) (c := c) (by omega) (by
  have h1 : (10000 : Int) * 1 ≤ 10000 * c := by omega
  omega)
 omega
attribute [local simp] Nj Fe FS L6 N3 NE LZ Fg F3 Fq HO MF Nf MS MH NT O6 Md Of L5 Me M5 Nc LI M0 TE pe Nt OB NM MM M1 Nw LN Mb Lh Lc NY Mk Lx FX MB MD Nd Lg MO N1 ME MK NN Mf LY LR Ma Ol Mm MC N7 Lm M6 Mr Ly FH ND Fh NJ Mz NC NU Ms Oa NO OS Mx Ld Lw LL LQ L7 OM Ot ON Mg Mn N2 OA O5 Ln O8 MU F9 Oi OY Nu LF Mw Ng Nm Mt Nr Np Nb Oh On OO OK Mo Ny LK Nz Lk LD MJ NK NF M9 L9 Nn LH NW LJ Hv M3 List.mem_cons guardK E5 Er FR HV LU FT Fd FO Fi FD FC F5 FW Fc Lb O9 FZ NH LB Mu Mp ML OW FG OR No OF O4 Lt M2 Hj FY FP F6 Fb Oo N5 FI OJ FF NX F4 FB M7 Fa F8 Ll N0 Ml LW NZ La MZ Lp TF Ju K2 HG KF Jz KD EN Ge Gb Od Ga GX EM E3 Us Jt Jx Gd Jp Jv Dl DQ Bz Bk CH DL BL ev get put EV Ad Cw L8 MP LM Lo K7 OV EF part BO Gn OD GV isNil Ct DJ Dm DN DM Nq Lu MV Mh NV KE NS OQ Og LO Lj M4 N4 Lq OH Mj AV.fits AV.cells ones AV.one E7 CI E1 DI EQ EI MY Es FU CK CB CQ Ew FV Ax Bn VW HB Nx LT List.getElem?_cons_zero List.getElem?_cons_succ FJ FM F7 OI Mc MX Gk Oc OG MI Lv Mi Ok MW Lr Ls MA LX
theorem Oy (k o m : Int) (v : List Int) (x : St) (hk : k = 5 ∨ k = 12) (hm : 0 ≤ m ∧ m ≤ 5000) (hx : APure Tryz.prog 70 [encS x] (aI (min (Ah x) 5001 : Nat))) : APure Tryz.prog 70 [encS (.mk k o m v [x])] (aI (min (Ah (.mk k o m v [x])) 5001 : Nat)) := by
 have hxf := BP x
 have hb : min (Ah (.mk k o m v [x])) 5001 = min (C2 k m v [min (Ah x) 5001]) 5001 := by
  rw [Ah, JE]; rfl
 rw [hb]
 obtain ⟨b, hb'⟩ : ∃ b, min (Ah x) 5001 = b := ⟨_, rfl⟩
 have hb5 : b ≤ 5001 := by omega
 rw [hb'] at hx ⊢
 obtain ⟨m', rfl⟩ : ∃ m' : Nat, m = m' := ⟨m.toNat, by omega⟩
 rw [A7, AD, AD]
 generalize encS x = ex at *
 rcases hk with rfl | rfl
 ·have hz : (min (C2 5 m' v [b]) 5001 : Nat) = min (min m' b) 5001 := by simp [C2]
  rw [hz]
  
  refine A3 Tryz.func70 Ks rfl fun n H hH => ?_
  repeat' (first | (simp -implicitDefEqProofs [D0, D9, DF, D8, D3, D7, DC, D4, D6, c70, -getElem?_pos, hxf, -AV.fits, AI, AK]) | (simp (disch := omega) only [AH]) | ((with_reducible refine Al 70 ?_); (refine' CallP.sf ?_ (hx) ?_); (focus first | (with_reducible exact A0 _) | (simp [AK, AI, A1, A0]; done))) | (with_reducible first | refine A8 ?_ ?_ ?_ | exact AF | refine SameB.upd ?_ ?_ _ | assumption | refine A4 ?_ | refine KM.of ?_ | refine AG ?_ | refine A2 ?_ | refine A5 ?_ | intro _g _hg | refine AE ?_ ?_ | intro _hc) | omega)
  all_goals (refine BN ?_; grind)
 ·have hz : (min (C2 12 m' v [b]) 5001 : Nat) = min (m' * b) 5001 := by simp [C2]
  rw [hz]
  have hmb : m' * b ≤ 5000 * 5001 := Nat.mul_le_mul (by omega) hb5
  have hmc : ((m' * b : Nat) : Int) = (m' : Int) * b := Int.natCast_mul _ _
  
  refine A3 Tryz.func70 Ks rfl fun n H hH => ?_
  repeat' (first | (simp -implicitDefEqProofs [D0, D9, DF, D8, D3, D7, DC, D4, D6, c70, -getElem?_pos, hxf, -AV.fits, AI, AK]) | (simp (disch := omega) only [AH]) | ((with_reducible refine Al 70 ?_); (refine' CallP.sf ?_ (hx) ?_); (focus first | (with_reducible exact A0 _) | (simp [AK, AI, A1, A0]; done))) | (with_reducible first | refine A8 ?_ ?_ ?_ | exact AF | refine SameB.upd ?_ ?_ _ | assumption | refine A4 ?_ | refine KM.of ?_ | refine AG ?_ | refine A2 ?_ | refine A5 ?_ | intro _g _hg | refine AE ?_ ?_ | intro _hc) | omega)
  all_goals (rw [← hmc, IntKind.i64_wrap_id (by omega) (by omega)]; omega)
theorem PO (o m : Int) (v : List Int) (x y : St) (hx : APure Tryz.prog 70 [encS x] (aI (min (Ah x) 5001 : Nat))) (hy : APure Tryz.prog 70 [encS y] (aI (min (Ah y) 5001 : Nat))) : APure Tryz.prog 70 [encS (.mk 15 o m v [x, y])] (aI (min (Ah (.mk 15 o m v [x, y])) 5001 : Nat)) := by
 have hxf := BP x
 have hyf := BP y
 have hb : min (Ah (.mk 15 o m v [x, y])) 5001 = min (min (Ah x) 5001) (min (Ah y) 5001) := by
  simp [Ah, CR, C2]; omega
 rw [hb]
 obtain ⟨b, hb'⟩ : ∃ b, min (Ah x) 5001 = b := ⟨_, rfl⟩
 obtain ⟨c, hc'⟩ : ∃ c, min (Ah y) 5001 = c := ⟨_, rfl⟩
 have hb5 : b ≤ 5001 := by omega
 have hc5 : c ≤ 5001 := by omega
 rw [hb'] at hx ⊢
 rw [hc'] at hy ⊢
 rw [A7, AD, AD, AD]
 generalize encS x = ex at *
 generalize encS y = ey at *
 
 refine A3 Tryz.func70 Ks rfl fun n H hH => ?_
 repeat' (first | (simp -implicitDefEqProofs [D0, D9, DF, D8, D3, D7, DC, D4, D6, c70, -getElem?_pos, hxf, hyf, -AV.fits, AI, AK]) | (simp (disch := omega) only [AH]) | ((with_reducible refine Al 70 ?_); (refine' CallP.sf ?_ (hx) ?_); (focus first | (with_reducible exact A0 _) | (simp [AK, AI, A1, A0]; done))) | ((with_reducible refine Al 70 ?_); (refine' CallP.sf ?_ (hy) ?_); (focus first | (with_reducible exact A0 _) | (simp [AK, AI, A1, A0]; done))) | (with_reducible first | refine A8 ?_ ?_ ?_ | exact AF | refine SameB.upd ?_ ?_ _ | assumption | refine A4 ?_ | refine KM.of ?_ | refine AG ?_ | refine A2 ?_ | refine A5 ?_ | intro _g _hg | refine AE ?_ ?_ | intro _hc) | omega)
 all_goals first | omega | (refine BN ?_; grind)
theorem JC {l : List Nat} {i x : Nat} (h : l[i]? = some x) : (l.take (i + 1)).sum = (l.take i).sum + x := by
 rw [List.take_succ, h]; simp
theorem Rh (c : Nat) (p : List St) (h : p.length ≤ 60) (i : Nat) : ((p.map fun s => min (Ah s) c).take i).sum ≤ 60 * c := by
 have g : ∀ l : List Nat, (∀ x ∈ l, x ≤ c) → l.sum ≤ l.length * c := by
  intro l hl
  induction l with
  | nil => simp
  | cons a r ih =>
   have h1 := hl a (by simp)
   have h2 := ih fun x hx => hl x (by simp [hx])
   simp only [List.sum_cons, List.length_cons, Nat.succ_mul]
   omega
 have h1 := g ((p.map fun s => min (Ah s) c).take i) (by
  intro x hx
  obtain ⟨s, _, rfl⟩ := List.mem_map.1 (List.mem_of_mem_take hx)
  omega)
 have h2 : ((p.map fun s => min (Ah s) c).take i).length ≤ 60 := by simp; omega
 exact Nat.le_trans h1 (Nat.mul_le_mul_right c h2)
theorem P3 (k o m : Int) (v : List Int) (p : List St) (h1 : k ≠ 1) (h2 : k ≠ 2) (h5 : k ≠ 5) (h12 : k ≠ 12) (h15 : k ≠ 15) (hp : p.length ≤ 60) (hx : ∀ x ∈ p, APure Tryz.prog 70 [encS x] (aI (min (Ah x) 5001 : Nat))) : APure Tryz.prog 70 [encS (.mk k o m v p)] (aI (min (Ah (.mk k o m v p)) 5001 : Nat)) := by
 have hb : min (Ah (.mk k o m v p)) 5001 = min (p.map fun s => min (Ah s) 5001).sum 5001 := by
  rw [Ah, JE, E4, List.map_map]
  simp [C2, h1, h2, h5, h12, h15, Function.comp_def]
 have hcl := Rh 5001 p hp
 have hpl := Ao p
 rw [hb]
 rw [A7]
 
 refine A3 Tryz.func70 Ks rfl fun n H hH => ?_
 repeat' (first | (simp -implicitDefEqProofs [c70, D0, D9, DF, D8, D3, D7, DC, D4, D6, c70, -getElem?_pos, h1, h2, h5, h12, h15]) | (simp (disch := omega) only [AH]) | (with_reducible first | refine A8 ?_ ?_ ?_ | exact AF | refine SameB.upd ?_ ?_ _ | assumption | refine A4 ?_ | refine KM.of ?_ | refine AG ?_ | refine A2 ?_ | refine A5 ?_ | intro _g _hg | refine AE ?_ ?_ | intro _hc) | omega)
 refine LoopK.go (fun r st => ∃ (j n1 : Nat) (H1 : A6), j + r = p.length ∧ st = ⟨[(3, aI (((p.map fun s => min (Ah s) 5001).take j).sum : Nat)), (9, .sl 5 (AD p) .ro), (10, aI p.length), (11, aI j)], n1, H1⟩ ∧ n ≤ n1 ∧ SameB n H H1) p.length ⟨0, _, _, by omega, by simp [hpl]; exact ⟨rfl, rfl⟩, by omega, by intro q hq; simp only [upd]; (repeat' split) <;> first | rfl | omega⟩ ?_
 rintro r st ⟨j, n1, H1, hj, rfl, hn1, hsame⟩ J hJ
 by_cases hjl : j < p.length
 ·obtain ⟨x, hx'⟩ : ∃ x, p[j]? = some x := ⟨_, List.getElem?_eq_getElem hjl⟩
  have hb := hx x (List.mem_of_getElem? hx')
  have hxe := CP hx'
  have hxf := BP x
  have hjl' : (j : Int) < p.length := by omega
  have hs := JC (l := p.map fun s => min (Ah s) 5001) (i := j) (x := min (Ah x) 5001) (by rw [List.getElem?_map, hx']; rfl)
  have hc1 := hcl j
  generalize ((p.map fun s => min (Ah s) 5001).take j).sum = a at *
  obtain ⟨b, hb'⟩ : ∃ b, min (Ah x) 5001 = b := ⟨_, rfl⟩
  have hb5 : b ≤ 5001 := by omega
  rw [hb'] at hb hs
  obtain ⟨k', o', m', v', p'⟩ := x
  rw [A7] at hb hxe hxf
  generalize AD p = ep at *
  generalize AD p' = ep' at *
  generalize v'.map aI = ev' at *
  
  repeat' (first | (simp -implicitDefEqProofs [D0, D9, DF, D8, D3, D7, DC, D4, D6, c70, -getElem?_pos, hjl', hxe, splice]) | (simp (disch := omega) only [AH]) | ((with_reducible refine Al 70 ?_); (refine' CallP.sf ?_ (hb) ?_); (focus first | (with_reducible exact A0 _) | (simp [AK, AI, A1, A0]; done))) | (with_reducible first | refine A8 ?_ ?_ ?_ | exact AF | refine SameB.upd ?_ ?_ _ | assumption | refine A4 ?_ | refine KM.of ?_ | refine AG ?_ | refine A2 ?_ | refine A5 ?_ | intro _g _hg | refine AE ?_ ?_ | intro _hc) | omega)
  exact hJ (r - 1) _ (by omega) ⟨j + 1, _, _, by omega, by rw [hs]; rfl, by omega, by intro q hq; simp only [upd]; (repeat' split) <;> first | (exact hsame q hq) | omega⟩
 ·have hjl' : ¬ (j : Int) < p.length := by omega
  have hc1 := hcl j
  have e : (p.map fun s => min (Ah s) 5001).take j = p.map fun s => min (Ah s) 5001 := List.take_of_length_le (by simp; omega)
  rw [e] at hc1 ⊢
  generalize (p.map fun s => min (Ah s) 5001).sum = a at *
  
  repeat' (first | (simp -implicitDefEqProofs [D0, D9, DF, D8, D3, D7, DC, D4, D6, c70, -getElem?_pos, hjl', AI, AK]) | (simp (disch := omega) only [AH]) | (with_reducible first | refine A8 ?_ ?_ ?_ | exact AF | refine SameB.upd ?_ ?_ _ | assumption | refine A4 ?_ | refine KM.of ?_ | refine AG ?_ | refine A2 ?_ | refine A5 ?_ | intro _g _hg | refine AE ?_ ?_ | intro _hc) | omega)
  all_goals first | omega | exact hsame | (refine BN ?_; grind)
theorem Hd (k o m : Int) (v : List Int) (p : List St) (hk : k = 1 ∨ k = 2) (hb : APure Tryz.prog 36 [encS (.mk k o m v p)] (aI (Ah (.mk k o m v p) : Nat))) : APure Tryz.prog 70 [encS (.mk k o m v p)] (aI (min (Ah (.mk k o m v p)) 5001 : Nat)) := by
 generalize Ah (.mk k o m v p) = b at *
 rw [A7] at hb ⊢
 generalize AD p = ep at *
 generalize v.map aI = ev at *
 rcases hk with rfl | rfl
 ·
  refine A3 Tryz.func70 Ks rfl fun n H hH => ?_
  repeat' (first | (simp -implicitDefEqProofs [D0, D9, DF, D8, D3, D7, DC, D4, D6, c70, -getElem?_pos, AI, AK]) | (simp (disch := omega) only [AH]) | ((with_reducible refine Al 36 ?_); (refine' CallP.sf ?_ (hb) ?_); (focus first | (with_reducible exact A0 _) | (simp [AK, AI, A1, A0]; done))) | (with_reducible first | refine A8 ?_ ?_ ?_ | exact AF | refine SameB.upd ?_ ?_ _ | assumption | refine A4 ?_ | refine KM.of ?_ | refine AG ?_ | refine A2 ?_ | refine A5 ?_ | intro _g _hg | refine AE ?_ ?_ | intro _hc) | omega)
  all_goals first | omega | (refine BN ?_; grind)
 ·
  refine A3 Tryz.func70 Ks rfl fun n H hH => ?_
  repeat' (first | (simp -implicitDefEqProofs [D0, D9, DF, D8, D3, D7, DC, D4, D6, c70, -getElem?_pos, AI, AK]) | (simp (disch := omega) only [AH]) | ((with_reducible refine Al 36 ?_); (refine' CallP.sf ?_ (hb) ?_); (focus first | (with_reducible exact A0 _) | (simp [AK, AI, A1, A0]; done))) | (with_reducible first | refine A8 ?_ ?_ ?_ | exact AF | refine SameB.upd ?_ ?_ _ | assumption | refine A4 ?_ | refine KM.of ?_ | refine AG ?_ | refine A2 ?_ | refine A5 ?_ | intro _g _hg | refine AE ?_ ?_ | intro _hc) | omega)
  all_goals first | omega | (refine BN ?_; grind)
theorem T2 (s : St) : Cg s → Gz s → An s ≤ 60 → APure Tryz.prog 70 [encS s] (aI (min (Ah s) 5001 : Nat)) := by
 refine St.ind (Q := fun s => Cg s → Gz s → An s ≤ 60 → APure Tryz.prog 70 [encS s] (aI (min (Ah s) 5001 : Nat))) ?_ s
 intro k o m v p ih hf hok hsz
 obtain ⟨hv, hp, hpp⟩ := hf
 obtain ⟨hn, hop⟩ := hok
 have hN := Bl hn
 simp only [An] at hsz
 have hpl := Bq p
 have hx : ∀ x ∈ p, APure Tryz.prog 70 [encS x] (aI (min (Ah x) 5001 : Nat)) := fun x hx => ih x hx (CT hpp x hx) (Cm hop x hx) (by have := Dn x hx; omega)
 by_cases h1 : k = 1
 ·subst h1
  exact Hd 1 o m v p (.inl rfl) (by rw [Ah]; exact JS o m v p hv)
 by_cases h2 : k = 2
 ·subst h2
  exact Hd 2 o m v p (.inr rfl) (by rw [Ah]; exact KY o m v p (hN.rng rfl) hN.vals)
 by_cases h5 : k = 5 ∨ k = 12
 ·obtain ⟨x, rfl⟩ := List.length_eq_one_iff.1 (hN.one (by omega) (by omega) (by omega) (by omega) (by omega) (by omega))
  refine Oy k o m v x h5 ?_ (hx x (by simp))
  have hm := hN.num (by rcases h5 with rfl | rfl <;> rfl)
  rcases h5 with rfl | rfl <;> simp [Jn, Jq, Cq] at hm <;> omega
 by_cases h15 : k = 15
 ·subst h15
  have h2 := hN.two (.inl rfl)
  match p, h2 with
  | [x, y], _ => exact PO o m v x y (hx x (by simp)) (hx y (by simp))
 exact P3 k o m v p h1 h2 (fun e => h5 (.inl e)) (fun e => h5 (.inr e)) h15 (by omega) hx
theorem Rc {p : List St} {j q : Nat} {x : St} (h : p[j]? = some x) : (E9 (p.drop j) q).2 = (if (DG x q).2 < 0 then (E9 (p.drop (j + 1)) (q + An x)).2 else (DG x q).2) := by
 rw [drop_at h, E9, Jm]
theorem Ru {p : List St} {j : Nat} {x : St} (h : p[j]? = some x) : Bm (p.drop j) = An x + Bm (p.drop (j + 1)) := by
 rw [drop_at h, Bm]
theorem V2 (s : St) : Cg s → Gz s → An s ≤ 60 → ∀ i : Nat, i + An s ≤ 100 → APure Tryz.prog 41 [encS s, aI i] (.tup [aI (DG s i).2, aI (An s : Nat)]) := by
 refine St.ind (Q := fun s => Cg s → Gz s → An s ≤ 60 → ∀ i : Nat, i + An s ≤ 100 → APure Tryz.prog 41 [encS s, aI i] (.tup [aI (DG s i).2, aI (An s : Nat)])) ?_ s
 intro k o m v p ih hf hok hsz i hi
 have hbd := T2 (.mk k o m v p) hf hok hsz
 obtain ⟨hv, hp, hpp⟩ := hf
 obtain ⟨hn, hop⟩ := hok
 simp only [An] at hsz hi
 rw [DG, An]
 generalize Ah (.mk k o m v p) = B at *
 rw [A7] at hbd ⊢
 have hpl := Ao p
 
 refine A3 Tryz.func41 Xe rfl fun n H hH => ?_
 repeat' (first | (simp -implicitDefEqProofs [c41, Ek, Eo, EY, Ey, Ei, Ep, c41, -getElem?_pos]) | (simp (disch := omega) only [AH]) | (with_reducible first | refine A8 ?_ ?_ ?_ | exact AF | refine SameB.upd ?_ ?_ _ | assumption | refine A4 ?_ | refine KM.of ?_ | refine AG ?_ | refine A2 ?_ | refine A5 ?_ | intro _g _hg | refine AE ?_ ?_ | intro _hc) | omega)
 refine LoopK.go (fun r st => ∃ (j c n1 : Nat) (w : Int) (H1 : A6), j + r = p.length ∧ st = ⟨[(1, aI i), (2, .ptr _g 0), (4, aI w), (5, aI c), (11, .sl 5 (AD p) .ro), (12, aI p.length), (13, aI j)], n1, H1⟩ ∧ _g < n1 ∧ 1 ≤ c ∧ c + Bm (p.drop j) = Bm p + 1 ∧ -1 ≤ w ∧ (E9 p (i + 1)).2 = (if w < 0 then (E9 (p.drop j) (i + c)).2 else w) ∧ SameB n H H1 ∧ H1 _g = some (.cells 25 [aI k, aI o, aI m, .sl 1 (v.map aI) .ro, .sl 5 (AD p) .ro])) p.length ?_ ?_
 ·exact ⟨0, 1, _, -1, _, by omega, by rw [hpl]; rfl, by omega, by omega, by simp; omega, by omega, by simp, by intro q hq; simp only [upd]; (repeat' split) <;> first | rfl | omega, by simp (disch := omega) only [upd_ne, Ax]⟩
 rintro r st ⟨j, c, n1, w, H1, hj, rfl, hn1, hc1, hcs, hw, hE, hsame, q1⟩ J hJ
 by_cases hjl : j < p.length
 ·obtain ⟨x, hx'⟩ : ∃ x, p[j]? = some x := ⟨_, List.getElem?_eq_getElem hjl⟩
  have hxm := List.mem_of_getElem? hx'
  have hsm := Dn x hxm
  rw [Ru hx'] at hcs
  have hst := ih x hxm (CT hpp x hxm) (Cm hop x hxm) (by omega) (i + c) (by omega)
  have hxe := CP hx'
  have hxf := BP x
  have hjl' : (j : Int) < p.length := by omega
  have hwx := (IE x (i + c)).1
  rw [Rc hx'] at hE
  rw [show ((i + c : Nat) : Int) = i + c from Int.natCast_add _ _] at hst
  generalize (DG x (i + c)).2 = wx at *
  generalize hsx : An x = sx at *
  obtain ⟨k', o', m', v', p'⟩ := x
  rw [A7] at hst hxe hxf
  generalize AD p = ep at *
  generalize AD p' = ep' at *
  generalize v'.map aI = ev' at *
  by_cases hw0 : w < 0
  ·rw [if_pos hw0] at hE
   
   repeat' (first | (simp -implicitDefEqProofs [Ek, Eo, EY, Ey, Ei, Ep, c41, -getElem?_pos, hjl', hxe, hw0, splice]) | (simp (disch := omega) only [AH]) | ((with_reducible refine Al 41 ?_); (refine' CallP.sf ?_ (hst) ?_); (focus first | (with_reducible exact A0 _) | (simp [AK, AI, A1, A0]; done))) | (with_reducible first | refine A8 ?_ ?_ ?_ | exact AF | refine SameB.upd ?_ ?_ _ | assumption | refine A4 ?_ | refine KM.of ?_ | refine AG ?_ | refine A2 ?_ | refine A5 ?_ | intro _g _hg | refine AE ?_ ?_ | intro _hc) | omega)
   exact hJ (r - 1) _ (by omega) ⟨j + 1, c + sx, _, wx, _, by omega, rfl, by omega, by omega, by omega, hwx, by rw [hE, Nat.add_assoc], by intro q hq; simp only [upd]; (repeat' split) <;> first | (exact hsame q hq) | omega, by simp (disch := omega) only [upd_ne]; exact q1⟩
  ·rw [if_neg hw0] at hE
   
   repeat' (first | (simp -implicitDefEqProofs [Ek, Eo, EY, Ey, Ei, Ep, c41, -getElem?_pos, hjl', hxe, hw0, splice]) | (simp (disch := omega) only [AH]) | ((with_reducible refine Al 41 ?_); (refine' CallP.sf ?_ (hst) ?_); (focus first | (with_reducible exact A0 _) | (simp [AK, AI, A1, A0]; done))) | (with_reducible first | refine A8 ?_ ?_ ?_ | exact AF | refine SameB.upd ?_ ?_ _ | assumption | refine A4 ?_ | refine KM.of ?_ | refine AG ?_ | refine A2 ?_ | refine A5 ?_ | intro _g _hg | refine AE ?_ ?_ | intro _hc) | omega)
   exact hJ (r - 1) _ (by omega) ⟨j + 1, c + sx, _, w, _, by omega, rfl, by omega, by omega, by omega, hw, by rw [hE, if_neg hw0], by intro q hq; simp only [upd]; (repeat' split) <;> first | (exact hsame q hq) | omega, by simp (disch := omega) only [upd_ne]; exact q1⟩
 ·have hjl' : ¬ (j : Int) < p.length := by omega
  rw [List.drop_eq_nil_of_le (by omega), Bm] at hcs
  rw [List.drop_eq_nil_of_le (by omega), E9] at hE
  have hE' : (E9 p (i + 1)).2 = w := by rw [hE]; split <;> omega
  rw [hE']
  by_cases hB : 5000 < B
  ·rw [if_pos hB]
   have hB' : min B 5001 = 5001 := by omega
   rw [hB'] at hbd
   
   repeat' (first | (simp -implicitDefEqProofs [Ek, Eo, EY, Ey, Ei, Ep, c41, -getElem?_pos, hjl', q1, AI, AK]) | (simp (disch := omega) only [AH]) | ((with_reducible refine Al 70 ?_); (refine' CallP.sf ?_ (hbd) ?_); (focus first | (with_reducible exact A0 _) | (simp [AK, AI, A1, A0]; done))) | (with_reducible first | refine A8 ?_ ?_ ?_ | exact AF | refine SameB.upd ?_ ?_ _ | assumption | refine A4 ?_ | refine KM.of ?_ | refine AG ?_ | refine A2 ?_ | refine A5 ?_ | intro _g _hg | refine AE ?_ ?_ | intro _hc) | omega)
   all_goals first | omega | exact hsame | (refine BN ?_; grind)
  ·rw [if_neg hB]
   have hB' : min B 5001 = B := by omega
   have hB2 : ¬ (5000 : Int) < B := by omega
   rw [hB'] at hbd
   
   repeat' (first | (simp -implicitDefEqProofs [Ek, Eo, EY, Ey, Ei, Ep, c41, -getElem?_pos, hjl', q1, hB2, AI, AK]) | (simp (disch := omega) only [AH]) | ((with_reducible refine Al 70 ?_); (refine' CallP.sf ?_ (hbd) ?_); (focus first | (with_reducible exact A0 _) | (simp [AK, AI, A1, A0]; done))) | (with_reducible first | refine A8 ?_ ?_ ?_ | exact AF | refine SameB.upd ?_ ?_ _ | assumption | refine A4 ?_ | refine KM.of ?_ | refine AG ?_ | refine A2 ?_ | refine A5 ?_ | intro _g _hg | refine AE ?_ ?_ | intro _hc) | omega)
   all_goals first | omega | exact hsame | (refine BN ?_; grind)
theorem Qe (s : St) (hf : Cg s) : APure Tryz.prog 15 [encS s] (aF (GT s)) := by
 have hvis := V0 s hf 0 (by omega)
 have hlg : (DH s 0).2 = 0 → APure Tryz.prog 41 [encS s, aI 0] (.tup [aI (DG s 0).2, aI (An s : Nat)]) := fun h => by
  obtain ⟨h1, h2, h3⟩ := ID s 0 h
  exact V2 s hf h1 (by omega) 0 (by omega)
 have hw := (IE s 0).1
 unfold GT
 unfold Li at hvis
 unfold MG LP at hvis
 generalize DH s 0 = sg at *
 generalize DG s 0 = wd at *
 generalize An s = sz at *
 obtain ⟨k, o, m, v, p⟩ := s
 rw [A7] at *
 generalize v.map aI = va at *
 generalize AD p = ep at *
 
 refine A3 Tryz.func15 Xf rfl fun n H hH => ?_
 by_cases h0 : sg.2 = 0
 ·have hlg := hlg h0
  rw [if_neg (by simpa using h0)] at *
  rw [if_neg (by simpa using h0)] at hvis
  repeat' (first | (simp -implicitDefEqProofs [Ku, Ki, c15, -getElem?_pos, splice, AI, AK]) | (simp (disch := omega) only [AH]) | ((with_reducible refine ER 39 ?_); refine ⟨_, Ov _ _, ?_⟩; rintro r n' H' hle hsup ⟨gm, rfl, hg1, rfl, rfl⟩; dsimp only at hg1 hle) | ((with_reducible refine ER 40 ?_); (refine' CallK.sfU ?_ ((hvis _g gm _ _ (by simp (disch := omega) only [upd_ne, Ax] <;> rfl) (by simp (disch := omega) only [upd_ne, Ax] <;> rfl))) ?_); (focus first | (with_reducible exact A0 _) | (simp [AK, AI, A1, A0]; done))) | ((with_reducible refine Al 41 ?_); (refine' CallP.sf ?_ (hlg) ?_); (focus first | (with_reducible exact A0 _) | (simp [AK, AI, A1, A0]; done))) | (with_reducible first | refine A8 ?_ ?_ ?_ | exact AF | refine SameB.upd ?_ ?_ _ | assumption | refine A4 ?_ | refine KM.of ?_ | refine AG ?_ | refine A2 ?_ | refine A5 ?_ | intro _g _hg | refine AE ?_ ?_ | intro _hc) | omega)
 ·rw [if_pos h0] at *
  rw [if_pos h0] at hvis
  repeat' (first | (simp -implicitDefEqProofs [Ku, Ki, c15, -getElem?_pos, h0, splice, AI, AK]) | (simp (disch := omega) only [AH]) | ((with_reducible refine ER 39 ?_); refine ⟨_, Ov _ _, ?_⟩; rintro r n' H' hle hsup ⟨gm, rfl, hg1, rfl, rfl⟩; dsimp only at hg1 hle) | ((with_reducible refine ER 40 ?_); (refine' CallK.sfU ?_ ((hvis _g gm _ _ (by simp (disch := omega) only [upd_ne, Ax] <;> rfl) (by simp (disch := omega) only [upd_ne, Ax] <;> rfl))) ?_); (focus first | (with_reducible exact A0 _) | (simp [AK, AI, A1, A0]; done))) | (with_reducible first | refine A8 ?_ ?_ ?_ | exact AF | refine SameB.upd ?_ ?_ _ | assumption | refine A4 ?_ | refine KM.of ?_ | refine AG ?_ | refine A2 ?_ | refine A5 ?_ | intro _g _hg | refine AE ?_ ?_ | intro _hc) | omega)
theorem Sv (k o m : Int) (v : List Int) (x : St) (hk : k = 5 ∨ k = 12) (hm : 0 ≤ m ∧ m ≤ 5000) (hb : Ah x ≤ 5000) (hx : APure Tryz.prog 36 [encS x] (aI (Ah x : Nat))) : APure Tryz.prog 36 [encS (.mk k o m v [x])] (aI (Ah (.mk k o m v [x]) : Nat)) := by
 have hxf := BP x
 have hbb : Ah (.mk k o m v [x]) = C2 k m v [Ah x] := by rw [Ah]; rfl
 rw [hbb]
 generalize Ah x = b at *
 obtain ⟨m', rfl⟩ : ∃ m' : Nat, m = m' := ⟨m.toNat, by omega⟩
 rw [A7, AD, AD]
 generalize encS x = ex at *
 rcases hk with rfl | rfl
 ·have hz : C2 5 m' v [b] = min m' b := by simp [C2]
  rw [hz]
  
  refine A3 Tryz.func36 KQ rfl fun n H hH => ?_
  repeat' (first | (simp -implicitDefEqProofs [Cx, Cz, Cy, DA, D1, D5, DD, Cu, DE, c36, -getElem?_pos, hxf, -AV.fits, AI, AK]) | (simp (disch := omega) only [AH]) | ((with_reducible refine Al 36 ?_); (refine' CallP.sf ?_ (hx) ?_); (focus first | (with_reducible exact A0 _) | (simp [AK, AI, A1, A0]; done))) | (with_reducible first | refine A8 ?_ ?_ ?_ | exact AF | refine SameB.upd ?_ ?_ _ | assumption | refine A4 ?_ | refine KM.of ?_ | refine AG ?_ | refine A2 ?_ | refine A5 ?_ | intro _g _hg | refine AE ?_ ?_ | intro _hc) | omega)
  all_goals first | omega | (refine BN ?_; grind)
 ·have hz : C2 12 m' v [b] = m' * b := by simp [C2]
  rw [hz]
  have hmb : m' * b ≤ 5000 * 5001 := Nat.mul_le_mul (by omega) (by omega)
  have hmc : ((m' * b : Nat) : Int) = (m' : Int) * b := Int.natCast_mul _ _
  have hw : IntKind.i64.wrap ((m' : Int) * b) = ((m' * b : Nat) : Int) := by rw [← hmc, IntWalk.i64_in _ (by omega)]
  
  refine A3 Tryz.func36 KQ rfl fun n H hH => ?_
  repeat' (first | (simp -implicitDefEqProofs [Cx, Cz, Cy, DA, D1, D5, DD, Cu, DE, c36, -getElem?_pos, hxf, hw, -AV.fits, AI, AK]) | (simp (disch := omega) only [AH]) | ((with_reducible refine Al 36 ?_); (refine' CallP.sf ?_ (hx) ?_); (focus first | (with_reducible exact A0 _) | (simp [AK, AI, A1, A0]; done))) | (with_reducible first | refine A8 ?_ ?_ ?_ | exact AF | refine SameB.upd ?_ ?_ _ | assumption | refine A4 ?_ | refine KM.of ?_ | refine AG ?_ | refine A2 ?_ | refine A5 ?_ | intro _g _hg | refine AE ?_ ?_ | intro _hc) | omega)
  all_goals first | omega | (refine BN ?_; grind)
theorem SZ (o m : Int) (v : List Int) (x y : St) (hx : APure Tryz.prog 36 [encS x] (aI (Ah x : Nat))) (hy : APure Tryz.prog 36 [encS y] (aI (Ah y : Nat))) : APure Tryz.prog 36 [encS (.mk 15 o m v [x, y])] (aI (Ah (.mk 15 o m v [x, y]) : Nat)) := by
 have hxf := BP x
 have hyf := BP y
 have hbb : Ah (.mk 15 o m v [x, y]) = min (Ah x) (Ah y) := by simp [Ah, CR, C2]
 rw [hbb]
 generalize Ah x = b at *
 generalize Ah y = c at *
 rw [A7, AD, AD, AD]
 generalize encS x = ex at *
 generalize encS y = ey at *
 
 refine A3 Tryz.func36 KQ rfl fun n H hH => ?_
 repeat' (first | (simp -implicitDefEqProofs [Cx, Cz, Cy, DA, D1, D5, DD, Cu, DE, c36, -getElem?_pos, hxf, hyf, -AV.fits, AI, AK]) | (simp (disch := omega) only [AH]) | ((with_reducible refine Al 36 ?_); (refine' CallP.sf ?_ (hx) ?_); (focus first | (with_reducible exact A0 _) | (simp [AK, AI, A1, A0]; done))) | ((with_reducible refine Al 36 ?_); (refine' CallP.sf ?_ (hy) ?_); (focus first | (with_reducible exact A0 _) | (simp [AK, AI, A1, A0]; done))) | (with_reducible first | refine A8 ?_ ?_ ?_ | exact AF | refine SameB.upd ?_ ?_ _ | assumption | refine A4 ?_ | refine KM.of ?_ | refine AG ?_ | refine A2 ?_ | refine A5 ?_ | intro _g _hg | refine AE ?_ ?_ | intro _hc) | omega)
 all_goals first | omega | (refine BN ?_; grind)
theorem SC (k o m : Int) (v : List Int) (p : List St) (h1 : k ≠ 1) (h2 : k ≠ 2) (h5 : k ≠ 5) (h12 : k ≠ 12) (h15 : k ≠ 15) (hp : p.length ≤ 60) (hbs : ∀ x ∈ p, Ah x ≤ 5000) (hx : ∀ x ∈ p, APure Tryz.prog 36 [encS x] (aI (Ah x : Nat))) : APure Tryz.prog 36 [encS (.mk k o m v p)] (aI (Ah (.mk k o m v p) : Nat)) := by
 have hb : Ah (.mk k o m v p) = (p.map Ah).sum := by
  rw [Ah, E4]
  simp [C2, h1, h2, h5, h12, h15]
 have hcl : ∀ i, ((p.map Ah).take i).sum ≤ 300000 := by
  intro i
  have g : ∀ l : List Nat, (∀ x ∈ l, x ≤ 5000) → l.sum ≤ l.length * 5000 := by
   intro l hl
   induction l with
   | nil => simp
   | cons a r ih =>
    have h1 := hl a (by simp)
    have h2 := ih fun x hx => hl x (by simp [hx])
    simp only [List.sum_cons, List.length_cons, Nat.succ_mul]
    omega
  have h1 := g ((p.map Ah).take i) (by
   intro x hx
   obtain ⟨s, hs, rfl⟩ := List.mem_map.1 (List.mem_of_mem_take hx)
   exact hbs s hs)
  have h2 : ((p.map Ah).take i).length ≤ 60 := by simp; omega
  omega
 have hpl := Ao p
 rw [hb]
 rw [A7]
 
 refine A3 Tryz.func36 KQ rfl fun n H hH => ?_
 repeat' (first | (simp -implicitDefEqProofs [c36, Cx, Cz, Cy, DA, D1, D5, DD, Cu, DE, c36, -getElem?_pos, h1, h2, h5, h12, h15]) | (simp (disch := omega) only [AH]) | (with_reducible first | refine A8 ?_ ?_ ?_ | exact AF | refine SameB.upd ?_ ?_ _ | assumption | refine A4 ?_ | refine KM.of ?_ | refine AG ?_ | refine A2 ?_ | refine A5 ?_ | intro _g _hg | refine AE ?_ ?_ | intro _hc) | omega)
 refine LoopK.go (fun r st => ∃ (j n1 : Nat) (H1 : A6), j + r = p.length ∧ st = ⟨[(3, aI (((p.map Ah).take j).sum : Nat)), (70, .sl 5 (AD p) .ro), (71, aI p.length), (72, aI j)], n1, H1⟩ ∧ n ≤ n1 ∧ SameB n H H1) p.length ⟨0, _, _, by omega, by simp [hpl]; exact ⟨rfl, rfl⟩, by omega, by intro q hq; simp only [upd]; (repeat' split) <;> first | rfl | omega⟩ ?_
 rintro r st ⟨j, n1, H1, hj, rfl, hn1, hsame⟩ J hJ
 by_cases hjl : j < p.length
 ·obtain ⟨x, hx'⟩ : ∃ x, p[j]? = some x := ⟨_, List.getElem?_eq_getElem hjl⟩
  have hb := hx x (List.mem_of_getElem? hx')
  have hbx := hbs x (List.mem_of_getElem? hx')
  have hxe := CP hx'
  have hxf := BP x
  have hjl' : (j : Int) < p.length := by omega
  have hs := JC (l := p.map Ah) (i := j) (x := Ah x) (by rw [List.getElem?_map, hx']; rfl)
  have hc1 := hcl j
  generalize ((p.map Ah).take j).sum = a at *
  generalize Ah x = b at *
  obtain ⟨k', o', m', v', p'⟩ := x
  rw [A7] at hb hxe hxf
  generalize AD p = ep at *
  generalize AD p' = ep' at *
  generalize v'.map aI = ev' at *
  
  repeat' (first | (simp -implicitDefEqProofs [Cx, Cz, Cy, DA, D1, D5, DD, Cu, DE, c36, -getElem?_pos, hjl', hxe, splice]) | (simp (disch := omega) only [AH]) | ((with_reducible refine Al 36 ?_); (refine' CallP.sf ?_ (hb) ?_); (focus first | (with_reducible exact A0 _) | (simp [AK, AI, A1, A0]; done))) | (with_reducible first | refine A8 ?_ ?_ ?_ | exact AF | refine SameB.upd ?_ ?_ _ | assumption | refine A4 ?_ | refine KM.of ?_ | refine AG ?_ | refine A2 ?_ | refine A5 ?_ | intro _g _hg | refine AE ?_ ?_ | intro _hc) | omega)
  exact hJ (r - 1) _ (by omega) ⟨j + 1, _, _, by omega, by rw [hs]; rfl, by omega, by intro q hq; simp only [upd]; (repeat' split) <;> first | (exact hsame q hq) | omega⟩
 ·have hjl' : ¬ (j : Int) < p.length := by omega
  have e : (p.map Ah).take j = p.map Ah := List.take_of_length_le (by simp; omega)
  rw [e]
  generalize (p.map Ah).sum = a at *
  
  repeat' (first | (simp -implicitDefEqProofs [Cx, Cz, Cy, DA, D1, D5, DD, Cu, DE, c36, -getElem?_pos, hjl', AI, AK]) | (simp (disch := omega) only [AH]) | (with_reducible first | refine A8 ?_ ?_ ?_ | exact AF | refine SameB.upd ?_ ?_ _ | assumption | refine A4 ?_ | refine KM.of ?_ | refine AG ?_ | refine A2 ?_ | refine A5 ?_ | intro _g _hg | refine AE ?_ ?_ | intro _hc) | omega)
  all_goals first | omega | exact hsame | (refine BN ?_; grind)
theorem Uy (s : St) : Cg s → Gz s → KR s → An s ≤ 60 → APure Tryz.prog 36 [encS s] (aI (Ah s : Nat)) := by
 refine St.ind (Q := fun s => Cg s → Gz s → KR s → An s ≤ 60 → APure Tryz.prog 36 [encS s] (aI (Ah s : Nat))) ?_ s
 intro k o m v p ih hf hok hsm hsz
 obtain ⟨hv, hp, hpp⟩ := hf
 obtain ⟨hn, hop⟩ := hok
 have hN := Bl hn
 simp only [An] at hsz
 have hpl := Bq p
 have hbs : ∀ x ∈ p, Ah x ≤ 5000 := fun x hx => by have := GB hsm.2 x hx; cases x; exact this.1
 have hx : ∀ x ∈ p, APure Tryz.prog 36 [encS x] (aI (Ah x : Nat)) := fun x hx => ih x hx (CT hpp x hx) (Cm hop x hx) (GB hsm.2 x hx) (by have := Dn x hx; omega)
 by_cases h1 : k = 1
 ·subst h1
  rw [Ah]; exact JS o m v p hv
 by_cases h2 : k = 2
 ·subst h2
  rw [Ah]; exact KY o m v p (hN.rng rfl) hN.vals
 by_cases h5 : k = 5 ∨ k = 12
 ·obtain ⟨x, rfl⟩ := List.length_eq_one_iff.1 (hN.one (by omega) (by omega) (by omega) (by omega) (by omega) (by omega))
  refine Sv k o m v x h5 ?_ (hbs x (by simp)) (hx x (by simp))
  have hm := hN.num (by rcases h5 with rfl | rfl <;> rfl)
  rcases h5 with rfl | rfl <;> simp [Jn, Jq, Cq] at hm <;> omega
 by_cases h15 : k = 15
 ·subst h15
  have h2 := hN.two (.inl rfl)
  match p, h2 with
  | [x, y], _ => exact SZ o m v x y (hx x (by simp)) (hx y (by simp))
 exact SC k o m v p h1 h2 (fun e => h5 (.inl e)) (fun e => h5 (.inr e)) h15 (by omega) hbs hx
abbrev Dr (s : St) : Prop := APure Tryz.prog 17 [encS s] (aI (min (Ah s) 100000 : Nat))
theorem Sy (o m : Int) (v : List Int) (p : List St) (hv : v.length ≤ 140737488355328) : Dr (.mk 1 o m v p) := by
 unfold Dr
 have hb : Ah (.mk 1 o m v p) = v.length := by simp [Ah, C2]
 rw [hb]
 have hvl : (v.map aI).length = v.length := by simp
 rw [A7]
 generalize v.map aI = va at *
 by_cases h : 100000 < v.length
 ·have h' : (100000 : Int) < v.length := by omega
  have e : min v.length 100000 = 100000 := by omega
  rw [e]
  
  refine A3 Tryz.func17 KO rfl fun n H hH => ?_
  repeat' (first | (simp -implicitDefEqProofs [Bc, BW, Ba, Bf, BV, BX, BT, Bg, Bb, BB, B9, BA, BC, BD, B8, c17, -getElem?_pos, hvl, h, h', AI, AK]) | (simp (disch := omega) only [AH]) | (with_reducible first | refine A8 ?_ ?_ ?_ | exact AF | refine SameB.upd ?_ ?_ _ | assumption | refine A4 ?_ | refine KM.of ?_ | refine AG ?_ | refine A2 ?_ | refine A5 ?_ | intro _g _hg | refine AE ?_ ?_ | intro _hc) | omega)
 ·have h' : ¬ (100000 : Int) < v.length := by omega
  have e : min v.length 100000 = v.length := by omega
  rw [e]
  
  refine A3 Tryz.func17 KO rfl fun n H hH => ?_
  repeat' (first | (simp -implicitDefEqProofs [Bc, BW, Ba, Bf, BV, BX, BT, Bg, Bb, BB, B9, BA, BC, BD, B8, c17, -getElem?_pos, hvl, h, h', AI, AK]) | (simp (disch := omega) only [AH]) | (with_reducible first | refine A8 ?_ ?_ ?_ | exact AF | refine SameB.upd ?_ ?_ _ | assumption | refine A4 ?_ | refine KM.of ?_ | refine AG ?_ | refine A2 ?_ | refine A5 ?_ | intro _g _hg | refine AE ?_ ?_ | intro _hc) | omega)
theorem U8 (o m a b c : Int) (p : List St) (hv : 0 ≤ a ∧ a ≤ 9999 ∧ 0 ≤ b ∧ b ≤ 10000 ∧ 1 ≤ c ∧ c ≤ 9999) : Dr (.mk 2 o m [a, b, c] p) := by
 unfold Dr
 have hb : Ah (.mk 2 o m [a, b, c] p) = Gj [a, b, c] := by simp [Ah, C2]
 have hbd := WA hv
 rw [hb]
 have e : min (Gj [a, b, c]) 100000 = Gj [a, b, c] := by omega
 rw [e]
 rw [A7]
 generalize AD p = ep
 
 refine A3 Tryz.func17 KO rfl fun n H hH => ?_
 repeat' (first | (simp -implicitDefEqProofs [c17, Bc, BW, Ba, Bf, BV, BX, BT, Bg, Bb, BB, B9, BA, BC, BD, B8, c17, -getElem?_pos]) | (simp (disch := omega) only [AH]) | (with_reducible first | refine A8 ?_ ?_ ?_ | exact AF | refine SameB.upd ?_ ?_ _ | assumption | refine A4 ?_ | refine KM.of ?_ | refine AG ?_ | refine A2 ?_ | refine A5 ?_ | intro _g _hg | refine AE ?_ ?_ | intro _hc) | omega)
 refine LoopK.go (fun r st => ∃ (j n1 : Nat) (H1 : A6), j + r = Gj [a, b, c] ∧ st = ⟨[(1, .ptr _g 0), (3, aI j), (4, aI (a + (j : Int) * c))], n1, H1⟩ ∧ _g < n1 ∧ SameB n H H1 ∧ H1 _g = some (Rs 2 o m (.sl 1 [aI a, aI b, aI c] .ro) (.sl 5 ep .ro))) (Gj [a, b, c]) ⟨0, _, _, by omega, by simp; exact ⟨rfl, rfl⟩, by omega, by intro q hq; simp only [upd]; (repeat' split) <;> first | rfl | omega, Ax _ _ _⟩ ?_
 rintro r st ⟨j, n1, H1, hj, rfl, hn1, hsame, q1⟩ J hJ
 by_cases hjl : j < Gj [a, b, c]
 ·have hlt := (Tt (a := a) (b := b) hv.2.2.2.2.1 j).2 hjl
  have hw : IntKind.i64.wrap (a + (j : Int) * c + c) = a + ((j + 1 : Nat) : Int) * c := by
   have h0 : 0 ≤ (j : Int) * c := Int.mul_nonneg (by omega) (by omega)
   have e : ((j + 1 : Nat) : Int) * c = (j : Int) * c + c := by rw [Int.natCast_add, Int.add_mul]; simp
   rw [IntWalk.i64_in _ (by omega), e]; omega
  have hw2 : IntKind.i64.wrap ((j : Int) + 1) = ((j + 1 : Nat) : Int) := by rw [IntWalk.i64_in _ (by omega)]; omega
  generalize hx1 : a + ((j + 1 : Nat) : Int) * c = x1 at *
  generalize a + (j : Int) * c = x at *
  generalize hj1 : ((j + 1 : Nat) : Int) = j1 at *
  
  repeat' (first | (simp -implicitDefEqProofs [Bc, BW, Ba, Bf, BV, BX, BT, Bg, Bb, BB, B9, BA, BC, BD, B8, c17, -getElem?_pos, q1, hlt, hw, hw2, splice]) | (simp (disch := omega) only [AH]) | (with_reducible first | refine A8 ?_ ?_ ?_ | exact AF | refine SameB.upd ?_ ?_ _ | assumption | refine A4 ?_ | refine KM.of ?_ | refine AG ?_ | refine A2 ?_ | refine A5 ?_ | intro _g _hg | refine AE ?_ ?_ | intro _hc) | omega)
  exact hJ (r - 1) _ (by omega) ⟨j + 1, _, _, by omega, by rw [hj1, hx1], hn1, hsame, q1⟩
 ·have hlt : ¬ a + (j : Int) * c < b := fun h => hjl ((Tt hv.2.2.2.2.1 j).1 h)
  have ej : j = Gj [a, b, c] := by omega
  have hfar : ¬ (100000 : Int) < j := by omega
  rw [← ej]
  generalize a + (j : Int) * c = x at *
  
  repeat' (first | (simp -implicitDefEqProofs [Bc, BW, Ba, Bf, BV, BX, BT, Bg, Bb, BB, B9, BA, BC, BD, B8, c17, -getElem?_pos, q1, hlt, hfar, AI, AK]) | (simp (disch := omega) only [AH]) | (with_reducible first | refine A8 ?_ ?_ ?_ | exact AF | refine SameB.upd ?_ ?_ _ | assumption | refine A4 ?_ | refine KM.of ?_ | refine AG ?_ | refine A2 ?_ | refine A5 ?_ | intro _g _hg | refine AE ?_ ?_ | intro _hc) | omega)
  all_goals first | exact hsame | omega
theorem TQ (o m : Int) (v : List Int) (x y : St) (hx : Dr x) (hy : Dr y) : Dr (.mk 15 o m v [x, y]) := by
 unfold Dr at *
 have hxf := BP x
 have hyf := BP y
 have hb : min (Ah (.mk 15 o m v [x, y])) 100000 = min (min (Ah x) 100000) (min (Ah y) 100000) := by
  simp [Ah, CR, C2]; omega
 rw [hb]
 obtain ⟨b, hb'⟩ : ∃ b, min (Ah x) 100000 = b := ⟨_, rfl⟩
 obtain ⟨c, hc'⟩ : ∃ c, min (Ah y) 100000 = c := ⟨_, rfl⟩
 have hb5 : b ≤ 100000 := by omega
 have hc5 : c ≤ 100000 := by omega
 rw [hb'] at hx ⊢
 rw [hc'] at hy ⊢
 rw [A7, AD, AD, AD]
 generalize encS x = ex at *
 generalize encS y = ey at *
 by_cases h : c < b
 ·have h' : (c : Int) < b := by omega
  have e : min b c = c := by omega
  have hf : ¬ (100000 : Int) < c := by omega
  rw [e]
  
  refine A3 Tryz.func17 KO rfl fun n H hH => ?_
  repeat' (first | (simp -implicitDefEqProofs [Bc, BW, Ba, Bf, BV, BX, BT, Bg, Bb, BB, B9, BA, BC, BD, B8, c17, -getElem?_pos, hxf, hyf, h, h', hf, -AV.fits, AI, AK]) | (simp (disch := omega) only [AH]) | ((with_reducible refine Al 17 ?_); (refine' CallP.sf ?_ (hx) ?_); (focus first | (with_reducible exact A0 _) | (simp [AK, AI, A1, A0]; done))) | ((with_reducible refine Al 17 ?_); (refine' CallP.sf ?_ (hy) ?_); (focus first | (with_reducible exact A0 _) | (simp [AK, AI, A1, A0]; done))) | (with_reducible first | refine A8 ?_ ?_ ?_ | exact AF | refine SameB.upd ?_ ?_ _ | assumption | refine A4 ?_ | refine KM.of ?_ | refine AG ?_ | refine A2 ?_ | refine A5 ?_ | intro _g _hg | refine AE ?_ ?_ | intro _hc) | omega)
  all_goals omega
 ·have h' : ¬ (c : Int) < b := by omega
  have e : min b c = b := by omega
  have hf : ¬ (100000 : Int) < b := by omega
  rw [e]
  
  refine A3 Tryz.func17 KO rfl fun n H hH => ?_
  repeat' (first | (simp -implicitDefEqProofs [Bc, BW, Ba, Bf, BV, BX, BT, Bg, Bb, BB, B9, BA, BC, BD, B8, c17, -getElem?_pos, hxf, hyf, h, h', hf, -AV.fits, AI, AK]) | (simp (disch := omega) only [AH]) | ((with_reducible refine Al 17 ?_); (refine' CallP.sf ?_ (hx) ?_); (focus first | (with_reducible exact A0 _) | (simp [AK, AI, A1, A0]; done))) | ((with_reducible refine Al 17 ?_); (refine' CallP.sf ?_ (hy) ?_); (focus first | (with_reducible exact A0 _) | (simp [AK, AI, A1, A0]; done))) | (with_reducible first | refine A8 ?_ ?_ ?_ | exact AF | refine SameB.upd ?_ ?_ _ | assumption | refine A4 ?_ | refine KM.of ?_ | refine AG ?_ | refine A2 ?_ | refine A5 ?_ | intro _g _hg | refine AE ?_ ?_ | intro _hc) | omega)
  all_goals omega
theorem VJ {k o m : Int} {v : List Int} {p : List St} (h1 : k ≠ 1) (h2 : k ≠ 2) (h15 : k ≠ 15) (hl : k = 5 ∨ k = 12 → p.length = 1) : min (Ah (.mk k o m v p)) 100000 = min (if k = 12 then m.toNat * (p.map fun s => min (Ah s) 100000).sum else if k = 5 then min m.toNat (p.map fun s => min (Ah s) 100000).sum else (p.map fun s => min (Ah s) 100000).sum) 100000 := by
 rw [Ah, JE, E4, List.map_map]
 have e : ((min · 100000) ∘ Ah : St → Nat) = fun s => min (Ah s) 100000 := rfl
 rw [e]
 by_cases h12 : k = 12
 ·subst h12
  obtain ⟨x, rfl⟩ := List.length_eq_one_iff.1 (hl (.inr rfl))
  simp [C2]
 ·by_cases h5 : k = 5
  ·subst h5
   obtain ⟨x, rfl⟩ := List.length_eq_one_iff.1 (hl (.inl rfl))
   simp [C2]
  ·simp [C2, h1, h2, h5, h12, h15]
theorem UH (k o m : Int) (v : List Int) (p : List St) (h1 : k ≠ 1) (h2 : k ≠ 2) (h15 : k ≠ 15) (hl : k = 5 ∨ k = 12 → p.length = 1) (hm : k = 5 ∨ k = 12 → 0 ≤ m ∧ m ≤ 5000) (hm12 : k = 12 → m ≤ 20) (hp : p.length ≤ 60) (hx : ∀ x ∈ p, Dr x) : Dr (.mk k o m v p) := by
 unfold Dr at *
 rw [VJ h1 h2 h15 hl]
 have hcl := Rh 100000 p hp
 have hpl := Ao p
 rw [A7]
 
 refine A3 Tryz.func17 KO rfl fun n H hH => ?_
 repeat' (first | (simp -implicitDefEqProofs [c17, Bc, BW, Ba, Bf, BV, BX, BT, Bg, Bb, BB, B9, BA, BC, BD, B8, c17, -getElem?_pos, h1, h2, h15]) | (simp (disch := omega) only [AH]) | (with_reducible first | refine A8 ?_ ?_ ?_ | exact AF | refine SameB.upd ?_ ?_ _ | assumption | refine A4 ?_ | refine KM.of ?_ | refine AG ?_ | refine A2 ?_ | refine A5 ?_ | intro _g _hg | refine AE ?_ ?_ | intro _hc) | omega)
 refine LoopK.go (fun r st => ∃ (j n1 : Nat) (H1 : A6), j + r = p.length ∧ st = ⟨[(1, .ptr _g 0), (3, aI (((p.map fun s => min (Ah s) 100000).take j).sum : Nat)), (6, aI j)], n1, H1⟩ ∧ _g < n1 ∧ SameB n H H1 ∧ H1 _g = some (Rs k o m (.sl 1 (v.map aI) .ro) (.sl 5 (AD p) .ro))) p.length ⟨0, _, _, by omega, by simp; exact ⟨rfl, rfl⟩, by omega, by intro q hq; simp only [upd]; (repeat' split) <;> first | rfl | omega, Ax _ _ _⟩ ?_
 rintro r st ⟨j, n1, H1, hj, rfl, hn1, hsame, q1⟩ J hJ
 by_cases hjl : j < p.length
 ·obtain ⟨x, hx'⟩ : ∃ x, p[j]? = some x := ⟨_, List.getElem?_eq_getElem hjl⟩
  have hb := hx x (List.mem_of_getElem? hx')
  have hxe := CP hx'
  have hxf := BP x
  have hjl' : (j : Int) < p.length := by omega
  have hs := JC (l := p.map fun s => min (Ah s) 100000) (i := j) (x := min (Ah x) 100000) (by rw [List.getElem?_map, hx']; rfl)
  have hc1 := hcl j
  generalize ((p.map fun s => min (Ah s) 100000).take j).sum = a at *
  obtain ⟨b, hb'⟩ : ∃ b, min (Ah x) 100000 = b := ⟨_, rfl⟩
  have hb5 : b ≤ 100000 := by omega
  rw [hb'] at hb hs
  obtain ⟨k', o', m', v', p'⟩ := x
  rw [A7] at hb hxe hxf
  generalize AD p = ep at *
  generalize AD p' = ep' at *
  generalize v'.map aI = ev' at *
  
  repeat' (first | (simp -implicitDefEqProofs [Bc, BW, Ba, Bf, BV, BX, BT, Bg, Bb, BB, B9, BA, BC, BD, B8, c17, -getElem?_pos, q1, hpl, hjl', hxe, splice]) | (simp (disch := omega) only [AH]) | ((with_reducible refine Al 17 ?_); (refine' CallP.sf ?_ (hb) ?_); (focus first | (with_reducible exact A0 _) | (simp [AK, AI, A1, A0]; done))) | (with_reducible first | refine A8 ?_ ?_ ?_ | exact AF | refine SameB.upd ?_ ?_ _ | assumption | refine A4 ?_ | refine KM.of ?_ | refine AG ?_ | refine A2 ?_ | refine A5 ?_ | intro _g _hg | refine AE ?_ ?_ | intro _hc) | omega)
  exact hJ (r - 1) _ (by omega) ⟨j + 1, _, _, by omega, by rw [hs]; rfl, hn1, hsame, q1⟩
 ·have hjl' : ¬ (j : Int) < p.length := by omega
  have hc1 := hcl j
  have e : (p.map fun s => min (Ah s) 100000).take j = p.map fun s => min (Ah s) 100000 := List.take_of_length_le (by simp; omega)
  rw [e] at hc1 ⊢
  generalize (p.map fun s => min (Ah s) 100000).sum = a at *
  generalize AD p = ep at *
  by_cases h12 : k = 12
  ·subst h12
   have hm0 := hm (.inr rfl)
   have hm20 := hm12 rfl
   obtain ⟨m', rfl⟩ : ∃ m' : Nat, m = m' := ⟨m.toNat, by omega⟩
   have hma : m' * a ≤ 20 * (60 * 100000) := Nat.mul_le_mul (by omega) hc1
   have hmc : (a : Int) * (m' : Int) = ((m' * a : Nat) : Int) := by rw [Int.natCast_mul, Int.mul_comm]
   have hw : IntKind.i64.wrap ((a : Int) * (m' : Int)) = ((m' * a : Nat) : Int) := by rw [hmc, IntWalk.i64_in _ (by omega)]
   rw [if_pos rfl, Int.toNat_natCast]
   generalize m' * a = z at *
   by_cases hf : 100000 < z
   ·have hf' : (100000 : Int) < z := by omega
    have ez : min z 100000 = 100000 := by omega
    rw [ez]
    
    repeat' (first | (simp -implicitDefEqProofs [Bc, BW, Ba, Bf, BV, BX, BT, Bg, Bb, BB, B9, BA, BC, BD, B8, c17, -getElem?_pos, q1, hpl, hjl', hw, hf, hf', AI, AK]) | (simp (disch := omega) only [AH]) | (with_reducible first | refine A8 ?_ ?_ ?_ | exact AF | refine SameB.upd ?_ ?_ _ | assumption | refine A4 ?_ | refine KM.of ?_ | refine AG ?_ | refine A2 ?_ | refine A5 ?_ | intro _g _hg | refine AE ?_ ?_ | intro _hc) | omega)
    all_goals first | omega | exact hsame | (refine BN ?_; grind)
   ·have hf' : ¬ (100000 : Int) < z := by omega
    have ez : min z 100000 = z := by omega
    rw [ez]
    
    repeat' (first | (simp -implicitDefEqProofs [Bc, BW, Ba, Bf, BV, BX, BT, Bg, Bb, BB, B9, BA, BC, BD, B8, c17, -getElem?_pos, q1, hpl, hjl', hw, hf, hf', AI, AK]) | (simp (disch := omega) only [AH]) | (with_reducible first | refine A8 ?_ ?_ ?_ | exact AF | refine SameB.upd ?_ ?_ _ | assumption | refine A4 ?_ | refine KM.of ?_ | refine AG ?_ | refine A2 ?_ | refine A5 ?_ | intro _g _hg | refine AE ?_ ?_ | intro _hc) | omega)
    all_goals first | omega | exact hsame | (refine BN ?_; grind)
  ·rw [if_neg h12]
   by_cases h5 : k = 5
   ·subst h5
    have hm0 := hm (.inl rfl)
    obtain ⟨m', rfl⟩ : ∃ m' : Nat, m = m' := ⟨m.toNat, by omega⟩
    rw [if_pos rfl, Int.toNat_natCast]
    by_cases hf : m' < a
    ·have hf' : (m' : Int) < a := by omega
     have hf2 : ¬ (100000 : Int) < m' := by omega
     have ez : min (min m' a) 100000 = m' := by omega
     rw [ez]
     
     repeat' (first | (simp -implicitDefEqProofs [Bc, BW, Ba, Bf, BV, BX, BT, Bg, Bb, BB, B9, BA, BC, BD, B8, c17, -getElem?_pos, q1, hpl, hjl', hf, hf', hf2, AI, AK]) | (simp (disch := omega) only [AH]) | (with_reducible first | refine A8 ?_ ?_ ?_ | exact AF | refine SameB.upd ?_ ?_ _ | assumption | refine A4 ?_ | refine KM.of ?_ | refine AG ?_ | refine A2 ?_ | refine A5 ?_ | intro _g _hg | refine AE ?_ ?_ | intro _hc) | omega)
     all_goals first | omega | exact hsame | (refine BN ?_; grind)
    ·have hf' : ¬ (m' : Int) < a := by omega
     have hf2 : ¬ (100000 : Int) < a := by omega
     have ez : min (min m' a) 100000 = a := by omega
     rw [ez]
     
     repeat' (first | (simp -implicitDefEqProofs [Bc, BW, Ba, Bf, BV, BX, BT, Bg, Bb, BB, B9, BA, BC, BD, B8, c17, -getElem?_pos, q1, hpl, hjl', hf, hf', hf2, AI, AK]) | (simp (disch := omega) only [AH]) | (with_reducible first | refine A8 ?_ ?_ ?_ | exact AF | refine SameB.upd ?_ ?_ _ | assumption | refine A4 ?_ | refine KM.of ?_ | refine AG ?_ | refine A2 ?_ | refine A5 ?_ | intro _g _hg | refine AE ?_ ?_ | intro _hc) | omega)
     all_goals first | omega | exact hsame | (refine BN ?_; grind)
   ·rw [if_neg h5]
    by_cases hf : 100000 < a
    ·have hf' : (100000 : Int) < a := by omega
     have ez : min a 100000 = 100000 := by omega
     rw [ez]
     
     repeat' (first | (simp -implicitDefEqProofs [Bc, BW, Ba, Bf, BV, BX, BT, Bg, Bb, BB, B9, BA, BC, BD, B8, c17, -getElem?_pos, q1, hpl, hjl', h12, h5, hf, hf', AI, AK]) | (simp (disch := omega) only [AH]) | (with_reducible first | refine A8 ?_ ?_ ?_ | exact AF | refine SameB.upd ?_ ?_ _ | assumption | refine A4 ?_ | refine KM.of ?_ | refine AG ?_ | refine A2 ?_ | refine A5 ?_ | intro _g _hg | refine AE ?_ ?_ | intro _hc) | omega)
     all_goals first | omega | exact hsame | (refine BN ?_; grind)
    ·have hf' : ¬ (100000 : Int) < a := by omega
     have ez : min a 100000 = a := by omega
     rw [ez]
     
     repeat' (first | (simp -implicitDefEqProofs [Bc, BW, Ba, Bf, BV, BX, BT, Bg, Bb, BB, B9, BA, BC, BD, B8, c17, -getElem?_pos, q1, hpl, hjl', h12, h5, hf, hf', AI, AK]) | (simp (disch := omega) only [AH]) | (with_reducible first | refine A8 ?_ ?_ ?_ | exact AF | refine SameB.upd ?_ ?_ _ | assumption | refine A4 ?_ | refine KM.of ?_ | refine AG ?_ | refine A2 ?_ | refine A5 ?_ | intro _g _hg | refine AE ?_ ?_ | intro _hc) | omega)
     all_goals first | omega | exact hsame | (refine BN ?_; grind)
theorem UP (s : St) : Cg s → Gz s → An s ≤ 60 → Dr s := by
 refine St.ind (Q := fun s => Cg s → Gz s → An s ≤ 60 → Dr s) ?_ s
 intro k o m v p ih hf hok hsz
 obtain ⟨hv, hp, hpp⟩ := hf
 obtain ⟨hn, hop⟩ := hok
 have hN := Bl hn
 simp only [An] at hsz
 have hpl := Bq p
 have hx : ∀ x ∈ p, Dr x := fun x hx => ih x hx (CT hpp x hx) (Cm hop x hx) (by have := Dn x hx; omega)
 by_cases h1 : k = 1
 ·subst h1; exact Sy o m v p hv
 by_cases h2 : k = 2
 ·subst h2
  obtain ⟨a, b, c, rfl, h⟩ := J5 (hN.rng rfl) hN.vals
  exact U8 o m a b c p (by omega)
 by_cases h15 : k = 15
 ·subst h15
  match p, hN.two (.inl rfl) with
  | [x, y], _ => exact TQ o m v x y (hx x (by simp)) (hx y (by simp))
 have hm : k = 5 ∨ k = 12 → 0 ≤ m ∧ m ≤ 5000 := fun h => by
  have hm := hN.num (by rcases h with rfl | rfl <;> rfl)
  rcases h with rfl | rfl <;> simp [Jn, Jq, Cq] at hm <;> omega
 exact UH k o m v p h1 h2 h15 (fun h => hN.one (by omega) (by omega) (by omega) (by omega) (by omega) (by omega)) hm (fun h => by have hm := hN.num (by subst h; rfl); subst h; simp [Jn, Jq, Cq] at hm; omega) (by omega) hx
abbrev Rw (s : St) : Prop := ∀ i : Nat, i + An s ≤ 100 → APure Tryz.prog 38 [encS s, aI i] (.tup [aI ((DG s i).1 : Nat), aI (DG s i).2])
theorem KV {k o m : Int} {v : List Int} {p : List St} {i n g n1 : Nat} {H H1 : A6} {w0 nx fd : Int} (h60 : p.length ≤ 60) (hx : ∀ x ∈ p, Rw x) (hi : i + 1 + Bm p ≤ 100) (hw0 : -1 ≤ w0) (hnx : nx = ((i + 1 + Bm p : Nat) : Int)) (hfd : fd = if w0 < 0 then (E9 p (i + 1)).2 else w0) (hn : n ≤ g) (hg : g < n1) (hs : SameB n H H1) (q : H1 g = some (Rs k o m (.sl 1 (v.map aI) .ro) (.sl 5 (AD p) .ro))) :
  LoopK (fun Q s => aw Tryz.prog c38_L5 Q s) (EX 0 (ED (aw Tryz.prog c38_k1 (K0 (.tup [aI nx, aI fd]) n H [.tmp 4, .tmp 5])) (K0 (.tup [aI nx, aI fd]) n H [.tmp 4, .tmp 5]))) ⟨[(2, .ptr g 0), (6, aI w0), (7, aI ((i : Int) + 1)), (8, aI 0)], n1, H1⟩ := by
 have hpl := Ao p
 refine LoopK.go (fun r st => ∃ (j c n2 : Nat) (w : Int) (H2 : A6), j + r = p.length ∧ st = ⟨[(2, .ptr g 0), (6, aI w), (7, aI c), (8, aI j)], n2, H2⟩ ∧ g < n2 ∧ -1 ≤ w ∧ c + Bm (p.drop j) = i + 1 + Bm p ∧ (if w < 0 then (E9 (p.drop j) c).2 else w) = fd ∧ SameB n H H2 ∧ H2 g = some (Rs k o m (.sl 1 (v.map aI) .ro) (.sl 5 (AD p) .ro))) p.length ⟨0, i + 1, n1, w0, H1, by omega, by simp, hg, hw0, by simp, by rw [hfd]; rfl, hs, q⟩ ?_
 rintro r st ⟨j, c, n2, w, H2, hj, rfl, hn2, hw, hcs, hE, hsame, q1⟩ J hJ
 by_cases hjl : j < p.length
 ·obtain ⟨x, hx'⟩ : ∃ x, p[j]? = some x := ⟨_, List.getElem?_eq_getElem hjl⟩
  have hxm := List.mem_of_getElem? hx'
  rw [Ru hx'] at hcs
  have hst := hx x hxm c (by omega)
  have hxe := CP hx'
  have hxf := BP x
  have hjl' : (j : Int) < p.length := by omega
  have hwx := (IE x c).1
  have hwn := Jm x c
  rw [Rc hx'] at hE
  rw [hwn] at hst
  generalize (DG x c).2 = wx at *
  generalize hsx : An x = sx at *
  obtain ⟨k', o', m', v', p'⟩ := x
  rw [A7] at hst hxe hxf
  generalize AD p = ep at *
  generalize AD p' = ep' at *
  generalize v'.map aI = ev' at *
  generalize hcc : ((c + sx : Nat) : Int) = cc at *
  by_cases hwz : w < 0
  ·rw [if_pos hwz] at hE
   
   repeat' (first | (simp -implicitDefEqProofs [Hw, Ho, Hz, Hq, Ht, Ee, c38, -getElem?_pos, q1, hpl, hjl', hxe, hwz, splice]) | (simp (disch := omega) only [AH]) | ((with_reducible refine Al 38 ?_); (refine' CallP.sf ?_ (hst) ?_); (focus first | (with_reducible exact A0 _) | (simp [AK, AI, A1, A0]; done))) | (with_reducible first | refine A8 ?_ ?_ ?_ | exact AF | refine SameB.upd ?_ ?_ _ | assumption | refine A4 ?_ | refine KM.of ?_ | refine AG ?_ | refine A2 ?_ | refine A5 ?_ | intro _g _hg | refine AE ?_ ?_ | intro _hc) | omega)
   exact hJ (r - 1) _ (by omega) ⟨j + 1, c + sx, _, wx, _, by omega, by rw [hcc]; rfl, hn2, hwx, by omega, hE, hsame, q1⟩
  ·rw [if_neg hwz] at hE
   
   repeat' (first | (simp -implicitDefEqProofs [Hw, Ho, Hz, Hq, Ht, Ee, c38, -getElem?_pos, q1, hpl, hjl', hxe, hwz, splice]) | (simp (disch := omega) only [AH]) | ((with_reducible refine Al 38 ?_); (refine' CallP.sf ?_ (hst) ?_); (focus first | (with_reducible exact A0 _) | (simp [AK, AI, A1, A0]; done))) | (with_reducible first | refine A8 ?_ ?_ ?_ | exact AF | refine SameB.upd ?_ ?_ _ | assumption | refine A4 ?_ | refine KM.of ?_ | refine AG ?_ | refine A2 ?_ | refine A5 ?_ | intro _g _hg | refine AE ?_ ?_ | intro _hc) | omega)
   exact hJ (r - 1) _ (by omega) ⟨j + 1, c + sx, _, w, _, by omega, by rw [hcc]; rfl, hn2, hw, by omega, by rw [if_neg hwz]; exact hE, hsame, q1⟩
 ·have hjl' : ¬ (j : Int) < p.length := by omega
  rw [List.drop_eq_nil_of_le (by omega), Bm] at hcs
  rw [List.drop_eq_nil_of_le (by omega), E9] at hE
  have e1 : nx = c := by omega
  have e2 : fd = w := by rw [← hE]; split <;> omega
  subst e1 e2
  generalize AD p = ep at *
  
  repeat' (first | (simp -implicitDefEqProofs [Hw, Ho, Hz, Hq, Ht, Ee, c38, -getElem?_pos, q1, hpl, hjl', AI, AK]) | (simp (disch := omega) only [AH]) | (with_reducible first | refine A8 ?_ ?_ ?_ | exact AF | refine SameB.upd ?_ ?_ _ | assumption | refine A4 ?_ | refine KM.of ?_ | refine AG ?_ | refine A2 ?_ | refine A5 ?_ | intro _g _hg | refine AE ?_ ?_ | intro _hc) | omega)
  all_goals first | exact hsame | omega
theorem W6 (s : St) : Cg s → Gz s → An s ≤ 60 → Rw s := by
 refine St.ind (Q := fun s => Cg s → Gz s → An s ≤ 60 → Rw s) ?_ s
 intro k o m v p ih hf hok hsz i hi
 have hbd := UP (.mk k o m v p) hf hok hsz
 obtain ⟨hv, hp, hpp⟩ := hf
 obtain ⟨hn, hop⟩ := hok
 simp only [An] at hsz hi
 have hx : ∀ x ∈ p, Rw x := fun x hx => ih x hx (CT hpp x hx) (Cm hop x hx) (by have := Dn x hx; omega)
 have hw1 : (DG (.mk k o m v p) i).1 = i + 1 + Bm p := by rw [DG, I2]
 have hw2 : (DG (.mk k o m v p) i).2 = if 5000 < Ah (.mk k o m v p) then (i : Int) else (E9 p (i + 1)).2 := by rw [DG]
 rw [hw1, hw2]
 unfold Dr at hbd
 generalize Ah (.mk k o m v p) = B at *
 rw [A7] at hbd ⊢
 generalize hnx : ((i + 1 + Bm p : Nat) : Int) = nx
 generalize hfd : (if 5000 < B then (i : Int) else (E9 p (i + 1)).2) = fd
 generalize hmb : ((min B 100000 : Nat) : Int) = mb at *
 
 refine A3 Tryz.func38 X1 rfl fun n H hH => ?_
 by_cases hB0 : 5000 < B
 ·have hB' : (5000 : Int) < mb := by omega
  rw [if_pos hB0] at hfd
  repeat' (first | (simp -implicitDefEqProofs [c38, Ee, -getElem?_pos, hB']) | (simp (disch := omega) only [AH]) | ((with_reducible refine Al 17 ?_); (refine' CallP.sf ?_ (hbd) ?_); (focus first | (with_reducible exact A0 _) | (simp [AK, AI, A1, A0]; done))) | (with_reducible first | refine A8 ?_ ?_ ?_ | exact AF | refine SameB.upd ?_ ?_ _ | assumption | refine A4 ?_ | refine KM.of ?_ | refine AG ?_ | refine A2 ?_ | refine A5 ?_ | intro _g _hg | refine AE ?_ ?_ | intro _hc) | omega)
  exact KV (by have := Bq p; omega) hx (by omega) (by omega) hnx.symm (by rw [if_neg (by omega)]; exact hfd.symm) (by omega) (by omega) (fun k hk => by simp (disch := omega) only [upd_ne]) (Ax _ _ _)
 ·have hB' : ¬ (5000 : Int) < mb := by omega
  rw [if_neg hB0] at hfd
  repeat' (first | (simp -implicitDefEqProofs [c38, Ee, -getElem?_pos, hB']) | (simp (disch := omega) only [AH]) | ((with_reducible refine Al 17 ?_); (refine' CallP.sf ?_ (hbd) ?_); (focus first | (with_reducible exact A0 _) | (simp [AK, AI, A1, A0]; done))) | (with_reducible first | refine A8 ?_ ?_ ?_ | exact AF | refine SameB.upd ?_ ?_ _ | assumption | refine A4 ?_ | refine KM.of ?_ | refine AG ?_ | refine A2 ?_ | refine A5 ?_ | intro _g _hg | refine AE ?_ ?_ | intro _hc) | omega)
  exact KV (by have := Bq p; omega) hx (by omega) (by omega) hnx.symm (by rw [if_pos (by omega)]; exact hfd.symm) (by omega) (by omega) (fun k hk => by simp (disch := omega) only [upd_ne]) (Ax _ _ _)
theorem KB (s : St) (hf : Cg s) : APure Tryz.prog 14 [encS s] (aF (GT s)) := by
 have hst : APure Tryz.prog 37 [encS s, aI 0] (.tup [aI ((DH s 0).1 : Nat), aI (DH s 0).2]) := UN s hf 0 (by omega)
 have hwd : (DH s 0).2 = 0 → APure Tryz.prog 38 [encS s, aI 0] (.tup [aI ((DG s 0).1 : Nat), aI (DG s 0).2]) := fun h => by
  obtain ⟨h1, h2, h3⟩ := ID s 0 h
  exact W6 s hf h1 (by omega) 0 (by omega)
 have hw := (IE s 0).1
 unfold GT
 generalize DH s 0 = sg at *
 generalize DG s 0 = wd at *
 obtain ⟨k, o, m, v, p⟩ := s
 rw [A7] at *
 generalize v.map aI = va at *
 generalize AD p = ep at *
 have hat := Ve
 
 refine A3 Tryz.func14 Ws rfl fun n H hH => ?_
 by_cases h0 : sg.2 = 0
 ·have hwd := hwd h0
  rw [if_neg (by simpa using h0)]
  by_cases hw0 : 0 ≤ wd.2
  ·rw [if_pos hw0]
   repeat' (first | (simp -implicitDefEqProofs [IF, IL, c14, -getElem?_pos, h0, hw0, splice, AI, AK]) | (simp (disch := omega) only [AH]) | ((with_reducible refine Al 37 ?_); (refine' CallP.sf ?_ (hst) ?_); (focus first | (with_reducible exact A0 _) | (simp [AK, AI, A1, A0]; done))) | ((with_reducible refine Al 38 ?_); (refine' CallP.sf ?_ (hwd) ?_); (focus first | (with_reducible exact A0 _) | (simp [AK, AI, A1, A0]; done))) | ((with_reducible refine Al 20 ?_); (refine' CallP.sf ?_ ((Ve _ _)) ?_); (focus first | (with_reducible exact A0 _) | (simp [AK, AI, A1, A0]; done))) | (with_reducible first | refine A8 ?_ ?_ ?_ | exact AF | refine SameB.upd ?_ ?_ _ | assumption | refine A4 ?_ | refine KM.of ?_ | refine AG ?_ | refine A2 ?_ | refine A5 ?_ | intro _g _hg | refine AE ?_ ?_ | intro _hc) | omega)
  ·rw [if_neg hw0]
   repeat' (first | (simp -implicitDefEqProofs [IF, IL, c14, -getElem?_pos, h0, hw0, splice, AI, AK]) | (simp (disch := omega) only [AH]) | ((with_reducible refine Al 37 ?_); (refine' CallP.sf ?_ (hst) ?_); (focus first | (with_reducible exact A0 _) | (simp [AK, AI, A1, A0]; done))) | ((with_reducible refine Al 38 ?_); (refine' CallP.sf ?_ (hwd) ?_); (focus first | (with_reducible exact A0 _) | (simp [AK, AI, A1, A0]; done))) | ((with_reducible refine Al 20 ?_); (refine' CallP.sf ?_ ((Ve _ _)) ?_); (focus first | (with_reducible exact A0 _) | (simp [AK, AI, A1, A0]; done))) | (with_reducible first | refine A8 ?_ ?_ ?_ | exact AF | refine SameB.upd ?_ ?_ _ | assumption | refine A4 ?_ | refine KM.of ?_ | refine AG ?_ | refine A2 ?_ | refine A5 ?_ | intro _g _hg | refine AE ?_ ?_ | intro _hc) | omega)
 ·rw [if_pos h0]
  repeat' (first | (simp -implicitDefEqProofs [IF, IL, c14, -getElem?_pos, h0, splice, AI, AK]) | (simp (disch := omega) only [AH]) | ((with_reducible refine Al 37 ?_); (refine' CallP.sf ?_ (hst) ?_); (focus first | (with_reducible exact A0 _) | (simp [AK, AI, A1, A0]; done))) | ((with_reducible refine Al 20 ?_); (refine' CallP.sf ?_ ((Ve _ _)) ?_); (focus first | (with_reducible exact A0 _) | (simp [AK, AI, A1, A0]; done))) | (with_reducible first | refine A8 ?_ ?_ ?_ | exact AF | refine SameB.upd ?_ ?_ _ | assumption | refine A4 ?_ | refine KM.of ?_ | refine AG ?_ | refine A2 ?_ | refine A5 ?_ | intro _g _hg | refine AE ?_ ?_ | intro _hc) | omega)
open Go.RowKit
theorem L2 {P : Program} {w0 w w' : World} {G : Gh} {n : Nat} {H : A6} (h0 : Rel0 P w0 G n H w) (hb : Below w.heap.size w w') : Rel0 P w0 G n H w' := by
 have hbl : ∀ g, g < w.heap.size → w'.heap[g]? = w.heap[g]? := fun g hg => hb.block g hg
 refine ⟨h0.ext.tr hb, h0.lo, Nat.le_trans h0.hi hb.size, fun b o v hv => ?_, fun g e c hg => ?_, h0.capLo, fun g ob hob => ?_⟩
 ·have hc := h0.seal_ b o v hv
  have hlt : b < w.heap.size := World.block_lt_of_cell? _ _ hc
  rw [hb.cell (p := ⟨b, o, none⟩) hlt]; exact hc
 ·obtain ⟨cur, fz, h1, h2⟩ := h0.caps g e c hg
  refine ⟨cur, fz, ?_, h2⟩
  rw [hbl g (Array.getElem?_eq_some_iff.1 h1).1]; exact h1
 ·obtain ⟨h1, h2, h3⟩ := h0.objs g ob hob
  have hlt : g < w.heap.size := Nat.lt_of_lt_of_le h2 h0.hi
  exact ⟨h1, h2, h3.keep (hbl g hlt) (fun _ => rfl) rfl (Gh.Le.rfl_ G) (MapsKeep.lt hbl)⟩
theorem SI {P : Program} {f : Nat} {args : List AV} {v : AV} (h : ∀ (G : Gh) (vs : List Value), RepL G vs args → ∃ u : Value, (∀ G', Rep G' u v) ∧ ∀ w : World, Laid w → Calls P f vs.toArray w fun e w' => e = .returned u ∧ Below w.heap.size w w') : APure P f args v := by
 intro n H hs w0 G w vs hl h0 hrep
 obtain ⟨u, hu, hc⟩ := h G vs hrep
 refine (hc w (hl.ext h0.ext)).mono ?_
 rintro e w' ⟨rfl, hb⟩
 exact ⟨u, v, G, n, H, rfl, ⟨rfl, rfl, rfl⟩, hu G, Gh.Le.rfl_ _, Nat.le_refl _, L2 h0 hb⟩
theorem Ua (s : ByteArray) (l : List UInt8) (h : s.data.toList = l) : s = ⟨l.toArray⟩ := by cases s; subst h; simp
theorem Ji (n : Int) (h : -9223372036854775808 ≤ n ∧ n ≤ 9223372036854775807) : APure Tryz.prog 120 [.int .i64 n] (.str (Lib.itoa n)) := by
 refine SI fun G vs hr => ⟨.string ⟨(Lib.itoa n).toArray⟩, fun _ => .str (by simp), fun w hl => ?_⟩
 cases hr with | cons h1 h2 =>
 cases h2; cases h1
 refine (Any.strconv_Itoa TM n h.1 h.2 w (Ty (by kernel_rfl) hl.pow)).mono ?_
 rintro e w' ⟨rfl, k, os, rfl⟩
 exact ⟨rfl, Lib.below_grow _ _ (Nat.le_refl _) _ _⟩
theorem Hr (l : List WV) : Ae (l.map AV.str) = l.map AV.str := by
 induction l with
 | nil => rfl
 | cons x l ih => simp only [List.map_cons, Ae, List.flatMap_cons, AV.cells, List.singleton_append] at ih ⊢; rw [ih]
theorem Sd {G : Gh} (l : List WV) : RepL G (l.map fun x => Value.string ⟨x.toArray⟩) (l.map AV.str) := by
 induction l with
 | nil => exact .nil
 | cons x l ih => exact .cons (.str (by simp)) ih
theorem Oz (s : WV) (hs : s.length < 4294967281) (ha : ∀ b ∈ s, b.toNat < 128) (hk : (Lib.fields s).length ≤ 1000000) : APure Tryz.prog 139 [.str s] (.sl 1 ((Lib.fields s).map AV.str) .ro) := by
 intro n H hH w0 G w vs hl h0 hrep
 cases hrep with | cons h1 h2 =>
 cases h2; cases h1
 rename_i sb hsb
 subst hsb
 refine (Any.strings_Fields VN (by kernel_rfl) (by kernel_rfl) sb w (by rw [Lib.size_eq]; exact hs) (fun j b hj => ha b (List.mem_of_getElem? hj)) (Ty (by kernel_rfl) (hl.ext h0.ext).spc)).mono ?_
 rintro e w' ⟨rfl, rfl⟩
 have hrel := h0.newRow (w' := w.alloc (.cells ((Lib.fields sb.data.toList).map fun l => Value.string ⟨l.toArray⟩).toArray 9)) (cur := ((Lib.fields sb.data.toList).map fun l => Value.string ⟨l.toArray⟩).toArray) (e := 9) (fz := (0, 0)) (vs := (Lib.fields sb.data.toList).map fun l => Value.string ⟨l.toArray⟩) (c := none) (ob := none) rfl rfl rfl rfl
  (fun j u hu => by simpa using hu) (fun e' c' hc => by cases hc) (.inl rfl)
 have hle := h0.addLe ((Lib.fields sb.data.toList).map fun l => Value.string ⟨l.toArray⟩) none
 have hhi := h0.hi
 refine ⟨_, _, _, n, H, rfl, ⟨rfl, rfl, rfl⟩, .slro (vs := (Lib.fields sb.data.toList).map fun l => Value.string ⟨l.toArray⟩) ?_ (Gh.add_sealed _ _ _) ?_ (by simp), hle, Nat.le_refl _, hrel.less h0.lo (by omega) hH ?_⟩
 ·rw [Hr]; exact Sd _
 ·refine ⟨by simp, by simp only [maxLen]; omega, by decide, fun x hx => ?_, fun x hx => ?_⟩
  ·obtain ⟨y, _, rfl⟩ := List.mem_map.1 hx; rfl
  ·rw [Hr] at hx; obtain ⟨y, _, rfl⟩ := List.mem_map.1 hx; rfl
 ·intro k hk'
  rw [upd_ne (by omega)]
abbrev YL (l : List WV) : AV := .sl 1 (l.map AV.str) .ro
theorem WU (l : List WV) (sep : WV) (hl : l.length ≤ 140737488355328) (hlen : (Lib.join l sep).length ≤ 140737488355328) : APure Tryz.prog 83 [YL l, .str sep] (.str (Lib.join l sep)) := by
 intro n H hH w0 G w vs hl0 h0 hrep
 cases hrep with | cons h1 h2 =>
 cases h2 with | cons h3 h4 =>
 cases h4; cases h3
 rename_i sb hsb
 subst hsb
 obtain ⟨A, c, rfl, hc, hm, hA⟩ := h1.slOut
 have key : ∀ {W : World} {e : Ending}, e = .returned (.string ⟨(Lib.join l sb.data.toList).toArray⟩) → Below w.heap.size w W → ∃ (v : Value) (r : AV) (G' : Gh) (n' : Nat) (H' : A6), e = .returned v ∧ (r = .str (Lib.join l sb.data.toList) ∧ n' = n ∧ H' = H) ∧ Rep G' v r ∧ G.Le G' ∧ n ≤ n' ∧ Rel0 Tryz.prog w0 G' n' H' W := fun he hb =>
  ⟨_, _, G, n, H, he, ⟨rfl, rfl, rfl⟩, .str (by simp), Gh.Le.rfl_ _, Nat.le_refl _, L2 h0 hb⟩
 by_cases hl0 : l = []
 ·subst hl0
  refine (Any.strings_Join_none Rg EC A c sb w).mono ?_
  rintro e w' ⟨he, rfl⟩
  exact key (by rw [he]; rfl) (Below.refl _ _)
 ·obtain ⟨g, off, us, rfl, hr, hs, ho⟩ := hA (by simpa using hl0)
  rw [Hr] at hr
  have hcell : ∀ (j : Nat) (x : ByteArray), (l.map fun x => (⟨x.toArray⟩ : ByteArray))[j]? = some x → w.cell? ⟨g, off + j, none⟩ = some (.string x) := by
   intro j x hj
   obtain ⟨y, hy, rfl⟩ : ∃ y, l[j]? = some y ∧ (⟨y.toArray⟩ : ByteArray) = x := by simpa [List.getElem?_map] using hj
   obtain ⟨u, hu, hru⟩ := hr.at (i := j) (x := .str y) (by simp [List.getElem?_map, hy])
   have h5 := h0.seal_ _ _ _ (hs j u hu)
   cases hru
   rename_i s hsy
   rw [h5, Ua _ _ hsy]
  have hlt : g < w.heap.size := by
   obtain ⟨y, hy⟩ : ∃ y, l[0]? = some y := ⟨_, List.getElem?_eq_getElem (List.length_pos_iff.2 hl0)⟩
   have := World.block_lt_of_cell? w _ (hcell 0 ⟨y.toArray⟩ (by simp [List.getElem?_map, hy]))
   simpa using this
  have hmap : (l.map fun x => (⟨x.toArray⟩ : ByteArray)).map (·.data.toList) = l := by
   rw [List.map_map]; conv => rhs; rw [← List.map_id l]
   apply List.map_congr_left; intro x _; simp
  have hj := Any.strings_Join Rg EC g off c (l.map fun x => (⟨x.toArray⟩ : ByteArray)) sb w hcell hlt (by simpa using hl) (by simpa using hc) (by rw [hmap]; exact hlen)
  rw [hmap, List.length_map] at hj
  simp only [List.length_map] at *
  refine hj.mono ?_
  rintro e w' ⟨he, hb⟩
  exact key he hb
def sF : List UInt8 := [112, 108, 117, 115, 32, 109, 105, 110, 117, 115, 32, 116, 105, 109, 101, 115, 32, 109, 97, 120, 32, 109, 105, 110, 32, 109, 111, 100]
def sC : List UInt8 := [98, 101, 108, 111, 119, 32, 97, 98, 111, 118, 101, 32, 100, 105, 118, 105, 115, 105, 98, 108, 101]
def Xp : I1 := [(139, [.str sF], .sl 1 ((Lib.fields sF).map .str) .ro), (139, [.str sC], .sl 1 ((Lib.fields sC).map .str) .ro),
 (120, [.int .i64 0], .str (Lib.itoa 0)), (120, [.int .i64 1], .str (Lib.itoa 1)), (120, [.int .i64 2], .str (Lib.itoa 2)), (120, [.int .i64 3], .str (Lib.itoa 3)), (120, [.int .i64 100], .str (Lib.itoa 100)),
 (83, [YL [[48], [51], [49]], .str [44]], .str (Lib.join [[48], [51], [49]] [44]))]
theorem QY : RN Tryz.prog Xp :=
 ⟨Oz sF (by decide) (by decide) (by decide +kernel), by decide +kernel, Oz sC (by decide) (by decide) (by decide +kernel), by decide +kernel,
 Ji 0 (by decide), rfl, Ji 1 (by decide), rfl, Ji 2 (by decide), rfl, Ji 3 (by decide), rfl, Ji 100 (by decide), rfl,
 WU [[48], [51], [49]] [44] (by decide) (by decide), rfl, trivial⟩
def Y2 (P : Program) (T : I1) : XP := ⟨P, F2, fun _ => false, fun e => Nat.beq e 25 || Nat.beq e 3, Vb T, fun f => Nat.beq f 61 || Nat.beq f 18⟩
def YM : List UInt8 := [116, 97, 107, 101, 40, 50, 44, 102, 105, 108, 116, 101, 114, 40, 100, 105, 118, 105, 115, 105, 98, 108, 101, 32, 51, 44, 114, 97, 110, 103, 101, 40, 49, 44, 49, 48, 48, 44, 49, 41, 41, 41]
def Xo : AV := .agg [.int .i64 5, .int .i64 0, .int .i64 2, .sl 0 [] .nil, .sl 5 [.agg [.int .i64 4, .int .i64 3, .int .i64 3, .sl 0 [] .nil, .sl 5 [.agg [.int .i64 2, .int .i64 0, .int .i64 0, .sl 1 [.int .i64 1, .int .i64 100, .int .i64 1] .ro, .sl 0 [] .nil]] .ro]] .ro]
def Xr : AV := .agg [.int .i64 0, .int .i64 0]
theorem pq : APure Tryz.prog 25 [.str YM] (.tup [Xo, Xr]) := run_pure (X := Y2 Tryz.prog Xp) (It QY) 3000 (by kernel_rfl) rfl rfl
theorem rq : APure Tryz.prog 18 [Xo, .int .i64 5] (.tup [.sl 1 [.int .i64 3, .int .i64 6] .ro, .sl 1 [.int .i64 6] .ro, .bool true, Xr]) := run_pure (X := Y2 Tryz.prog Xp) (It QY) 3000 (by kernel_rfl) rfl rfl
def YN : I1 := (25, [.str YM], .tup [Xo, Xr]) :: (18, [Xo, .int .i64 5], .tup [.sl 1 [.int .i64 3, .int .i64 6] .ro, .sl 1 [.int .i64 6] .ro, .bool true, Xr]) :: Xp
theorem W2 : RN Tryz.prog YN := ⟨pq, rfl, rq, rfl, QY⟩
theorem QG : APure Tryz.prog 16 [] (.bool true) := run_pure (X := Y2 Tryz.prog YN) (It W2) 3000 (by kernel_rfl) rfl rfl
end Go.Proofs.YtjdccdelcnmocaaGreatDoor
