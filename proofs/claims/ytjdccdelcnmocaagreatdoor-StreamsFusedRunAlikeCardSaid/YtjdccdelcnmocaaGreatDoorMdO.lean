/- Streams: sources of ranges are made; no condition. -/
import Derived.Test.YtjdccdelcnmocaaGreatDoorMgJ
import Derived.Test.YtjdccdelcnmocaaGreatDoorMdN
import Derived.Test.YtjdccdelcnmocaaGreatDoorMdL
set_option linter.all false
set_option linter.unusedSimpArgs false
set_option linter.unusedVariables false
set_option maxHeartbeats 2000000
namespace Go.Proofs.YtjdccdelcnmocaaGreatDoor
theorem QX {a b c : Int} (hc : 1 ≤ c) (j : Nat) : a + (j : Int) * c < b ↔ j < G4 [a, b, c] := by
 show _ ↔ j < ((b - a + c - 1) / c).toNat
 have h := Int.le_ediv_iff_mul_le (a := (j : Int) + 1) (b := b - a + c - 1) (c := c) (by omega)
 rw [Int.add_mul] at h
 omega
theorem Wv {a b c : Int} {j : Nat} (hj : j < G4 [a, b, c]) : (FO [a, b, c]).take (j + 1) = (FO [a, b, c]).take j ++ [a + (j : Int) * c] := by
 rw [List.take_succ]
 congr 1
 simp [FO, hj]
theorem PQ (a b c : Int) : (FO [a, b, c]).length = G4 [a, b, c] := by simp [FO]
theorem OO {a b c : Int} (hv : 0 ≤ a ∧ a ≤ 9999 ∧ 0 ≤ b ∧ b ≤ 10000 ∧ 1 ≤ c ∧ c ≤ 9999) : G4 [a, b, c] ≤ 10000 := by
 show ((b - a + c - 1) / c).toNat ≤ 10000
 have h := Int.ediv_lt_of_lt_mul (a := b - a + c - 1) (b := 10001) (c := c) (by omega) (by
  have h1 : (10000 : Int) * 1 ≤ 10000 * c := by omega
  omega)
 omega
attribute [local simp] Nt GX Gy PR NX Pd OR GG Gx I1 JS Qp Q2 PM RE QS Qq P7 RI Nb No Qt Np Qo QJ WK pe PO Pu Pe R3 QU RG Qh PB Oj Nj NF Nm Qz Gv Pp NY PV Ox NJ Pn OY QT Qy QR R9 PJ Ow Q9 Ot Pg PH O7 Pz NO RA GQ OV H7 OS Nd PG PT Ou Nk Og Qx RD Pf NZ RF PL PX R4 OZ Nc Qs NT Oh Pw P6 R6 Q5 NK Gr PA Q4 Qb OP NM P4 Qn P3 Oq OC PI OG Q8 Ni Nh Q3 Nr ON Qr P1 P5 Ov Nw QQ QO Pc NV PC Px R2 K6 OM List.mem_cons guardK FJ Fz Gu J5 O5 Gk Ge Gz Gj H8 GY GO GV H5 PD QM Gg PZ Oy OB O4 Nv QK GU P2 OQ Ql QP O9 R8 J0 Gq Gn Gm Gs RC Pr H6 Ns Gl Nq GS Gd NQ GL Gp Ok O6 Pa Na PK QD Q7 PU WJ MC MV JD MF MB MU Fe I3 I6 O0 Hz I4 Fd FD YP ME M8 I8 M9 MW El EL C6 Bo Cu EA AH ev get put Fa AN EK QA OI OA QC MH Od FW part BS IH RB Hx isNil Df EC Ep EG EE OW Oc NH OL Ng ML Pk PY Q6 Nf Qc Qv Of Ps OD Pi AV.fits AV.cells ones AV.one FF DC FI EF Fg FS Po Fk GZ Cz Br CH Er Gw AX Bq ZY J8 Oz PP List.getElem?_cons_zero List.getElem?_cons_succ Gc GJ Ga OE OX QB IB Qd Pj Qm Qf Pb QI QL Pq Nz Oa Nu
theorem SU {n n1 ga gb gc gd : Nat} {H1 : A3} {R : CJ} {k o m a b c : Int} {ep : List AV} (hv : 0 ≤ a ∧ a ≤ 9999 ∧ 0 ≤ b ∧ b ≤ 10000 ∧ 1 ≤ c ∧ c ≤ 9999) (qb : H1 gb = some (BH k o m (.sl 1 [aI a, aI b, aI c] .ro) (.sl 5 ep .ro))) (qd : H1 gd = some (MZ (.sl 0 [] .nil))) (lb : gb < n1) (ld : gd < n1) (nbd : gb ≠ gd) (sup : ∀ k, n1 ≤ k → H1 k = none)
  (hk : ∀ (e : AT) (n2 z : Nat) (t : Tok) (H2 : A3), get e 4 = .fn 97 [] [.ptr ga 0, .ptr gc 0, .ptr gd 0] → n1 ≤ n2 → (∀ k, k < n1 → k ≠ gd → H2 k = H1 k) → H2 gd = some (MZ (.sl z ((FO [a, b, c]).map aI) t)) → z = 1 ∨ FO [a, b, c] = [] → (∀ k, n2 ≤ k → H2 k = none) → fin R n [.tmp 4] .ret ⟨e, n2, H2⟩) :
  LoopK (fun Q s => aw Tryz.prog c72_L4 Q s) (EY 0 (Ej (aw Tryz.prog c72_k1 (fin R n [.tmp 4])) (fin R n [.tmp 4]))) ⟨[(2, .ptr ga 0), (3, .ptr gb 0), (5, .ptr gc 0), (6, .ptr gd 0), (7, aI a)], n1, H1⟩ := by
 have hbd := OO hv
 have hln := PQ a b c
 refine LoopK.go (fun r st => ∃ (j n2 z : Nat) (t : Tok) (H2 : A3), j + r = G4 [a, b, c] ∧ st = ⟨[(2, .ptr ga 0), (3, .ptr gb 0), (5, .ptr gc 0), (6, .ptr gd 0), (7, aI (a + (j : Int) * c))], n2, H2⟩ ∧ n1 ≤ n2 ∧ (∀ k, k < n1 → k ≠ gd → H2 k = H1 k) ∧ H2 gd = some (MZ (.sl z (((FO [a, b, c]).take j).map aI) t)) ∧ (t ≠ .nil → z = 1) ∧ TokOk t j H2 n2 ∧ (∀ g, CI t g → n1 ≤ g) ∧ (∀ k, n2 ≤ k → H2 k = none)) (G4 [a, b, c]) ?_ ?_
 ·exact ⟨0, n1, 0, .nil, H1, by omega, by simp, Nat.le_refl _, fun _ _ _ => rfl, qd, fun h => absurd rfl h, rfl, fun g h => h.elim, sup⟩
 rintro r st ⟨j, n2, z, t, H2, hj, rfl, hn2, hfr, q6, hz, hT, hTn, hsup⟩ J hJ
 have q3 := (hfr gb lb nbd).trans qb
 by_cases hjl : j < G4 [a, b, c]
 ·have hlt := (QX (a := a) (b := b) hv.2.2.2.2.1 j).2 hjl
  have hml : (((FO [a, b, c]).take j).map aI).length = j := by simp; omega
  have hnx : ((FO [a, b, c]).take (j + 1)).map aI = ((FO [a, b, c]).take j).map aI ++ [aI (a + (j : Int) * c)] := by rw [Wv hjl]; simp
  have hw : IntKind.i64.wrap (a + (j : Int) * c + c) = a + ((j + 1 : Nat) : Int) * c := by
   have h0 : 0 ≤ (j : Int) * c := Int.mul_nonneg (by omega) (by omega)
   have e : ((j + 1 : Nat) : Int) * c = (j : Int) * c + c := by rw [Int.natCast_add, Int.add_mul]; simp
   rw [IntWalk.i64_in _ (by omega), e]; omega
  have hpx : 0 ≤ (j : Int) * c := Int.mul_nonneg (by omega) (by omega)
  generalize hx1 : a + ((j + 1 : Nat) : Int) * c = x1 at *
  generalize hx : a + (j : Int) * c = x at *
  generalize hls : ((FO [a, b, c]).take j).map aI = ls at *
  
  repeat' (first | (simp -implicitDefEqProofs [F6, F5, F4, Ew, F7, c72, -getElem?_pos, q3, q6, hlt, hw, nbd, Ne.symm nbd, splice]) | (simp (disch := omega) only [AA]) | (refine Iy (by rw [hml]; exact hT.at_ (fun k hk => by have := hT.lt k hk; rw [upd_ne (by omega)]) (by omega)) hz (by rw [hml]; omega) (fun k hk => by rw [upd_ne (by omega)]; exact hsup k (by omega)) (fun g' n3 H3 k1 k2 k3 k4 k5 k6 k7 => ?_); have q6 := (k4 gd (by omega) (fun h => by have := hTn gd h; omega)).trans ((upd_ne (by omega)).trans q6); have q3 := (k4 gb (by omega) (fun h => by have := hTn gb h; omega)).trans ((upd_ne (by omega)).trans q3)) | (with_reducible first | refine A6 ?_ ?_ ?_ | exact AC | assumption | refine A0 ?_ | refine KM.of ?_ | refine AB ?_ | refine A1 ?_ | refine AE ?_ | refine A4 ?_ | refine AJ ?_ | refine AG ?_ | intro _g _hg | refine AD ?_ ?_ | intro _hc) | omega)
  have hg1 : n1 ≤ g' := k1.elim (hTn g') (fun h => by omega)
  exact hJ (r - 1) _ (by omega) ⟨j + 1, n3, 1, .own g', upd H3 gd (some (MZ (.sl 1 (ls ++ [aI x]) (.own g')))), by omega, by rw [hx1], by omega, fun k h1 h2 => by rw [upd_ne h2, k4 k (by omega) (fun h => by have := hTn k h; omega), upd_ne (by omega)]; exact hfr k h1 h2, by rw [AX, hnx], fun _ => rfl, ⟨by rw [upd_ne (by omega), k5, hml], k3⟩, fun g hg => by have e : g = g' := hg; omega, fun k h1 => by rw [upd_ne (by omega)]; exact k6 k h1⟩
 ·have hlt : ¬ a + (j : Int) * c < b := fun h => hjl ((QX hv.2.2.2.2.1 j).1 h)
  have hall : (FO [a, b, c]).take j = FO [a, b, c] := List.take_of_length_le (by omega)
  rw [hall] at q6
  generalize a + (j : Int) * c = x at *
  
  repeat' (first | (simp -implicitDefEqProofs [F6, F5, F4, Ew, F7, c72, -getElem?_pos, q3, hlt, splice]) | (simp (disch := omega) only [AA]) | (with_reducible first | refine A6 ?_ ?_ ?_ | exact AC | assumption | refine A0 ?_ | refine KM.of ?_ | refine AB ?_ | refine A1 ?_ | refine AE ?_ | refine A4 ?_ | refine AJ ?_ | refine AG ?_ | intro _g _hg | refine AD ?_ ?_ | intro _hc) | omega)
  refine hk _ n2 z t H2 rfl hn2 hfr q6 ?_ hsup
  by_cases ht : t = .nil
  ·subst ht
   have e : j = 0 := hT
   exact .inr (List.length_eq_zero_iff.1 (by omega))
  ·exact .inl (hz ht)
theorem Wg {gO n : Nat} {H : A3} {cs : AZ} {q : Option Nat} {o m a b c : Int} {p : List St} (hv : 0 ≤ a ∧ a ≤ 9999 ∧ 0 ≤ b ∧ b ≤ 10000 ∧ 1 ≤ c ∧ c ≤ 9999) (hcs : cs.length ≤ 100) (hL : LS gO cs H q) : ACalls Tryz.prog 72 [.ptr gO 0, encS (.mk 2 o m [a, b, c] p)] n H (OpenP false gO cs q (Gi (FO [a, b, c])) n H) := by
 generalize hR : OpenP _ _ _ _ _ _ _ = R
 rw [AF]
 generalize AR p = ep
 refine A8 Tryz.func72 Zv rfl fun hs => ?_
 obtain ⟨hO, hgn⟩ := hL.lt hs
 have hcp : (cs ++ [0]).map aI = cs.map aI ++ [aI 0] := by simp
 cases q with
 | none =>
  obtain ⟨rfl, o1⟩ := hL
  repeat' (first | (simp -implicitDefEqProofs [F6, F5, F4, Ew, F7, c72, -getElem?_pos, o1, splice]) | (simp (disch := omega) only [AA]) | (refine Jw (.inl rfl) (A2 _) (by simp) (by simp) (by simp [maxLen]) (fun g hg => ?_)) | (with_reducible first | refine A6 ?_ ?_ ?_ | exact AC | assumption | refine A0 ?_ | refine KM.of ?_ | refine AB ?_ | refine A1 ?_ | refine AE ?_ | refine A4 ?_ | refine AJ ?_ | refine AG ?_ | intro _g _hg | refine AD ?_ ?_ | intro _hc) | omega)
  ·simp [B0, AV.fits, ones, AV.cells, AV.one]
  rename_i ga hga gb hgb gc hgc ge hge
  refine SU (n := n) hv (by simp (disch := omega) only [upd_ne, AX] <;> rfl) (by simp (disch := omega) only [upd_ne, AX] <;> rfl) (by omega) (by omega) (by omega) (fun k hk => by simp (disch := omega) only [upd_ne]; exact hs k (by omega)) (fun e n2 z t H2 h1 h2 h3 h4 h5 h6 => ?_)
  subst hR
  have fr2 : ∀ k, k < _g → H2 k = _ := fun k hk => h3 k (by omega) (by omega)
  exact AI (r := .fn _ [] [.ptr ga 0, .ptr gc 0, .ptr _g 0]) (by simp [Br, CH, Er, h1]) (by omega) h6 (HY (g := g) (xs := FO [a, b, c]) (z := z) (t := t) (by rw [PQ]; have := OO hv; omega) h5 hO (.inr (by omega)) (by omega) (by omega) ⟨by omega, by omega, by omega⟩ ⟨by omega, by omega, by omega⟩ ⟨by omega, by omega, by omega⟩ (by rw [fr2 _ (by omega)]; exact (by simp (disch := omega) only [upd_ne, AX] <;> rfl)) (by rw [fr2 _ (by omega)]; exact (by simp (disch := omega) only [upd_ne, AX] <;> rfl)) (by rw [fr2 _ (by omega)]; exact (by simp (disch := omega) only [upd_ne, AX] <;> rfl)) (by rw [fr2 _ (by omega)]; exact (by simp (disch := omega) only [upd_ne, AX] <;> rfl)) h4 (fun k h1 h2 h3 => by rw [fr2 _ (by omega)]; simp (disch := omega) only [upd_ne]) h6)
 | some gg =>
  obtain ⟨o1, o2⟩ := hL
  obtain ⟨hgn, hne⟩ := hgn gg rfl
  repeat' (first | (simp -implicitDefEqProofs [F6, F5, F4, Ew, F7, c72, -getElem?_pos, o1, o2, splice]) | (simp (disch := omega) only [AA]) | (with_reducible refine Sx [gg] ?_) | (refine Jj (.inl rfl) (A2 _) (by simp (disch := omega) only [upd_ne]; exact o2) (by simp) (by simp; omega) (by simp [maxLen]; omega) (fun g n' h1 h2 h3 => ?_)) | (with_reducible first | refine A6 ?_ ?_ ?_ | exact AC | assumption | refine A0 ?_ | refine KM.of ?_ | refine AB ?_ | refine A1 ?_ | refine AE ?_ | refine A4 ?_ | refine AJ ?_ | refine AG ?_ | intro _g _hg | refine AD ?_ ?_ | intro _hc) | omega)
  ·simp [B0, AV.fits, ones, AV.cells, AV.one]
  rename_i ga hga gb hgb gc hgc ge hge
  have hwh := h1
  refine SU (n := n) hv (by simp (disch := omega) only [upd_ne, AX] <;> rfl) (by simp (disch := omega) only [upd_ne, AX] <;> rfl) (by omega) (by omega) (by omega) (fun k hk => by simp (disch := omega) only [upd_ne]; exact hs k (by omega)) (fun e n2 z t H2 h1 h2 h3 h4 h5 h6 => ?_)
  subst hR
  have fr2 : ∀ k, k < _g → H2 k = _ := fun k hk => h3 k (by omega) (by omega)
  exact AI (r := .fn _ [] [.ptr ga 0, .ptr gc 0, .ptr _g 0]) (by simp [Br, CH, Er, h1]) (by omega) h6 (HY (g := g) (xs := FO [a, b, c]) (z := z) (t := t) (by rw [PQ]; have := OO hv; omega) h5 hO (hwh.elim (fun h => .inl (by rw [h])) (fun h => .inr (by omega))) (by omega) (by omega) ⟨by omega, by omega, by omega⟩ ⟨by omega, by omega, by omega⟩ ⟨by omega, by omega, by omega⟩ (by rw [fr2 _ (by omega)]; exact (by simp (disch := omega) only [upd_ne, AX] <;> rfl)) (by rw [fr2 _ (by omega)]; exact (by rw [hcp]; simp (disch := omega) only [upd_ne, AX])) (by rw [fr2 _ (by omega)]; exact (by simp (disch := omega) only [upd_ne, AX] <;> rfl)) (by rw [fr2 _ (by omega)]; exact (by simp (disch := omega) only [upd_ne, AX] <;> rfl)) h4 (fun k h1 h2 h3 => by have : k ≠ gg := fun e => h3 (by rw [e]); rw [fr2 _ (by omega)]; simp (disch := omega) only [upd_ne]) h6)
theorem SX (k o m : Int) (v : List Int) (x : St) (hk : k = 5 ∨ k = 12) (hm : 0 ≤ m ∧ m ≤ 5000) (hx : APure Tryz.prog 70 [encS x] (aI (min (AW x) 5001 : Nat))) : APure Tryz.prog 70 [encS (.mk k o m v [x])] (aI (min (AW (.mk k o m v [x])) 5001 : Nat)) := by
 have hxf := Ax x
 have hb : min (AW (.mk k o m v [x])) 5001 = min (CB k m v [min (AW x) 5001]) 5001 := by
  rw [AW, L4]; rfl
 rw [hb]
 obtain ⟨b, hb'⟩ : ∃ b, min (AW x) 5001 = b := ⟨_, rfl⟩
 have hb5 : b ≤ 5001 := by omega
 rw [hb'] at hx ⊢
 obtain ⟨m', rfl⟩ : ∃ m' : Nat, m = m' := ⟨m.toNat, by omega⟩
 rw [AF, AR, AR]
 generalize encS x = ex at *
 rcases hk with rfl | rfl
 ·have hz : (min (CB 5 m' v [b]) 5001 : Nat) = min (min m' b) 5001 := by simp [CB]
  rw [hz]
  
  refine A7 Tryz.func70 Mh rfl fun n H hH => ?_
  repeat' (first | (simp -implicitDefEqProofs [E4, E7, E0, Dw, Dn, Dv, Dp, Du, Dl, c70, -getElem?_pos, hxf, -AV.fits, AM, AQ]) | (simp (disch := omega) only [AA]) | ((with_reducible refine Aa 70 ?_); (refine' CallP.sf ?_ (hx) ?_); (focus first | (with_reducible exact A2 _) | (simp [AQ, AM, A5, A2]; done))) | (with_reducible first | refine A6 ?_ ?_ ?_ | exact AC | refine SameB.upd ?_ ?_ _ | assumption | refine A0 ?_ | refine KM.of ?_ | refine AB ?_ | refine A1 ?_ | refine A4 ?_ | intro _g _hg | refine AD ?_ ?_ | intro _hc) | omega)
  all_goals (refine BR ?_; grind)
 ·have hz : (min (CB 12 m' v [b]) 5001 : Nat) = min (m' * b) 5001 := by simp [CB]
  rw [hz]
  have hmb : m' * b ≤ 5000 * 5001 := Nat.mul_le_mul (by omega) hb5
  have hmc : ((m' * b : Nat) : Int) = (m' : Int) * b := Int.natCast_mul _ _
  
  refine A7 Tryz.func70 Mh rfl fun n H hH => ?_
  repeat' (first | (simp -implicitDefEqProofs [E4, E7, E0, Dw, Dn, Dv, Dp, Du, Dl, c70, -getElem?_pos, hxf, -AV.fits, AM, AQ]) | (simp (disch := omega) only [AA]) | ((with_reducible refine Aa 70 ?_); (refine' CallP.sf ?_ (hx) ?_); (focus first | (with_reducible exact A2 _) | (simp [AQ, AM, A5, A2]; done))) | (with_reducible first | refine A6 ?_ ?_ ?_ | exact AC | refine SameB.upd ?_ ?_ _ | assumption | refine A0 ?_ | refine KM.of ?_ | refine AB ?_ | refine A1 ?_ | refine A4 ?_ | intro _g _hg | refine AD ?_ ?_ | intro _hc) | omega)
  all_goals (rw [← hmc, IntKind.i64_wrap_id (by omega) (by omega)]; omega)
theorem Rk (o m : Int) (v : List Int) (x y : St) (hx : APure Tryz.prog 70 [encS x] (aI (min (AW x) 5001 : Nat))) (hy : APure Tryz.prog 70 [encS y] (aI (min (AW y) 5001 : Nat))) : APure Tryz.prog 70 [encS (.mk 15 o m v [x, y])] (aI (min (AW (.mk 15 o m v [x, y])) 5001 : Nat)) := by
 have hxf := Ax x
 have hyf := Ax y
 have hb : min (AW (.mk 15 o m v [x, y])) 5001 = min (min (AW x) 5001) (min (AW y) 5001) := by
  simp [AW, DK, CB]; omega
 rw [hb]
 obtain ⟨b, hb'⟩ : ∃ b, min (AW x) 5001 = b := ⟨_, rfl⟩
 obtain ⟨c, hc'⟩ : ∃ c, min (AW y) 5001 = c := ⟨_, rfl⟩
 have hb5 : b ≤ 5001 := by omega
 have hc5 : c ≤ 5001 := by omega
 rw [hb'] at hx ⊢
 rw [hc'] at hy ⊢
 rw [AF, AR, AR, AR]
 generalize encS x = ex at *
 generalize encS y = ey at *
 
 refine A7 Tryz.func70 Mh rfl fun n H hH => ?_
 repeat' (first | (simp -implicitDefEqProofs [E4, E7, E0, Dw, Dn, Dv, Dp, Du, Dl, c70, -getElem?_pos, hxf, hyf, -AV.fits, AM, AQ]) | (simp (disch := omega) only [AA]) | ((with_reducible refine Aa 70 ?_); (refine' CallP.sf ?_ (hx) ?_); (focus first | (with_reducible exact A2 _) | (simp [AQ, AM, A5, A2]; done))) | ((with_reducible refine Aa 70 ?_); (refine' CallP.sf ?_ (hy) ?_); (focus first | (with_reducible exact A2 _) | (simp [AQ, AM, A5, A2]; done))) | (with_reducible first | refine A6 ?_ ?_ ?_ | exact AC | refine SameB.upd ?_ ?_ _ | assumption | refine A0 ?_ | refine KM.of ?_ | refine AB ?_ | refine A1 ?_ | refine A4 ?_ | intro _g _hg | refine AD ?_ ?_ | intro _hc) | omega)
 all_goals first | omega | (refine BR ?_; grind)
theorem Lx {l : List Nat} {i x : Nat} (h : l[i]? = some x) : (l.take (i + 1)).sum = (l.take i).sum + x := by
 rw [List.take_succ, h]; simp
theorem Uj (c : Nat) (p : List St) (h : p.length ≤ 60) (i : Nat) : ((p.map fun s => min (AW s) c).take i).sum ≤ 60 * c := by
 have g : ∀ l : List Nat, (∀ x ∈ l, x ≤ c) → l.sum ≤ l.length * c := by
  intro l hl
  induction l with
  | nil => simp
  | cons a r ih =>
   have h1 := hl a (by simp)
   have h2 := ih fun x hx => hl x (by simp [hx])
   simp only [List.sum_cons, List.length_cons, Nat.succ_mul]
   omega
 have h1 := g ((p.map fun s => min (AW s) c).take i) (by
  intro x hx
  obtain ⟨s, _, rfl⟩ := List.mem_map.1 (List.mem_of_mem_take hx)
  omega)
 have h2 : ((p.map fun s => min (AW s) c).take i).length ≤ 60 := by simp; omega
 exact Nat.le_trans h1 (Nat.mul_le_mul_right c h2)
theorem Rj (k o m : Int) (v : List Int) (p : List St) (h1 : k ≠ 1) (h2 : k ≠ 2) (h5 : k ≠ 5) (h12 : k ≠ 12) (h15 : k ≠ 15) (hp : p.length ≤ 60) (hx : ∀ x ∈ p, APure Tryz.prog 70 [encS x] (aI (min (AW x) 5001 : Nat))) : APure Tryz.prog 70 [encS (.mk k o m v p)] (aI (min (AW (.mk k o m v p)) 5001 : Nat)) := by
 have hb : min (AW (.mk k o m v p)) 5001 = min (p.map fun s => min (AW s) 5001).sum 5001 := by
  rw [AW, L4, FG, List.map_map]
  simp [CB, h1, h2, h5, h12, h15, Function.comp_def]
 have hcl := Uj 5001 p hp
 have hpl := Ai p
 rw [hb]
 rw [AF]
 
 refine A7 Tryz.func70 Mh rfl fun n H hH => ?_
 repeat' (first | (simp -implicitDefEqProofs [c70, E4, E7, E0, Dw, Dn, Dv, Dp, Du, Dl, c70, -getElem?_pos, h1, h2, h5, h12, h15]) | (simp (disch := omega) only [AA]) | (with_reducible first | refine A6 ?_ ?_ ?_ | exact AC | refine SameB.upd ?_ ?_ _ | assumption | refine A0 ?_ | refine KM.of ?_ | refine AB ?_ | refine A1 ?_ | refine A4 ?_ | intro _g _hg | refine AD ?_ ?_ | intro _hc) | omega)
 refine LoopK.go (fun r st => ∃ (j n1 : Nat) (H1 : A3), j + r = p.length ∧ st = ⟨[(3, aI (((p.map fun s => min (AW s) 5001).take j).sum : Nat)), (9, .sl 5 (AR p) .ro), (10, aI p.length), (11, aI j)], n1, H1⟩ ∧ n ≤ n1 ∧ SameB n H H1) p.length ⟨0, _, _, by omega, by simp [hpl]; exact ⟨rfl, rfl⟩, by omega, by intro q hq; simp only [upd]; (repeat' split) <;> first | rfl | omega⟩ ?_
 rintro r st ⟨j, n1, H1, hj, rfl, hn1, hsame⟩ J hJ
 by_cases hjl : j < p.length
 ·obtain ⟨x, hx'⟩ : ∃ x, p[j]? = some x := ⟨_, List.getElem?_eq_getElem hjl⟩
  have hb := hx x (List.mem_of_getElem? hx')
  have hxe := DX hx'
  have hxf := Ax x
  have hjl' : (j : Int) < p.length := by omega
  have hs := Lx (l := p.map fun s => min (AW s) 5001) (i := j) (x := min (AW x) 5001) (by rw [List.getElem?_map, hx']; rfl)
  have hc1 := hcl j
  generalize ((p.map fun s => min (AW s) 5001).take j).sum = a at *
  obtain ⟨b, hb'⟩ : ∃ b, min (AW x) 5001 = b := ⟨_, rfl⟩
  have hb5 : b ≤ 5001 := by omega
  rw [hb'] at hb hs
  obtain ⟨k', o', m', v', p'⟩ := x
  rw [AF] at hb hxe hxf
  generalize AR p = ep at *
  generalize AR p' = ep' at *
  generalize v'.map aI = ev' at *
  
  repeat' (first | (simp -implicitDefEqProofs [E4, E7, E0, Dw, Dn, Dv, Dp, Du, Dl, c70, -getElem?_pos, hjl', hxe, splice]) | (simp (disch := omega) only [AA]) | ((with_reducible refine Aa 70 ?_); refine' Am (hb) ?_) | (with_reducible first | refine A6 ?_ ?_ ?_ | exact AC | refine SameB.upd ?_ ?_ _ | assumption | refine A0 ?_ | refine KM.of ?_ | refine AB ?_ | refine A1 ?_ | refine A4 ?_ | intro _g _hg | refine AD ?_ ?_ | intro _hc) | omega)
  exact hJ (r - 1) _ (by omega) ⟨j + 1, _, _, by omega, by rw [hs]; rfl, by omega, by intro q hq; simp only [upd]; (repeat' split) <;> first | (exact hsame q hq) | omega⟩
 ·have hjl' : ¬ (j : Int) < p.length := by omega
  have hc1 := hcl j
  have e : (p.map fun s => min (AW s) 5001).take j = p.map fun s => min (AW s) 5001 := List.take_of_length_le (by simp; omega)
  rw [e] at hc1 ⊢
  generalize (p.map fun s => min (AW s) 5001).sum = a at *
  
  repeat' (first | (simp -implicitDefEqProofs [E4, E7, E0, Dw, Dn, Dv, Dp, Du, Dl, c70, -getElem?_pos, hjl', AM, AQ]) | (simp (disch := omega) only [AA]) | (with_reducible first | refine A6 ?_ ?_ ?_ | exact AC | refine SameB.upd ?_ ?_ _ | assumption | refine A0 ?_ | refine KM.of ?_ | refine AB ?_ | refine A1 ?_ | refine A4 ?_ | intro _g _hg | refine AD ?_ ?_ | intro _hc) | omega)
  all_goals first | omega | exact hsame | (refine BR ?_; grind)
theorem Io (k o m : Int) (v : List Int) (p : List St) (hk : k = 1 ∨ k = 2) (hb : APure Tryz.prog 36 [encS (.mk k o m v p)] (aI (AW (.mk k o m v p) : Nat))) : APure Tryz.prog 70 [encS (.mk k o m v p)] (aI (min (AW (.mk k o m v p)) 5001 : Nat)) := by
 generalize AW (.mk k o m v p) = b at *
 rw [AF] at hb ⊢
 generalize AR p = ep at *
 generalize v.map aI = ev at *
 rcases hk with rfl | rfl
 ·
  refine A7 Tryz.func70 Mh rfl fun n H hH => ?_
  repeat' (first | (simp -implicitDefEqProofs [E4, E7, E0, Dw, Dn, Dv, Dp, Du, Dl, c70, -getElem?_pos, AM, AQ]) | (simp (disch := omega) only [AA]) | ((with_reducible refine Aa 36 ?_); refine' Am (hb) ?_) | (with_reducible first | refine A6 ?_ ?_ ?_ | exact AC | refine SameB.upd ?_ ?_ _ | assumption | refine A0 ?_ | refine KM.of ?_ | refine AB ?_ | refine A1 ?_ | refine A4 ?_ | intro _g _hg | refine AD ?_ ?_ | intro _hc) | omega)
  all_goals first | omega | (refine BR ?_; grind)
 ·
  refine A7 Tryz.func70 Mh rfl fun n H hH => ?_
  repeat' (first | (simp -implicitDefEqProofs [E4, E7, E0, Dw, Dn, Dv, Dp, Du, Dl, c70, -getElem?_pos, AM, AQ]) | (simp (disch := omega) only [AA]) | ((with_reducible refine Aa 36 ?_); refine' Am (hb) ?_) | (with_reducible first | refine A6 ?_ ?_ ?_ | exact AC | refine SameB.upd ?_ ?_ _ | assumption | refine A0 ?_ | refine KM.of ?_ | refine AB ?_ | refine A1 ?_ | refine A4 ?_ | intro _g _hg | refine AD ?_ ?_ | intro _hc) | omega)
  all_goals first | omega | (refine BR ?_; grind)
theorem VL (s : St) : Cy s → HE s → Ab s ≤ 60 → APure Tryz.prog 70 [encS s] (aI (min (AW s) 5001 : Nat)) := by
 refine St.ind (Q := fun s => Cy s → HE s → Ab s ≤ 60 → APure Tryz.prog 70 [encS s] (aI (min (AW s) 5001 : Nat))) ?_ s
 intro k o m v p ih hf hok hsz
 obtain ⟨hv, hp, hpp⟩ := hf
 obtain ⟨hn, hop⟩ := hok
 have hN := C8 hn
 simp only [Ab] at hsz
 have hpl := Bz p
 have hx : ∀ x ∈ p, APure Tryz.prog 70 [encS x] (aI (min (AW x) 5001 : Nat)) := fun x hx => ih x hx (Cq hpp x hx) (De hop x hx) (by have := Dc x hx; omega)
 by_cases h1 : k = 1
 ·subst h1
  exact Io 1 o m v p (.inl rfl) (by rw [AW]; exact LB o m v p hv)
 by_cases h2 : k = 2
 ·subst h2
  exact Io 2 o m v p (.inr rfl) (by rw [AW]; exact Mc o m v p (hN.rng rfl) hN.vals)
 by_cases h5 : k = 5 ∨ k = 12
 ·obtain ⟨x, rfl⟩ := List.length_eq_one_iff.1 (hN.one (by omega) (by omega) (by omega) (by omega) (by omega) (by omega))
  refine SX k o m v x h5 ?_ (hx x (by simp))
  have hm := hN.num (by rcases h5 with rfl | rfl <;> rfl)
  rcases h5 with rfl | rfl <;> simp [J6, J7, D6] at hm <;> omega
 by_cases h15 : k = 15
 ·subst h15
  have h2 := hN.two (.inl rfl)
  match p, h2 with
  | [x, y], _ => exact Rk o m v x y (hx x (by simp)) (hx y (by simp))
 exact Rj k o m v p h1 h2 (fun e => h5 (.inl e)) (fun e => h5 (.inr e)) h15 (by omega) hx
theorem Ur {p : List St} {j q : Nat} {x : St} (h : p[j]? = some x) : (FN (p.drop j) q).2 = (if (E9 x q).2 < 0 then (FN (p.drop (j + 1)) (q + Ab x)).2 else (E9 x q).2) := by
 rw [drop_at h, FN, Lz]
theorem PF {p : List St} {j : Nat} {x : St} (h : p[j]? = some x) : Ak (p.drop j) = Ab x + Ak (p.drop (j + 1)) := by
 rw [drop_at h, Ak]
theorem YR (s : St) : Cy s → HE s → Ab s ≤ 60 → ∀ i : Nat, i + Ab s ≤ 100 → APure Tryz.prog 41 [encS s, aI i] (.tup [aI (E9 s i).2, aI (Ab s : Nat)]) := by
 refine St.ind (Q := fun s => Cy s → HE s → Ab s ≤ 60 → ∀ i : Nat, i + Ab s ≤ 100 → APure Tryz.prog 41 [encS s, aI i] (.tup [aI (E9 s i).2, aI (Ab s : Nat)])) ?_ s
 intro k o m v p ih hf hok hsz i hi
 have hbd := VL (.mk k o m v p) hf hok hsz
 obtain ⟨hv, hp, hpp⟩ := hf
 obtain ⟨hn, hop⟩ := hok
 simp only [Ab] at hsz hi
 rw [E9, Ab]
 generalize AW (.mk k o m v p) = B at *
 rw [AF] at hbd ⊢
 have hpl := Ai p
 
 refine A7 Tryz.func41 A2d rfl fun n H hH => ?_
 repeat' (first | (simp -implicitDefEqProofs [c41, G3, Ft, Fm, G7, Fo, GA, c41, -getElem?_pos]) | (simp (disch := omega) only [AA]) | (with_reducible first | refine A6 ?_ ?_ ?_ | exact AC | refine SameB.upd ?_ ?_ _ | assumption | refine A0 ?_ | refine KM.of ?_ | refine AB ?_ | refine A1 ?_ | refine A4 ?_ | intro _g _hg | refine AD ?_ ?_ | intro _hc) | omega)
 refine LoopK.go (fun r st => ∃ (j c n1 : Nat) (w : Int) (H1 : A3), j + r = p.length ∧ st = ⟨[(1, aI i), (2, .ptr _g 0), (4, aI w), (5, aI c), (11, .sl 5 (AR p) .ro), (12, aI p.length), (13, aI j)], n1, H1⟩ ∧ _g < n1 ∧ 1 ≤ c ∧ c + Ak (p.drop j) = Ak p + 1 ∧ -1 ≤ w ∧ (FN p (i + 1)).2 = (if w < 0 then (FN (p.drop j) (i + c)).2 else w) ∧ SameB n H H1 ∧ H1 _g = some (.cells 25 [aI k, aI o, aI m, .sl 1 (v.map aI) .ro, .sl 5 (AR p) .ro])) p.length ?_ ?_
 ·exact ⟨0, 1, _, -1, _, by omega, by rw [hpl]; rfl, by omega, by omega, by simp; omega, by omega, by simp, by intro q hq; simp only [upd]; (repeat' split) <;> first | rfl | omega, by simp (disch := omega) only [upd_ne, AX]⟩
 rintro r st ⟨j, c, n1, w, H1, hj, rfl, hn1, hc1, hcs, hw, hE, hsame, q1⟩ J hJ
 by_cases hjl : j < p.length
 ·obtain ⟨x, hx'⟩ : ∃ x, p[j]? = some x := ⟨_, List.getElem?_eq_getElem hjl⟩
  have hxm := List.mem_of_getElem? hx'
  have hsm := Dc x hxm
  rw [PF hx'] at hcs
  have hst := ih x hxm (Cq hpp x hxm) (De hop x hxm) (by omega) (i + c) (by omega)
  have hxe := DX hx'
  have hxf := Ax x
  have hjl' : (j : Int) < p.length := by omega
  have hwx := (IE x (i + c)).1
  rw [Ur hx'] at hE
  rw [show ((i + c : Nat) : Int) = i + c from Int.natCast_add _ _] at hst
  generalize (E9 x (i + c)).2 = wx at *
  generalize hsx : Ab x = sx at *
  obtain ⟨k', o', m', v', p'⟩ := x
  rw [AF] at hst hxe hxf
  generalize AR p = ep at *
  generalize AR p' = ep' at *
  generalize v'.map aI = ev' at *
  by_cases hw0 : w < 0
  ·rw [if_pos hw0] at hE
   
   repeat' (first | (simp -implicitDefEqProofs [G3, Ft, Fm, G7, Fo, GA, c41, -getElem?_pos, hjl', hxe, hw0, splice]) | (simp (disch := omega) only [AA]) | ((with_reducible refine Aa 41 ?_); refine' Am (hst) ?_) | (with_reducible first | refine A6 ?_ ?_ ?_ | exact AC | refine SameB.upd ?_ ?_ _ | assumption | refine A0 ?_ | refine KM.of ?_ | refine AB ?_ | refine A1 ?_ | refine A4 ?_ | intro _g _hg | refine AD ?_ ?_ | intro _hc) | omega)
   exact hJ (r - 1) _ (by omega) ⟨j + 1, c + sx, _, wx, _, by omega, rfl, by omega, by omega, by omega, hwx, by rw [hE, Nat.add_assoc], by intro q hq; simp only [upd]; (repeat' split) <;> first | (exact hsame q hq) | omega, by simp (disch := omega) only [upd_ne]; exact q1⟩
  ·rw [if_neg hw0] at hE
   
   repeat' (first | (simp -implicitDefEqProofs [G3, Ft, Fm, G7, Fo, GA, c41, -getElem?_pos, hjl', hxe, hw0, splice]) | (simp (disch := omega) only [AA]) | ((with_reducible refine Aa 41 ?_); refine' Am (hst) ?_) | (with_reducible first | refine A6 ?_ ?_ ?_ | exact AC | refine SameB.upd ?_ ?_ _ | assumption | refine A0 ?_ | refine KM.of ?_ | refine AB ?_ | refine A1 ?_ | refine A4 ?_ | intro _g _hg | refine AD ?_ ?_ | intro _hc) | omega)
   exact hJ (r - 1) _ (by omega) ⟨j + 1, c + sx, _, w, _, by omega, rfl, by omega, by omega, by omega, hw, by rw [hE, if_neg hw0], by intro q hq; simp only [upd]; (repeat' split) <;> first | (exact hsame q hq) | omega, by simp (disch := omega) only [upd_ne]; exact q1⟩
 ·have hjl' : ¬ (j : Int) < p.length := by omega
  rw [List.drop_eq_nil_of_le (by omega), Ak] at hcs
  rw [List.drop_eq_nil_of_le (by omega), FN] at hE
  have hE' : (FN p (i + 1)).2 = w := by rw [hE]; split <;> omega
  rw [hE']
  by_cases hB : 5000 < B
  ·rw [if_pos hB]
   have hB' : min B 5001 = 5001 := by omega
   rw [hB'] at hbd
   
   repeat' (first | (simp -implicitDefEqProofs [G3, Ft, Fm, G7, Fo, GA, c41, -getElem?_pos, hjl', q1, AM, AQ]) | (simp (disch := omega) only [AA]) | ((with_reducible refine Aa 70 ?_); refine' Am (hbd) ?_) | (with_reducible first | refine A6 ?_ ?_ ?_ | exact AC | refine SameB.upd ?_ ?_ _ | assumption | refine A0 ?_ | refine KM.of ?_ | refine AB ?_ | refine A1 ?_ | refine A4 ?_ | intro _g _hg | refine AD ?_ ?_ | intro _hc) | omega)
   all_goals first | omega | exact hsame | (refine BR ?_; grind)
  ·rw [if_neg hB]
   have hB' : min B 5001 = B := by omega
   have hB2 : ¬ (5000 : Int) < B := by omega
   rw [hB'] at hbd
   
   repeat' (first | (simp -implicitDefEqProofs [G3, Ft, Fm, G7, Fo, GA, c41, -getElem?_pos, hjl', q1, hB2, AM, AQ]) | (simp (disch := omega) only [AA]) | ((with_reducible refine Aa 70 ?_); refine' Am (hbd) ?_) | (with_reducible first | refine A6 ?_ ?_ ?_ | exact AC | refine SameB.upd ?_ ?_ _ | assumption | refine A0 ?_ | refine KM.of ?_ | refine AB ?_ | refine A1 ?_ | refine A4 ?_ | intro _g _hg | refine AD ?_ ?_ | intro _hc) | omega)
   all_goals first | omega | exact hsame | (refine BR ?_; grind)
mutual
theorem Si : ∀ (s : St) (i : Nat), HE s → i + Ab s ≤ 60 → Dd s i = (i + Ab s, 0)
 | .mk k o n v p, i, ⟨h1, h2⟩, h3 => by
  simp only [Ab] at h3 ⊢
  rw [Dd, if_neg (by omega), if_neg (by simpa using h1), Mi p (i + 1) h2 (by omega)]
  exact Prod.ext (by simp only []; omega) rfl
theorem Mi : ∀ (p : List St) (i : Nat), TS p → i + Ak p ≤ 60 → HG p i = (i + Ak p, 0)
 | [], i, _, _ => rfl
 | s :: r, i, ⟨h1, h2⟩, h3 => by
  simp only [Ak] at h3 ⊢
  have h4 := Si s i h1 (by omega)
  rw [HG, h4, if_neg (by simp), Mi r (i + Ab s) h2 (by omega)]
  exact Prod.ext (by simp only []; omega) rfl
end
theorem KI {s : St} (h1 : HE s) (h2 : Ks s) (h3 : Ab s ≤ 60) : Eg s = (0, 0) := by
 unfold Eg
 rw [Si s 0 h1 (by omega), if_neg (by simp), if_neg (by have := (IE s 0).2.2 h2; omega)]
theorem ID (s : St) (hf : Cy s) : APure Tryz.prog 15 [encS s] (aF (Eg s)) := by
 have hvis := Yi s hf 0 (by omega)
 have hlg : (Dd s 0).2 = 0 → APure Tryz.prog 41 [encS s, aI 0] (.tup [aI (E9 s 0).2, aI (Ab s : Nat)]) := fun h => by
  obtain ⟨h1, h2, h3⟩ := Jp s 0 h
  exact YR s hf h1 (by omega) 0 (by omega)
 have hw := (IE s 0).1
 unfold Eg
 unfold Ph at hvis
 unfold Oo OK at hvis
 generalize Dd s 0 = sg at *
 generalize E9 s 0 = wd at *
 generalize Ab s = sz at *
 obtain ⟨k, o, m, v, p⟩ := s
 rw [AF] at *
 generalize v.map aI = va at *
 generalize AR p = ep at *
 
 refine A7 Tryz.func15 A2s rfl fun n H hH => ?_
 by_cases h0 : sg.2 = 0
 ·have hlg := hlg h0
  rw [if_neg (by simpa using h0)] at *
  rw [if_neg (by simpa using h0)] at hvis
  repeat' (first | (simp -implicitDefEqProofs [Me, Mu, c15, -getElem?_pos, splice, AM, AQ]) | (simp (disch := omega) only [AA]) | ((with_reducible refine Ap 39 ?_); refine ⟨_, SB _ _, ?_⟩; rintro r n' H' hle hsup ⟨gm, rfl, hg1, rfl, rfl⟩; dsimp only at hg1 hle) | ((with_reducible refine Ap 40 ?_); (refine' CallK.sfU ?_ ((hvis _g gm _ _ (by simp (disch := omega) only [upd_ne, AX] <;> rfl) (by simp (disch := omega) only [upd_ne, AX] <;> rfl))) ?_); (focus first | (with_reducible exact A2 _) | (simp [AQ, AM, A5, A2]; done))) | ((with_reducible refine Aa 41 ?_); refine' Am (hlg) ?_) | (with_reducible first | refine A6 ?_ ?_ ?_ | exact AC | refine SameB.upd ?_ ?_ _ | assumption | refine A0 ?_ | refine KM.of ?_ | refine AB ?_ | refine A1 ?_ | refine A4 ?_ | intro _g _hg | refine AD ?_ ?_ | intro _hc) | omega)
 ·rw [if_pos h0] at *
  rw [if_pos h0] at hvis
  repeat' (first | (simp -implicitDefEqProofs [Me, Mu, c15, -getElem?_pos, h0, splice, AM, AQ]) | (simp (disch := omega) only [AA]) | ((with_reducible refine Ap 39 ?_); refine ⟨_, SB _ _, ?_⟩; rintro r n' H' hle hsup ⟨gm, rfl, hg1, rfl, rfl⟩; dsimp only at hg1 hle) | ((with_reducible refine Ap 40 ?_); (refine' CallK.sfU ?_ ((hvis _g gm _ _ (by simp (disch := omega) only [upd_ne, AX] <;> rfl) (by simp (disch := omega) only [upd_ne, AX] <;> rfl))) ?_); (focus first | (with_reducible exact A2 _) | (simp [AQ, AM, A5, A2]; done))) | (with_reducible first | refine A6 ?_ ?_ ?_ | exact AC | refine SameB.upd ?_ ?_ _ | assumption | refine A0 ?_ | refine KM.of ?_ | refine AB ?_ | refine A1 ?_ | refine A4 ?_ | intro _g _hg | refine AD ?_ ?_ | intro _hc) | omega)
theorem W8 (k o m : Int) (v : List Int) (x : St) (hk : k = 5 ∨ k = 12) (hm : 0 ≤ m ∧ m ≤ 5000) (hb : AW x ≤ 5000) (hx : APure Tryz.prog 36 [encS x] (aI (AW x : Nat))) : APure Tryz.prog 36 [encS (.mk k o m v [x])] (aI (AW (.mk k o m v [x]) : Nat)) := by
 have hxf := Ax x
 have hbb : AW (.mk k o m v [x]) = CB k m v [AW x] := by rw [AW]; rfl
 rw [hbb]
 generalize AW x = b at *
 obtain ⟨m', rfl⟩ : ∃ m' : Nat, m = m' := ⟨m.toNat, by omega⟩
 rw [AF, AR, AR]
 generalize encS x = ex at *
 rcases hk with rfl | rfl
 ·have hz : CB 5 m' v [b] = min m' b := by simp [CB]
  rw [hz]
  
  refine A7 Tryz.func36 NC rfl fun n H hH => ?_
  repeat' (first | (simp -implicitDefEqProofs [Dt, Dy, Dm, Ds, Dk, E5, Dx, Dj, Dq, c36, -getElem?_pos, hxf, -AV.fits, AM, AQ]) | (simp (disch := omega) only [AA]) | ((with_reducible refine Aa 36 ?_); (refine' CallP.sf ?_ (hx) ?_); (focus first | (with_reducible exact A2 _) | (simp [AQ, AM, A5, A2]; done))) | (with_reducible first | refine A6 ?_ ?_ ?_ | exact AC | refine SameB.upd ?_ ?_ _ | assumption | refine A0 ?_ | refine KM.of ?_ | refine AB ?_ | refine A1 ?_ | refine A4 ?_ | intro _g _hg | refine AD ?_ ?_ | intro _hc) | omega)
  all_goals first | omega | (refine BR ?_; grind)
 ·have hz : CB 12 m' v [b] = m' * b := by simp [CB]
  rw [hz]
  have hmb : m' * b ≤ 5000 * 5001 := Nat.mul_le_mul (by omega) (by omega)
  have hmc : ((m' * b : Nat) : Int) = (m' : Int) * b := Int.natCast_mul _ _
  have hw : IntKind.i64.wrap ((m' : Int) * b) = ((m' * b : Nat) : Int) := by rw [← hmc, IntWalk.i64_in _ (by omega)]
  
  refine A7 Tryz.func36 NC rfl fun n H hH => ?_
  repeat' (first | (simp -implicitDefEqProofs [Dt, Dy, Dm, Ds, Dk, E5, Dx, Dj, Dq, c36, -getElem?_pos, hxf, hw, -AV.fits, AM, AQ]) | (simp (disch := omega) only [AA]) | ((with_reducible refine Aa 36 ?_); (refine' CallP.sf ?_ (hx) ?_); (focus first | (with_reducible exact A2 _) | (simp [AQ, AM, A5, A2]; done))) | (with_reducible first | refine A6 ?_ ?_ ?_ | exact AC | refine SameB.upd ?_ ?_ _ | assumption | refine A0 ?_ | refine KM.of ?_ | refine AB ?_ | refine A1 ?_ | refine A4 ?_ | intro _g _hg | refine AD ?_ ?_ | intro _hc) | omega)
  all_goals first | omega | (refine BR ?_; grind)
theorem VN (o m : Int) (v : List Int) (x y : St) (hx : APure Tryz.prog 36 [encS x] (aI (AW x : Nat))) (hy : APure Tryz.prog 36 [encS y] (aI (AW y : Nat))) : APure Tryz.prog 36 [encS (.mk 15 o m v [x, y])] (aI (AW (.mk 15 o m v [x, y]) : Nat)) := by
 have hxf := Ax x
 have hyf := Ax y
 have hbb : AW (.mk 15 o m v [x, y]) = min (AW x) (AW y) := by simp [AW, DK, CB]
 rw [hbb]
 generalize AW x = b at *
 generalize AW y = c at *
 rw [AF, AR, AR, AR]
 generalize encS x = ex at *
 generalize encS y = ey at *
 
 refine A7 Tryz.func36 NC rfl fun n H hH => ?_
 repeat' (first | (simp -implicitDefEqProofs [Dt, Dy, Dm, Ds, Dk, E5, Dx, Dj, Dq, c36, -getElem?_pos, hxf, hyf, -AV.fits, AM, AQ]) | (simp (disch := omega) only [AA]) | ((with_reducible refine Aa 36 ?_); (refine' CallP.sf ?_ (hx) ?_); (focus first | (with_reducible exact A2 _) | (simp [AQ, AM, A5, A2]; done))) | ((with_reducible refine Aa 36 ?_); (refine' CallP.sf ?_ (hy) ?_); (focus first | (with_reducible exact A2 _) | (simp [AQ, AM, A5, A2]; done))) | (with_reducible first | refine A6 ?_ ?_ ?_ | exact AC | refine SameB.upd ?_ ?_ _ | assumption | refine A0 ?_ | refine KM.of ?_ | refine AB ?_ | refine A1 ?_ | refine A4 ?_ | intro _g _hg | refine AD ?_ ?_ | intro _hc) | omega)
 all_goals first | omega | (refine BR ?_; grind)
theorem W6 (k o m : Int) (v : List Int) (p : List St) (h1 : k ≠ 1) (h2 : k ≠ 2) (h5 : k ≠ 5) (h12 : k ≠ 12) (h15 : k ≠ 15) (hp : p.length ≤ 60) (hbs : ∀ x ∈ p, AW x ≤ 5000) (hx : ∀ x ∈ p, APure Tryz.prog 36 [encS x] (aI (AW x : Nat))) : APure Tryz.prog 36 [encS (.mk k o m v p)] (aI (AW (.mk k o m v p) : Nat)) := by
 have hb : AW (.mk k o m v p) = (p.map AW).sum := by
  rw [AW, FG]
  simp [CB, h1, h2, h5, h12, h15]
 have hcl : ∀ i, ((p.map AW).take i).sum ≤ 300000 := by
  intro i
  have g : ∀ l : List Nat, (∀ x ∈ l, x ≤ 5000) → l.sum ≤ l.length * 5000 := by
   intro l hl
   induction l with
   | nil => simp
   | cons a r ih =>
    have h1 := hl a (by simp)
    have h2 := ih fun x hx => hl x (by simp [hx])
    simp only [List.sum_cons, List.length_cons, Nat.succ_mul]
    omega
  have h1 := g ((p.map AW).take i) (by
   intro x hx
   obtain ⟨s, hs, rfl⟩ := List.mem_map.1 (List.mem_of_mem_take hx)
   exact hbs s hs)
  have h2 : ((p.map AW).take i).length ≤ 60 := by simp; omega
  omega
 have hpl := Ai p
 rw [hb]
 rw [AF]
 
 refine A7 Tryz.func36 NC rfl fun n H hH => ?_
 repeat' (first | (simp -implicitDefEqProofs [c36, Dt, Dy, Dm, Ds, Dk, E5, Dx, Dj, Dq, c36, -getElem?_pos, h1, h2, h5, h12, h15]) | (simp (disch := omega) only [AA]) | (with_reducible first | refine A6 ?_ ?_ ?_ | exact AC | refine SameB.upd ?_ ?_ _ | assumption | refine A0 ?_ | refine KM.of ?_ | refine AB ?_ | refine A1 ?_ | refine A4 ?_ | intro _g _hg | refine AD ?_ ?_ | intro _hc) | omega)
 refine LoopK.go (fun r st => ∃ (j n1 : Nat) (H1 : A3), j + r = p.length ∧ st = ⟨[(3, aI (((p.map AW).take j).sum : Nat)), (70, .sl 5 (AR p) .ro), (71, aI p.length), (72, aI j)], n1, H1⟩ ∧ n ≤ n1 ∧ SameB n H H1) p.length ⟨0, _, _, by omega, by simp [hpl]; exact ⟨rfl, rfl⟩, by omega, by intro q hq; simp only [upd]; (repeat' split) <;> first | rfl | omega⟩ ?_
 rintro r st ⟨j, n1, H1, hj, rfl, hn1, hsame⟩ J hJ
 by_cases hjl : j < p.length
 ·obtain ⟨x, hx'⟩ : ∃ x, p[j]? = some x := ⟨_, List.getElem?_eq_getElem hjl⟩
  have hb := hx x (List.mem_of_getElem? hx')
  have hbx := hbs x (List.mem_of_getElem? hx')
  have hxe := DX hx'
  have hxf := Ax x
  have hjl' : (j : Int) < p.length := by omega
  have hs := Lx (l := p.map AW) (i := j) (x := AW x) (by rw [List.getElem?_map, hx']; rfl)
  have hc1 := hcl j
  generalize ((p.map AW).take j).sum = a at *
  generalize AW x = b at *
  obtain ⟨k', o', m', v', p'⟩ := x
  rw [AF] at hb hxe hxf
  generalize AR p = ep at *
  generalize AR p' = ep' at *
  generalize v'.map aI = ev' at *
  
  repeat' (first | (simp -implicitDefEqProofs [Dt, Dy, Dm, Ds, Dk, E5, Dx, Dj, Dq, c36, -getElem?_pos, hjl', hxe, splice]) | (simp (disch := omega) only [AA]) | ((with_reducible refine Aa 36 ?_); (refine' CallP.sf ?_ (hb) ?_); (focus first | (with_reducible exact A2 _) | (simp [AQ, AM, A5, A2]; done))) | (with_reducible first | refine A6 ?_ ?_ ?_ | exact AC | refine SameB.upd ?_ ?_ _ | assumption | refine A0 ?_ | refine KM.of ?_ | refine AB ?_ | refine A1 ?_ | refine A4 ?_ | intro _g _hg | refine AD ?_ ?_ | intro _hc) | omega)
  exact hJ (r - 1) _ (by omega) ⟨j + 1, _, _, by omega, by rw [hs]; rfl, by omega, by intro q hq; simp only [upd]; (repeat' split) <;> first | (exact hsame q hq) | omega⟩
 ·have hjl' : ¬ (j : Int) < p.length := by omega
  have e : (p.map AW).take j = p.map AW := List.take_of_length_le (by simp; omega)
  rw [e]
  generalize (p.map AW).sum = a at *
  
  repeat' (first | (simp -implicitDefEqProofs [Dt, Dy, Dm, Ds, Dk, E5, Dx, Dj, Dq, c36, -getElem?_pos, hjl', AM, AQ]) | (simp (disch := omega) only [AA]) | (with_reducible first | refine A6 ?_ ?_ ?_ | exact AC | refine SameB.upd ?_ ?_ _ | assumption | refine A0 ?_ | refine KM.of ?_ | refine AB ?_ | refine A1 ?_ | refine A4 ?_ | intro _g _hg | refine AD ?_ ?_ | intro _hc) | omega)
  all_goals first | omega | exact hsame | (refine BR ?_; grind)
theorem Z5 (s : St) : Cy s → HE s → Ks s → Ab s ≤ 60 → APure Tryz.prog 36 [encS s] (aI (AW s : Nat)) := by
 refine St.ind (Q := fun s => Cy s → HE s → Ks s → Ab s ≤ 60 → APure Tryz.prog 36 [encS s] (aI (AW s : Nat))) ?_ s
 intro k o m v p ih hf hok hsm hsz
 obtain ⟨hv, hp, hpp⟩ := hf
 obtain ⟨hn, hop⟩ := hok
 have hN := C8 hn
 simp only [Ab] at hsz
 have hpl := Bz p
 have hbs : ∀ x ∈ p, AW x ≤ 5000 := fun x hx => by have := Gf hsm.2 x hx; cases x; exact this.1
 have hx : ∀ x ∈ p, APure Tryz.prog 36 [encS x] (aI (AW x : Nat)) := fun x hx => ih x hx (Cq hpp x hx) (De hop x hx) (Gf hsm.2 x hx) (by have := Dc x hx; omega)
 by_cases h1 : k = 1
 ·subst h1
  rw [AW]; exact LB o m v p hv
 by_cases h2 : k = 2
 ·subst h2
  rw [AW]; exact Mc o m v p (hN.rng rfl) hN.vals
 by_cases h5 : k = 5 ∨ k = 12
 ·obtain ⟨x, rfl⟩ := List.length_eq_one_iff.1 (hN.one (by omega) (by omega) (by omega) (by omega) (by omega) (by omega))
  refine W8 k o m v x h5 ?_ (hbs x (by simp)) (hx x (by simp))
  have hm := hN.num (by rcases h5 with rfl | rfl <;> rfl)
  rcases h5 with rfl | rfl <;> simp [J6, J7, D6] at hm <;> omega
 by_cases h15 : k = 15
 ·subst h15
  have h2 := hN.two (.inl rfl)
  match p, h2 with
  | [x, y], _ => exact VN o m v x y (hx x (by simp)) (hx y (by simp))
 exact W6 k o m v p h1 h2 (fun e => h5 (.inl e)) (fun e => h5 (.inr e)) h15 (by omega) hbs hx
abbrev FH (s : St) : Prop := APure Tryz.prog 17 [encS s] (aI (min (AW s) 100000 : Nat))
theorem Vx (o m : Int) (v : List Int) (p : List St) (hv : v.length ≤ 140737488355328) : FH (.mk 1 o m v p) := by
 unfold FH
 have hb : AW (.mk 1 o m v p) = v.length := by simp [AW, CB]
 rw [hb]
 have hvl : (v.map aI).length = v.length := by simp
 rw [AF]
 generalize v.map aI = va at *
 by_cases h : 100000 < v.length
 ·have h' : (100000 : Int) < v.length := by omega
  have e : min v.length 100000 = 100000 := by omega
  rw [e]
  
  refine A7 Tryz.func17 Md rfl fun n H hH => ?_
  repeat' (first | (simp -implicitDefEqProofs [BY, BZ, Bg, BX, Bb, Bc, Bi, Be, Bk, BA, B9, B6, BB, B8, BC, c17, -getElem?_pos, hvl, h, h', AM, AQ]) | (simp (disch := omega) only [AA]) | (with_reducible first | refine A6 ?_ ?_ ?_ | exact AC | refine SameB.upd ?_ ?_ _ | assumption | refine A0 ?_ | refine KM.of ?_ | refine AB ?_ | refine A1 ?_ | refine A4 ?_ | intro _g _hg | refine AD ?_ ?_ | intro _hc) | omega)
 ·have h' : ¬ (100000 : Int) < v.length := by omega
  have e : min v.length 100000 = v.length := by omega
  rw [e]
  
  refine A7 Tryz.func17 Md rfl fun n H hH => ?_
  repeat' (first | (simp -implicitDefEqProofs [BY, BZ, Bg, BX, Bb, Bc, Bi, Be, Bk, BA, B9, B6, BB, B8, BC, c17, -getElem?_pos, hvl, h, h', AM, AQ]) | (simp (disch := omega) only [AA]) | (with_reducible first | refine A6 ?_ ?_ ?_ | exact AC | refine SameB.upd ?_ ?_ _ | assumption | refine A0 ?_ | refine KM.of ?_ | refine AB ?_ | refine A1 ?_ | refine A4 ?_ | intro _g _hg | refine AD ?_ ?_ | intro _hc) | omega)
theorem Xe (o m a b c : Int) (p : List St) (hv : 0 ≤ a ∧ a ≤ 9999 ∧ 0 ≤ b ∧ b ≤ 10000 ∧ 1 ≤ c ∧ c ≤ 9999) : FH (.mk 2 o m [a, b, c] p) := by
 unfold FH
 have hb : AW (.mk 2 o m [a, b, c] p) = G4 [a, b, c] := by simp [AW, CB]
 have hbd := OO hv
 rw [hb]
 have e : min (G4 [a, b, c]) 100000 = G4 [a, b, c] := by omega
 rw [e]
 rw [AF]
 generalize AR p = ep
 
 refine A7 Tryz.func17 Md rfl fun n H hH => ?_
 repeat' (first | (simp -implicitDefEqProofs [c17, BY, BZ, Bg, BX, Bb, Bc, Bi, Be, Bk, BA, B9, B6, BB, B8, BC, c17, -getElem?_pos]) | (simp (disch := omega) only [AA]) | (with_reducible first | refine A6 ?_ ?_ ?_ | exact AC | refine SameB.upd ?_ ?_ _ | assumption | refine A0 ?_ | refine KM.of ?_ | refine AB ?_ | refine A1 ?_ | refine A4 ?_ | intro _g _hg | refine AD ?_ ?_ | intro _hc) | omega)
 refine LoopK.go (fun r st => ∃ (j n1 : Nat) (H1 : A3), j + r = G4 [a, b, c] ∧ st = ⟨[(1, .ptr _g 0), (3, aI j), (4, aI (a + (j : Int) * c))], n1, H1⟩ ∧ _g < n1 ∧ SameB n H H1 ∧ H1 _g = some (BH 2 o m (.sl 1 [aI a, aI b, aI c] .ro) (.sl 5 ep .ro))) (G4 [a, b, c]) ⟨0, _, _, by omega, by simp; exact ⟨rfl, rfl⟩, by omega, by intro q hq; simp only [upd]; (repeat' split) <;> first | rfl | omega, AX _ _ _⟩ ?_
 rintro r st ⟨j, n1, H1, hj, rfl, hn1, hsame, q1⟩ J hJ
 by_cases hjl : j < G4 [a, b, c]
 ·have hlt := (QX (a := a) (b := b) hv.2.2.2.2.1 j).2 hjl
  have hw : IntKind.i64.wrap (a + (j : Int) * c + c) = a + ((j + 1 : Nat) : Int) * c := by
   have h0 : 0 ≤ (j : Int) * c := Int.mul_nonneg (by omega) (by omega)
   have e : ((j + 1 : Nat) : Int) * c = (j : Int) * c + c := by rw [Int.natCast_add, Int.add_mul]; simp
   rw [IntWalk.i64_in _ (by omega), e]; omega
  have hw2 : IntKind.i64.wrap ((j : Int) + 1) = ((j + 1 : Nat) : Int) := by rw [IntWalk.i64_in _ (by omega)]; omega
  generalize hx1 : a + ((j + 1 : Nat) : Int) * c = x1 at *
  generalize a + (j : Int) * c = x at *
  generalize hj1 : ((j + 1 : Nat) : Int) = j1 at *
  
  repeat' (first | (simp -implicitDefEqProofs [BY, BZ, Bg, BX, Bb, Bc, Bi, Be, Bk, BA, B9, B6, BB, B8, BC, c17, -getElem?_pos, q1, hlt, hw, hw2, splice]) | (simp (disch := omega) only [AA]) | (with_reducible first | refine A6 ?_ ?_ ?_ | exact AC | refine SameB.upd ?_ ?_ _ | assumption | refine A0 ?_ | refine KM.of ?_ | refine AB ?_ | refine A1 ?_ | refine A4 ?_ | intro _g _hg | refine AD ?_ ?_ | intro _hc) | omega)
  exact hJ (r - 1) _ (by omega) ⟨j + 1, _, _, by omega, by rw [hj1, hx1], hn1, hsame, q1⟩
 ·have hlt : ¬ a + (j : Int) * c < b := fun h => hjl ((QX hv.2.2.2.2.1 j).1 h)
  have ej : j = G4 [a, b, c] := by omega
  have hfar : ¬ (100000 : Int) < j := by omega
  rw [← ej]
  generalize a + (j : Int) * c = x at *
  
  repeat' (first | (simp -implicitDefEqProofs [BY, BZ, Bg, BX, Bb, Bc, Bi, Be, Bk, BA, B9, B6, BB, B8, BC, c17, -getElem?_pos, q1, hlt, hfar, AM, AQ]) | (simp (disch := omega) only [AA]) | (with_reducible first | refine A6 ?_ ?_ ?_ | exact AC | refine SameB.upd ?_ ?_ _ | assumption | refine A0 ?_ | refine KM.of ?_ | refine AB ?_ | refine A1 ?_ | refine A4 ?_ | intro _g _hg | refine AD ?_ ?_ | intro _hc) | omega)
  all_goals first | exact hsame | omega
theorem XQ (o m : Int) (v : List Int) (x y : St) (hx : FH x) (hy : FH y) : FH (.mk 15 o m v [x, y]) := by
 unfold FH at *
 have hxf := Ax x
 have hyf := Ax y
 have hb : min (AW (.mk 15 o m v [x, y])) 100000 = min (min (AW x) 100000) (min (AW y) 100000) := by
  simp [AW, DK, CB]; omega
 rw [hb]
 obtain ⟨b, hb'⟩ : ∃ b, min (AW x) 100000 = b := ⟨_, rfl⟩
 obtain ⟨c, hc'⟩ : ∃ c, min (AW y) 100000 = c := ⟨_, rfl⟩
 have hb5 : b ≤ 100000 := by omega
 have hc5 : c ≤ 100000 := by omega
 rw [hb'] at hx ⊢
 rw [hc'] at hy ⊢
 rw [AF, AR, AR, AR]
 generalize encS x = ex at *
 generalize encS y = ey at *
 by_cases h : c < b
 ·have h' : (c : Int) < b := by omega
  have e : min b c = c := by omega
  have hf : ¬ (100000 : Int) < c := by omega
  rw [e]
  
  refine A7 Tryz.func17 Md rfl fun n H hH => ?_
  repeat' (first | (simp -implicitDefEqProofs [BY, BZ, Bg, BX, Bb, Bc, Bi, Be, Bk, BA, B9, B6, BB, B8, BC, c17, -getElem?_pos, hxf, hyf, h, h', hf, -AV.fits, AM, AQ]) | (simp (disch := omega) only [AA]) | ((with_reducible refine Aa 17 ?_); (refine' CallP.sf ?_ (hx) ?_); (focus first | (with_reducible exact A2 _) | (simp [AQ, AM, A5, A2]; done))) | ((with_reducible refine Aa 17 ?_); (refine' CallP.sf ?_ (hy) ?_); (focus first | (with_reducible exact A2 _) | (simp [AQ, AM, A5, A2]; done))) | (with_reducible first | refine A6 ?_ ?_ ?_ | exact AC | refine SameB.upd ?_ ?_ _ | assumption | refine A0 ?_ | refine KM.of ?_ | refine AB ?_ | refine A1 ?_ | refine A4 ?_ | intro _g _hg | refine AD ?_ ?_ | intro _hc) | omega)
  all_goals omega
 ·have h' : ¬ (c : Int) < b := by omega
  have e : min b c = b := by omega
  have hf : ¬ (100000 : Int) < b := by omega
  rw [e]
  
  refine A7 Tryz.func17 Md rfl fun n H hH => ?_
  repeat' (first | (simp -implicitDefEqProofs [BY, BZ, Bg, BX, Bb, Bc, Bi, Be, Bk, BA, B9, B6, BB, B8, BC, c17, -getElem?_pos, hxf, hyf, h, h', hf, -AV.fits, AM, AQ]) | (simp (disch := omega) only [AA]) | ((with_reducible refine Aa 17 ?_); (refine' CallP.sf ?_ (hx) ?_); (focus first | (with_reducible exact A2 _) | (simp [AQ, AM, A5, A2]; done))) | ((with_reducible refine Aa 17 ?_); (refine' CallP.sf ?_ (hy) ?_); (focus first | (with_reducible exact A2 _) | (simp [AQ, AM, A5, A2]; done))) | (with_reducible first | refine A6 ?_ ?_ ?_ | exact AC | refine SameB.upd ?_ ?_ _ | assumption | refine A0 ?_ | refine KM.of ?_ | refine AB ?_ | refine A1 ?_ | refine A4 ?_ | intro _g _hg | refine AD ?_ ?_ | intro _hc) | omega)
  all_goals omega
theorem Zb {k o m : Int} {v : List Int} {p : List St} (h1 : k ≠ 1) (h2 : k ≠ 2) (h15 : k ≠ 15) (hl : k = 5 ∨ k = 12 → p.length = 1) : min (AW (.mk k o m v p)) 100000 = min (if k = 12 then m.toNat * (p.map fun s => min (AW s) 100000).sum else if k = 5 then min m.toNat (p.map fun s => min (AW s) 100000).sum else (p.map fun s => min (AW s) 100000).sum) 100000 := by
 rw [AW, L4, FG, List.map_map]
 have e : ((min · 100000) ∘ AW : St → Nat) = fun s => min (AW s) 100000 := rfl
 rw [e]
 by_cases h12 : k = 12
 ·subst h12
  obtain ⟨x, rfl⟩ := List.length_eq_one_iff.1 (hl (.inr rfl))
  simp [CB]
 ·by_cases h5 : k = 5
  ·subst h5
   obtain ⟨x, rfl⟩ := List.length_eq_one_iff.1 (hl (.inl rfl))
   simp [CB]
  ·simp [CB, h1, h2, h5, h12, h15]
theorem XK (k o m : Int) (v : List Int) (p : List St) (h1 : k ≠ 1) (h2 : k ≠ 2) (h15 : k ≠ 15) (hl : k = 5 ∨ k = 12 → p.length = 1) (hm : k = 5 ∨ k = 12 → 0 ≤ m ∧ m ≤ 5000) (hm12 : k = 12 → m ≤ 20) (hp : p.length ≤ 60) (hx : ∀ x ∈ p, FH x) : FH (.mk k o m v p) := by
 unfold FH at *
 rw [Zb h1 h2 h15 hl]
 have hcl := Uj 100000 p hp
 have hpl := Ai p
 rw [AF]
 
 refine A7 Tryz.func17 Md rfl fun n H hH => ?_
 repeat' (first | (simp -implicitDefEqProofs [c17, BY, BZ, Bg, BX, Bb, Bc, Bi, Be, Bk, BA, B9, B6, BB, B8, BC, c17, -getElem?_pos, h1, h2, h15]) | (simp (disch := omega) only [AA]) | (with_reducible first | refine A6 ?_ ?_ ?_ | exact AC | refine SameB.upd ?_ ?_ _ | assumption | refine A0 ?_ | refine KM.of ?_ | refine AB ?_ | refine A1 ?_ | refine A4 ?_ | intro _g _hg | refine AD ?_ ?_ | intro _hc) | omega)
 refine LoopK.go (fun r st => ∃ (j n1 : Nat) (H1 : A3), j + r = p.length ∧ st = ⟨[(1, .ptr _g 0), (3, aI (((p.map fun s => min (AW s) 100000).take j).sum : Nat)), (6, aI j)], n1, H1⟩ ∧ _g < n1 ∧ SameB n H H1 ∧ H1 _g = some (BH k o m (.sl 1 (v.map aI) .ro) (.sl 5 (AR p) .ro))) p.length ⟨0, _, _, by omega, by simp; exact ⟨rfl, rfl⟩, by omega, by intro q hq; simp only [upd]; (repeat' split) <;> first | rfl | omega, AX _ _ _⟩ ?_
 rintro r st ⟨j, n1, H1, hj, rfl, hn1, hsame, q1⟩ J hJ
 by_cases hjl : j < p.length
 ·obtain ⟨x, hx'⟩ : ∃ x, p[j]? = some x := ⟨_, List.getElem?_eq_getElem hjl⟩
  have hb := hx x (List.mem_of_getElem? hx')
  have hxe := DX hx'
  have hxf := Ax x
  have hjl' : (j : Int) < p.length := by omega
  have hs := Lx (l := p.map fun s => min (AW s) 100000) (i := j) (x := min (AW x) 100000) (by rw [List.getElem?_map, hx']; rfl)
  have hc1 := hcl j
  generalize ((p.map fun s => min (AW s) 100000).take j).sum = a at *
  obtain ⟨b, hb'⟩ : ∃ b, min (AW x) 100000 = b := ⟨_, rfl⟩
  have hb5 : b ≤ 100000 := by omega
  rw [hb'] at hb hs
  obtain ⟨k', o', m', v', p'⟩ := x
  rw [AF] at hb hxe hxf
  generalize AR p = ep at *
  generalize AR p' = ep' at *
  generalize v'.map aI = ev' at *
  
  repeat' (first | (simp -implicitDefEqProofs [BY, BZ, Bg, BX, Bb, Bc, Bi, Be, Bk, BA, B9, B6, BB, B8, BC, c17, -getElem?_pos, q1, hpl, hjl', hxe, splice]) | (simp (disch := omega) only [AA]) | ((with_reducible refine Aa 17 ?_); refine' Am (hb) ?_) | (with_reducible first | refine A6 ?_ ?_ ?_ | exact AC | refine SameB.upd ?_ ?_ _ | assumption | refine A0 ?_ | refine KM.of ?_ | refine AB ?_ | refine A1 ?_ | refine A4 ?_ | intro _g _hg | refine AD ?_ ?_ | intro _hc) | omega)
  exact hJ (r - 1) _ (by omega) ⟨j + 1, _, _, by omega, by rw [hs]; rfl, hn1, hsame, q1⟩
 ·have hjl' : ¬ (j : Int) < p.length := by omega
  have hc1 := hcl j
  have e : (p.map fun s => min (AW s) 100000).take j = p.map fun s => min (AW s) 100000 := List.take_of_length_le (by simp; omega)
  rw [e] at hc1 ⊢
  generalize (p.map fun s => min (AW s) 100000).sum = a at *
  generalize AR p = ep at *
  by_cases h12 : k = 12
  ·subst h12
   have hm0 := hm (.inr rfl)
   have hm20 := hm12 rfl
   obtain ⟨m', rfl⟩ : ∃ m' : Nat, m = m' := ⟨m.toNat, by omega⟩
   have hma : m' * a ≤ 20 * (60 * 100000) := Nat.mul_le_mul (by omega) hc1
   have hmc : (a : Int) * (m' : Int) = ((m' * a : Nat) : Int) := by rw [Int.natCast_mul, Int.mul_comm]
   have hw : IntKind.i64.wrap ((a : Int) * (m' : Int)) = ((m' * a : Nat) : Int) := by rw [hmc, IntWalk.i64_in _ (by omega)]
   rw [if_pos rfl, Int.toNat_natCast]
   generalize m' * a = z at *
   by_cases hf : 100000 < z
   ·have hf' : (100000 : Int) < z := by omega
    have ez : min z 100000 = 100000 := by omega
    rw [ez]
    
    repeat' (first | (simp -implicitDefEqProofs [BY, BZ, Bg, BX, Bb, Bc, Bi, Be, Bk, BA, B9, B6, BB, B8, BC, c17, -getElem?_pos, q1, hpl, hjl', hw, hf, hf', AM, AQ]) | (simp (disch := omega) only [AA]) | (with_reducible first | refine A6 ?_ ?_ ?_ | exact AC | refine SameB.upd ?_ ?_ _ | assumption | refine A0 ?_ | refine KM.of ?_ | refine AB ?_ | refine A1 ?_ | refine A4 ?_ | intro _g _hg | refine AD ?_ ?_ | intro _hc) | omega)
    all_goals first | omega | exact hsame | (refine BR ?_; grind)
   ·have hf' : ¬ (100000 : Int) < z := by omega
    have ez : min z 100000 = z := by omega
    rw [ez]
    
    repeat' (first | (simp -implicitDefEqProofs [BY, BZ, Bg, BX, Bb, Bc, Bi, Be, Bk, BA, B9, B6, BB, B8, BC, c17, -getElem?_pos, q1, hpl, hjl', hw, hf, hf', AM, AQ]) | (simp (disch := omega) only [AA]) | (with_reducible first | refine A6 ?_ ?_ ?_ | exact AC | refine SameB.upd ?_ ?_ _ | assumption | refine A0 ?_ | refine KM.of ?_ | refine AB ?_ | refine A1 ?_ | refine A4 ?_ | intro _g _hg | refine AD ?_ ?_ | intro _hc) | omega)
    all_goals first | omega | exact hsame | (refine BR ?_; grind)
  ·rw [if_neg h12]
   by_cases h5 : k = 5
   ·subst h5
    have hm0 := hm (.inl rfl)
    obtain ⟨m', rfl⟩ : ∃ m' : Nat, m = m' := ⟨m.toNat, by omega⟩
    rw [if_pos rfl, Int.toNat_natCast]
    by_cases hf : m' < a
    ·have hf' : (m' : Int) < a := by omega
     have hf2 : ¬ (100000 : Int) < m' := by omega
     have ez : min (min m' a) 100000 = m' := by omega
     rw [ez]
     
     repeat' (first | (simp -implicitDefEqProofs [BY, BZ, Bg, BX, Bb, Bc, Bi, Be, Bk, BA, B9, B6, BB, B8, BC, c17, -getElem?_pos, q1, hpl, hjl', hf, hf', hf2, AM, AQ]) | (simp (disch := omega) only [AA]) | (with_reducible first | refine A6 ?_ ?_ ?_ | exact AC | refine SameB.upd ?_ ?_ _ | assumption | refine A0 ?_ | refine KM.of ?_ | refine AB ?_ | refine A1 ?_ | refine A4 ?_ | intro _g _hg | refine AD ?_ ?_ | intro _hc) | omega)
     all_goals first | omega | exact hsame | (refine BR ?_; grind)
    ·have hf' : ¬ (m' : Int) < a := by omega
     have hf2 : ¬ (100000 : Int) < a := by omega
     have ez : min (min m' a) 100000 = a := by omega
     rw [ez]
     
     repeat' (first | (simp -implicitDefEqProofs [BY, BZ, Bg, BX, Bb, Bc, Bi, Be, Bk, BA, B9, B6, BB, B8, BC, c17, -getElem?_pos, q1, hpl, hjl', hf, hf', hf2, AM, AQ]) | (simp (disch := omega) only [AA]) | (with_reducible first | refine A6 ?_ ?_ ?_ | exact AC | refine SameB.upd ?_ ?_ _ | assumption | refine A0 ?_ | refine KM.of ?_ | refine AB ?_ | refine A1 ?_ | refine A4 ?_ | intro _g _hg | refine AD ?_ ?_ | intro _hc) | omega)
     all_goals first | omega | exact hsame | (refine BR ?_; grind)
   ·rw [if_neg h5]
    by_cases hf : 100000 < a
    ·have hf' : (100000 : Int) < a := by omega
     have ez : min a 100000 = 100000 := by omega
     rw [ez]
     
     repeat' (first | (simp -implicitDefEqProofs [BY, BZ, Bg, BX, Bb, Bc, Bi, Be, Bk, BA, B9, B6, BB, B8, BC, c17, -getElem?_pos, q1, hpl, hjl', h12, h5, hf, hf', AM, AQ]) | (simp (disch := omega) only [AA]) | (with_reducible first | refine A6 ?_ ?_ ?_ | exact AC | refine SameB.upd ?_ ?_ _ | assumption | refine A0 ?_ | refine KM.of ?_ | refine AB ?_ | refine A1 ?_ | refine A4 ?_ | intro _g _hg | refine AD ?_ ?_ | intro _hc) | omega)
     all_goals first | omega | exact hsame | (refine BR ?_; grind)
    ·have hf' : ¬ (100000 : Int) < a := by omega
     have ez : min a 100000 = a := by omega
     rw [ez]
     
     repeat' (first | (simp -implicitDefEqProofs [BY, BZ, Bg, BX, Bb, Bc, Bi, Be, Bk, BA, B9, B6, BB, B8, BC, c17, -getElem?_pos, q1, hpl, hjl', h12, h5, hf, hf', AM, AQ]) | (simp (disch := omega) only [AA]) | (with_reducible first | refine A6 ?_ ?_ ?_ | exact AC | refine SameB.upd ?_ ?_ _ | assumption | refine A0 ?_ | refine KM.of ?_ | refine AB ?_ | refine A1 ?_ | refine A4 ?_ | intro _g _hg | refine AD ?_ ?_ | intro _hc) | omega)
     all_goals first | omega | exact hsame | (refine BR ?_; grind)
theorem A1n (s : St) : Cy s → HE s → Ab s ≤ 60 → FH s := by
 refine St.ind (Q := fun s => Cy s → HE s → Ab s ≤ 60 → FH s) ?_ s
 intro k o m v p ih hf hok hsz
 obtain ⟨hv, hp, hpp⟩ := hf
 obtain ⟨hn, hop⟩ := hok
 have hN := C8 hn
 simp only [Ab] at hsz
 have hpl := Bz p
 have hx : ∀ x ∈ p, FH x := fun x hx => ih x hx (Cq hpp x hx) (De hop x hx) (by have := Dc x hx; omega)
 by_cases h1 : k = 1
 ·subst h1; exact Vx o m v p hv
 by_cases h2 : k = 2
 ·subst h2
  obtain ⟨a, b, c, rfl, h⟩ := JC (hN.rng rfl) hN.vals
  exact Xe o m a b c p (by omega)
 by_cases h15 : k = 15
 ·subst h15
  match p, hN.two (.inl rfl) with
  | [x, y], _ => exact XQ o m v x y (hx x (by simp)) (hx y (by simp))
 have hm : k = 5 ∨ k = 12 → 0 ≤ m ∧ m ≤ 5000 := fun h => by
  have hm := hN.num (by rcases h with rfl | rfl <;> rfl)
  rcases h with rfl | rfl <;> simp [J6, J7, D6] at hm <;> omega
 exact XK k o m v p h1 h2 h15 (fun h => hN.one (by omega) (by omega) (by omega) (by omega) (by omega) (by omega)) hm (fun h => by have hm := hN.num (by subst h; rfl); subst h; simp [J6, J7, D6] at hm; omega) (by omega) hx
abbrev UQ (s : St) : Prop := ∀ i : Nat, i + Ab s ≤ 100 → APure Tryz.prog 38 [encS s, aI i] (.tup [aI ((E9 s i).1 : Nat), aI (E9 s i).2])
theorem N3 {k o m : Int} {v : List Int} {p : List St} {i n g n1 : Nat} {H H1 : A3} {w0 nx fd : Int} (h60 : p.length ≤ 60) (hx : ∀ x ∈ p, UQ x) (hi : i + 1 + Ak p ≤ 100) (hw0 : -1 ≤ w0) (hnx : nx = ((i + 1 + Ak p : Nat) : Int)) (hfd : fd = if w0 < 0 then (FN p (i + 1)).2 else w0) (hn : n ≤ g) (hg : g < n1) (hs : SameB n H H1) (q : H1 g = some (BH k o m (.sl 1 (v.map aI) .ro) (.sl 5 (AR p) .ro))) :
  LoopK (fun Q s => aw Tryz.prog c38_L5 Q s) (EY 0 (Ej (aw Tryz.prog c38_k1 (QW (.tup [aI nx, aI fd]) n H [.tmp 4, .tmp 5])) (QW (.tup [aI nx, aI fd]) n H [.tmp 4, .tmp 5]))) ⟨[(2, .ptr g 0), (6, aI w0), (7, aI ((i : Int) + 1)), (8, aI 0)], n1, H1⟩ := by
 have hpl := Ai p
 refine LoopK.go (fun r st => ∃ (j c n2 : Nat) (w : Int) (H2 : A3), j + r = p.length ∧ st = ⟨[(2, .ptr g 0), (6, aI w), (7, aI c), (8, aI j)], n2, H2⟩ ∧ g < n2 ∧ -1 ≤ w ∧ c + Ak (p.drop j) = i + 1 + Ak p ∧ (if w < 0 then (FN (p.drop j) c).2 else w) = fd ∧ SameB n H H2 ∧ H2 g = some (BH k o m (.sl 1 (v.map aI) .ro) (.sl 5 (AR p) .ro))) p.length ⟨0, i + 1, n1, w0, H1, by omega, by simp, hg, hw0, by simp, by rw [hfd]; rfl, hs, q⟩ ?_
 rintro r st ⟨j, c, n2, w, H2, hj, rfl, hn2, hw, hcs, hE, hsame, q1⟩ J hJ
 by_cases hjl : j < p.length
 ·obtain ⟨x, hx'⟩ : ∃ x, p[j]? = some x := ⟨_, List.getElem?_eq_getElem hjl⟩
  have hxm := List.mem_of_getElem? hx'
  rw [PF hx'] at hcs
  have hst := hx x hxm c (by omega)
  have hxe := DX hx'
  have hxf := Ax x
  have hjl' : (j : Int) < p.length := by omega
  have hwx := (IE x c).1
  have hwn := Lz x c
  rw [Ur hx'] at hE
  rw [hwn] at hst
  generalize (E9 x c).2 = wx at *
  generalize hsx : Ab x = sx at *
  obtain ⟨k', o', m', v', p'⟩ := x
  rw [AF] at hst hxe hxf
  generalize AR p = ep at *
  generalize AR p' = ep' at *
  generalize v'.map aI = ev' at *
  generalize hcc : ((c + sx : Nat) : Int) = cc at *
  by_cases hwz : w < 0
  ·rw [if_pos hwz] at hE
   
   repeat' (first | (simp -implicitDefEqProofs [Jm, JZ, K5, KK, KU, GE, c38, -getElem?_pos, q1, hpl, hjl', hxe, hwz, splice]) | (simp (disch := omega) only [AA]) | ((with_reducible refine Aa 38 ?_); refine' Am (hst) ?_) | (with_reducible first | refine A6 ?_ ?_ ?_ | exact AC | refine SameB.upd ?_ ?_ _ | assumption | refine A0 ?_ | refine KM.of ?_ | refine AB ?_ | refine A1 ?_ | refine A4 ?_ | intro _g _hg | refine AD ?_ ?_ | intro _hc) | omega)
   exact hJ (r - 1) _ (by omega) ⟨j + 1, c + sx, _, wx, _, by omega, by rw [hcc]; rfl, hn2, hwx, by omega, hE, hsame, q1⟩
  ·rw [if_neg hwz] at hE
   
   repeat' (first | (simp -implicitDefEqProofs [Jm, JZ, K5, KK, KU, GE, c38, -getElem?_pos, q1, hpl, hjl', hxe, hwz, splice]) | (simp (disch := omega) only [AA]) | ((with_reducible refine Aa 38 ?_); refine' Am (hst) ?_) | (with_reducible first | refine A6 ?_ ?_ ?_ | exact AC | refine SameB.upd ?_ ?_ _ | assumption | refine A0 ?_ | refine KM.of ?_ | refine AB ?_ | refine A1 ?_ | refine A4 ?_ | intro _g _hg | refine AD ?_ ?_ | intro _hc) | omega)
   exact hJ (r - 1) _ (by omega) ⟨j + 1, c + sx, _, w, _, by omega, by rw [hcc]; rfl, hn2, hw, by omega, by rw [if_neg hwz]; exact hE, hsame, q1⟩
 ·have hjl' : ¬ (j : Int) < p.length := by omega
  rw [List.drop_eq_nil_of_le (by omega), Ak] at hcs
  rw [List.drop_eq_nil_of_le (by omega), FN] at hE
  have e1 : nx = c := by omega
  have e2 : fd = w := by rw [← hE]; split <;> omega
  subst e1 e2
  generalize AR p = ep at *
  
  repeat' (first | (simp -implicitDefEqProofs [Jm, JZ, K5, KK, KU, GE, c38, -getElem?_pos, q1, hpl, hjl', AM, AQ]) | (simp (disch := omega) only [AA]) | (with_reducible first | refine A6 ?_ ?_ ?_ | exact AC | refine SameB.upd ?_ ?_ _ | assumption | refine A0 ?_ | refine KM.of ?_ | refine AB ?_ | refine A1 ?_ | refine A4 ?_ | intro _g _hg | refine AD ?_ ?_ | intro _hc) | omega)
  all_goals first | exact hsame | omega
theorem A07 (s : St) : Cy s → HE s → Ab s ≤ 60 → UQ s := by
 refine St.ind (Q := fun s => Cy s → HE s → Ab s ≤ 60 → UQ s) ?_ s
 intro k o m v p ih hf hok hsz i hi
 have hbd := A1n (.mk k o m v p) hf hok hsz
 obtain ⟨hv, hp, hpp⟩ := hf
 obtain ⟨hn, hop⟩ := hok
 simp only [Ab] at hsz hi
 have hx : ∀ x ∈ p, UQ x := fun x hx => ih x hx (Cq hpp x hx) (De hop x hx) (by have := Dc x hx; omega)
 have hw1 : (E9 (.mk k o m v p) i).1 = i + 1 + Ak p := by rw [E9, KG]
 have hw2 : (E9 (.mk k o m v p) i).2 = if 5000 < AW (.mk k o m v p) then (i : Int) else (FN p (i + 1)).2 := by rw [E9]
 rw [hw1, hw2]
 unfold FH at hbd
 generalize AW (.mk k o m v p) = B at *
 rw [AF] at hbd ⊢
 generalize hnx : ((i + 1 + Ak p : Nat) : Int) = nx
 generalize hfd : (if 5000 < B then (i : Int) else (FN p (i + 1)).2) = fd
 generalize hmb : ((min B 100000 : Nat) : Int) = mb at *
 
 refine A7 Tryz.func38 A27 rfl fun n H hH => ?_
 by_cases hB0 : 5000 < B
 ·have hB' : (5000 : Int) < mb := by omega
  rw [if_pos hB0] at hfd
  repeat' (first | (simp -implicitDefEqProofs [c38, GE, -getElem?_pos, hB']) | (simp (disch := omega) only [AA]) | ((with_reducible refine Aa 17 ?_); refine' Am (hbd) ?_) | (with_reducible first | refine A6 ?_ ?_ ?_ | exact AC | refine SameB.upd ?_ ?_ _ | assumption | refine A0 ?_ | refine KM.of ?_ | refine AB ?_ | refine A1 ?_ | refine A4 ?_ | intro _g _hg | refine AD ?_ ?_ | intro _hc) | omega)
  exact N3 (by have := Bz p; omega) hx (by omega) (by omega) hnx.symm (by rw [if_neg (by omega)]; exact hfd.symm) (by omega) (by omega) (fun k hk => by simp (disch := omega) only [upd_ne]) (AX _ _ _)
 ·have hB' : ¬ (5000 : Int) < mb := by omega
  rw [if_neg hB0] at hfd
  repeat' (first | (simp -implicitDefEqProofs [c38, GE, -getElem?_pos, hB']) | (simp (disch := omega) only [AA]) | ((with_reducible refine Aa 17 ?_); refine' Am (hbd) ?_) | (with_reducible first | refine A6 ?_ ?_ ?_ | exact AC | refine SameB.upd ?_ ?_ _ | assumption | refine A0 ?_ | refine KM.of ?_ | refine AB ?_ | refine A1 ?_ | refine A4 ?_ | intro _g _hg | refine AD ?_ ?_ | intro _hc) | omega)
  exact N3 (by have := Bz p; omega) hx (by omega) (by omega) hnx.symm (by rw [if_pos (by omega)]; exact hfd.symm) (by omega) (by omega) (fun k hk => by simp (disch := omega) only [upd_ne]) (AX _ _ _)
theorem I2 (s : St) (hf : Cy s) : APure Tryz.prog 14 [encS s] (aF (Eg s)) := by
 have hst : APure Tryz.prog 37 [encS s, aI 0] (.tup [aI ((Dd s 0).1 : Nat), aI (Dd s 0).2]) := XM s hf 0 (by omega)
 have hwd : (Dd s 0).2 = 0 → APure Tryz.prog 38 [encS s, aI 0] (.tup [aI ((E9 s 0).1 : Nat), aI (E9 s 0).2]) := fun h => by
  obtain ⟨h1, h2, h3⟩ := Jp s 0 h
  exact A07 s hf h1 (by omega) 0 (by omega)
 have hw := (IE s 0).1
 unfold Eg
 generalize Dd s 0 = sg at *
 generalize E9 s 0 = wd at *
 obtain ⟨k, o, m, v, p⟩ := s
 rw [AF] at *
 generalize v.map aI = va at *
 generalize AR p = ep at *
 have hat := Ze
 
 refine A7 Tryz.func14 A22 rfl fun n H hH => ?_
 by_cases h0 : sg.2 = 0
 ·have hwd := hwd h0
  rw [if_neg (by simpa using h0)]
  by_cases hw0 : 0 ≤ wd.2
  ·rw [if_pos hw0]
   repeat' (first | (simp -implicitDefEqProofs [Jy, Jz, c14, -getElem?_pos, h0, hw0, splice, AM, AQ]) | (simp (disch := omega) only [AA]) | ((with_reducible refine Aa 37 ?_); refine' Am (hst) ?_) | ((with_reducible refine Aa 38 ?_); refine' Am (hwd) ?_) | ((with_reducible refine Aa 20 ?_); refine' Am ((Ze _ _)) ?_) | (with_reducible first | refine A6 ?_ ?_ ?_ | exact AC | refine SameB.upd ?_ ?_ _ | assumption | refine A0 ?_ | refine KM.of ?_ | refine AB ?_ | refine A1 ?_ | refine A4 ?_ | intro _g _hg | refine AD ?_ ?_ | intro _hc) | omega)
  ·rw [if_neg hw0]
   repeat' (first | (simp -implicitDefEqProofs [Jy, Jz, c14, -getElem?_pos, h0, hw0, splice, AM, AQ]) | (simp (disch := omega) only [AA]) | ((with_reducible refine Aa 37 ?_); refine' Am (hst) ?_) | ((with_reducible refine Aa 38 ?_); refine' Am (hwd) ?_) | ((with_reducible refine Aa 20 ?_); refine' Am ((Ze _ _)) ?_) | (with_reducible first | refine A6 ?_ ?_ ?_ | exact AC | refine SameB.upd ?_ ?_ _ | assumption | refine A0 ?_ | refine KM.of ?_ | refine AB ?_ | refine A1 ?_ | refine A4 ?_ | intro _g _hg | refine AD ?_ ?_ | intro _hc) | omega)
 ·rw [if_pos h0]
  repeat' (first | (simp -implicitDefEqProofs [Jy, Jz, c14, -getElem?_pos, h0, splice, AM, AQ]) | (simp (disch := omega) only [AA]) | ((with_reducible refine Aa 37 ?_); refine' Am (hst) ?_) | ((with_reducible refine Aa 20 ?_); refine' Am ((Ze _ _)) ?_) | (with_reducible first | refine A6 ?_ ?_ ?_ | exact AC | refine SameB.upd ?_ ?_ _ | assumption | refine A0 ?_ | refine KM.of ?_ | refine AB ?_ | refine A1 ?_ | refine A4 ?_ | intro _g _hg | refine AD ?_ ?_ | intro _hc) | omega)
theorem LS.more {gO n : Nat} {H H' : A3} {cs : AZ} {q : Option Nat} (h : LS gO cs H q) (hs : ∀ g, n ≤ g → H g = none) (hb : SameB n H H') : LS gO cs H' q := by
 obtain ⟨h1, h2⟩ := h.lt hs
 match q, h, h2 with
 | none, h, _ => exact ⟨h.1, (hb gO h1).trans h.2⟩
 | some gg, h, h2 => exact ⟨(hb gO h1).trans h.1, (hb gg (h2 gg rfl).1).trans h.2⟩
theorem OpenP.up {e : Bool} {gO n n1 n' : Nat} {H H1 H' : A3} {cs : AZ} {q : Option Nat} {F : Fut} {r : AV} (h : OpenP e gO cs q F n1 H1 r n' H') (hn : n ≤ n1) (hs : SameB n H H1) (hq : ∀ g, q = some g → g < n) : OpenP e gO cs q F n H r n' H' := by
 obtain ⟨h1, h2, h3, gg, h4, h5, h6, h7, O', h8, h9, h10⟩ := h
 exact ⟨h1, by omega, h3, gg, h4, h5.imp id (fun h => by omega), h6, fun g k1 k2 k3 => (h7 g (by omega) k2 k3).trans (hs g k1), O', fun g hg => ⟨by have := h8 g hg; omega, (h8 g hg).2⟩, h9, h10⟩
theorem OpenP.once {gO n n' n2 : Nat} {H H' H2 : A3} {cs : AZ} {q : Option Nat} {F : Fut} {r2 : AV} {gg : Nat} {O' : Nat → Prop} (hO : gO < n) (h2 : n ≤ n') (h4 : LS gO (cs ++ F.cur) H' (some gg)) (h5 : q = some gg ∨ n ≤ gg) (h6 : gg < n') (h7 : ∀ g, g < n → g ≠ gO → q ≠ some g → H' g = H g) (h8 : ∀ g, O' g → n ≤ g ∧ g < n') (h9 : ¬ O' gg) (k : NewS true gO cs.length F O' n' H' r2 n2 H2) : OpenP true gO cs q F n H r2 n2 H2 := by
 obtain ⟨k1, k2, k3, k4, O2, k5, k6, k7⟩ := k
 refine ⟨k1, by omega, k4, gg, ⟨(k3 gO (by omega)).trans h4.1, (k3 gg h6).trans h4.2⟩, h5, by omega, fun g a1 a2 a3 => (k3 g (by omega)).trans (h7 g a1 a2 a3), O2, fun g hg => ⟨?_, k6 g hg⟩, fun hg => (k5 gg hg).elim h9 (fun h => by omega), k7⟩
 exact (k5 g hg).elim (fun h => (h8 g h).1) (fun h => by omega)
theorem NewS.tr {gO lo n n1 n2 : Nat} {H H1 H2 : A3} {F : Fut} {O O1 : Nat → Prop} {r : AV} (hn : n ≤ n1) (hs : SameB n H H1) (h5 : ∀ g, O1 g → O g ∨ n ≤ g) (k : NewS true gO lo F O1 n1 H1 r n2 H2) : NewS true gO lo F O n H r n2 H2 := by
 obtain ⟨k1, k2, k3, k4, O2, k5, k6, k7⟩ := k
 exact ⟨k1, by omega, fun g hg => (k3 g (by omega)).trans (hs g hg), k4, O2, fun g hg => (k5 g hg).elim (h5 g) (fun h => .inr (by omega)), k6, k7⟩
theorem YV (s : St) : (AY s).cur.length ≤ Ab s := by
 refine St.ind (Q := fun s => (AY s).cur.length ≤ Ab s) ?_ s
 intro k o n v p ih
 rw [AY, F9, Ab]
 have hsum : ((p.map AY).map fun F => F.cur.length).sum ≤ Ak p := by
  induction p with
  | nil => simp [Ak]
  | cons x r ihr =>
   have h1 := ih x List.mem_cons_self
   have h2 := ihr fun y hy => ih y (List.mem_cons_of_mem _ hy)
   simp only [List.map_cons, List.sum_cons, Ak]; omega
 have hcha : ∀ Fs : List Fut, (D0 Fs).cur.length = (Fs.map fun F => F.cur.length).sum := by
  intro Fs
  induction Fs with
  | nil => rfl
  | cons F r ih => simp [D0, ih]
 generalize p.map AY = Fs at *
 unfold CO
 split
 ·simp [Gi]
 ·split
  ·simp [Gi]
  ·split
   ·rw [hcha]; omega
   ·split
    ·have e : (Hv Fs).cur.length = (Fs.map fun F => F.cur.length).sum := by simp [Hv, List.length_flatten, Function.comp_def]
     rw [e]; omega
    ·split
     ·rename_i F
      have e : (CC k o n F).cur = F.cur := by
       unfold CC; (repeat' split) <;> first | rfl | (unfold MO; split <;> rfl)
      rw [e]
      simp only [List.map_cons, List.map_nil, List.sum_cons, List.sum_nil] at hsum
      omega
     ·rename_i F G
      simp only [List.map_cons, List.map_nil, List.sum_cons, List.sum_nil] at hsum
      split <;> simp <;> omega
     ·simp
theorem ZR {gO n : Nat} {H : A3} {cs : AZ} {q : Option Nat} {k o m : Int} {v : List Int} (hL : LS gO cs H q) (main : ∀ n1 H1, LS gO cs H1 q → ACalls Tryz.prog 72 [.ptr gO 0, encS (.mk k o m v [])] n1 H1 (OpenP false gO cs q (AY (.mk k o m v [])) n1 H1)) : ACalls Tryz.prog 43 [.ptr gO 0, encS (.mk k o m v [])] n H (OpenP true gO cs q (AY (.mk k o m v [])) n H) := by
 generalize hR : OpenP _ _ _ _ _ _ _ = R
 rw [AF] at main ⊢
 rw [show AR [] = [] by simp [AR]] at main ⊢
 generalize AY (.mk k o m v []) = F at *
 refine A8 Tryz.func43 Zp rfl fun hs => ?_
 obtain ⟨hO, hgn⟩ := hL.lt hs
 repeat' (first | (simp -implicitDefEqProofs [BG, BJ, BP, BM, BN, N7, N9, KR, Jb, c43, -getElem?_pos, splice]) | (simp (disch := omega) only [AA]) | ((with_reducible refine Ap 72 ?_); refine ⟨_, main _ _ (hL.more hs (fun k hk => by simp (disch := omega) only [upd_ne])), ?_⟩; rintro r n' H' hle hsup ⟨h1, h2, h3, gg, h4, h5, h6, h7, O', h8, h9, h10⟩) | ((with_reducible refine Ap 71 ?_); refine ⟨_, Xx h10 h1 (fun g hg => (h8 g hg).2) (fun h => by have := (h8 gO h).1; dsimp only at this hle; omega) (by dsimp only at hle ⊢; omega), ?_⟩; rintro r2 n2 H2 hle2 hsup2 hpost) | (with_reducible first | refine A6 ?_ ?_ ?_ | exact AC | assumption | refine A0 ?_ | refine KM.of ?_ | refine AB ?_ | refine A1 ?_ | refine AE ?_ | refine A4 ?_ | refine AJ ?_ | refine AG ?_ | intro _g _hg | refine AD ?_ ?_ | intro _hc) | omega)
 subst hR
 dsimp only at h2 h5 h7 h8 hle hle2 hpost
 exact AI rfl (by omega) hsup2 ((OpenP.once (n := _g + 1) (by omega) h2 h4 h5 h6 h7 h8 h9 hpost).up (by omega) (fun k hk => by simp (disch := omega) only [upd_ne]) (fun g hg => (hgn g hg).1))
theorem Vc {gO n : Nat} {H : A3} {cs : AZ} {q : Option Nat} {k o m : Int} {v : List Int} (hk : k = 1 ∨ k = 2) (hn : NodeOk k o m v []) (hv : v.length ≤ 140737488355328) (hcs : cs.length ≤ 100) (hL : LS gO cs H q) : ACalls Tryz.prog 43 [.ptr gO 0, encS (.mk k o m v [])] n H (OpenP true gO cs q (AY (.mk k o m v [])) n H) := by
 refine ZR hL ?_
 intro n1 H1 h1
 rcases hk with rfl | rfl
 ·have e : AY (.mk 1 o m v []) = Gi v := by simp [AY, CO]
  rw [e]
  exact V3 hv hcs h1
 ·obtain ⟨a, b, c, rfl, h2⟩ := JC (hn.rng rfl) hn.vals
  have e : AY (.mk 2 o m [a, b, c] []) = Gi (FO [a, b, c]) := by simp [AY, CO]
  rw [e]
  exact Wg (by omega) hcs h1
def TokOkS (t : Tok) (k : Nat) (H : A3) (n : Nat) : Prop := match t with
 | .own g => H g = some (.row 76 k) ∧ g < n
 | .nil => k = 0
 | .ro => False
theorem XW {t t2 : Tok} {xs : List AV} {x : AV} {z : Nat} {d : Option Nat} {K : AS → Prop} {en : AT} {n : Nat} {H : A3} (h : TokOkS t xs.length H n) (hz : t ≠ .nil → z = 1) (hl : xs.length ≤ 1000000) (hs : ∀ g, n ≤ g → H g = none)
  (hk : ∀ g' n' H', (CI t g' ∨ n ≤ g') → n ≤ n' → g' < n' → (∀ k, k < n → ¬ CI t k → H' k = H k) → H' g' = some (.row 76 (xs.length + 1)) → (∀ k, n' ≤ k → H' k = none) → (∀ k, CI t k → k ≠ g' → H' k = none) → K ⟨AN en d (.sl 1 (xs ++ [x]) (.own g')), n', H'⟩) :
  appKS 76 1 8 d K ⟨en, n, H⟩ (.sl z xs t) (.sl 1 [x] t2) := by
 match t, h with
 | .nil, h =>
  have h0 : xs = [] := List.length_eq_zero_iff.1 h
  subst h0
  refine NR (by simp) (by simp) (by simp [maxLen]) fun g hg => ?_
  exact hk g (g + 1) _ (.inr hg) (by omega) (by omega) (fun k h1 _ => by rw [upd_ne (by omega)]) (AX _ _ _) (fun k h1 => by rw [upd_ne (by omega)]; exact hs k (by omega)) (fun k h1 => h1.elim)
 | .own g0, h =>
  obtain ⟨h1, h2⟩ := h
  have hz := hz (by simp)
  subst hz
  refine GK h1 (by simp; omega) (by simp [maxLen]; omega) fun g n' h3 h4 h5 => ?_
  refine hk g n' _ (h3.elim (fun h => .inl h) .inr) h4 h5 (fun k k1 k2 => ?_) (AX _ _ _) (fun k k1 => ?_) (fun k k1 k2 => ?_)
  ·have : k ≠ g0 := k2
   rw [upd_ne (by rcases h3 with h3 | h3 <;> omega), upd_ne this]
  ·rw [upd_ne (by omega), upd_ne (by omega)]; exact hs k (by omega)
  ·have e : k = g0 := k1
   subst e
   rw [upd_ne k2, AX]
theorem TokOkS.at_ {t : Tok} {k n n1 : Nat} {H H1 : A3} (h : TokOkS t k H n) (hH : ∀ g, CI t g → H1 g = H g) (hn : n ≤ n1) : TokOkS t k H1 n1 := by
 match t, h with
 | .nil, h => exact h
 | .own g, h => exact ⟨(hH g rfl).trans h.1, by have := h.2; omega⟩
theorem TokOkS.lt {t : Tok} {k n : Nat} {H : A3} (h : TokOkS t k H n) : ∀ g, CI t g → g < n := by
 match t, h with
 | .nil, h => exact fun g hg => hg.elim
 | .own k, h => intro g hg; have e : g = k := hg; subst e; exact h.2
structure Opnd (gO : Nat) (cs : AZ) (q : Option Nat) (n : Nat) (H : A3) (ps : List Pt) (q1 : Option Nat) (n1 : Nat) (H1 : A3) : Prop where
 ls : LS gO (cs ++ AL ps) H1 q1
 qn : ∀ g, q1 = some g → (q = some g ∨ n ≤ g) ∧ ¬ OU ps g
 sm : ps = [] ∨ ∃ g, q1 = some g
 pts : Pts gO cs.length ps H1 n1
 nw : ∀ g, OU ps g → n ≤ g
 all : JA ps
 fr : ∀ g, g < n → g ≠ gO → q ≠ some g → H1 g = H g
 sup : ∀ k, n1 ≤ k → H1 k = none
 le : n ≤ n1
 lO : gO < n
theorem Pts.snoc : ∀ {ps : List Pt} {p : Pt} {gO lo n : Nat} {H : A3}, Pts gO lo ps H n → PtOk gO (lo + (AL ps).length) p H n → (∀ g, p.O g → g < n) → (∀ g, OU ps g → ¬ p.O g) → Pts gO lo (ps ++ [p]) H n
 | [], p, gO, lo, n, H, _, h1, h2, _ => ⟨by simpa [AL] using h1, h2, fun g _ h => h.elim, trivial⟩
 | x :: ps, p, gO, lo, n, H, h, h1, h2, h3 => by
  refine ⟨h.1, h.2.1, fun g hg hu => ?_, h.2.2.2.snoc (by simpa [AL, Nat.add_assoc] using h1) h2 fun g hg => h3 g (.inr hg)⟩
  rcases (EM ps [p] g).1 hu with h4 | h4 | h4
  ·exact h.2.2.1 g hg h4
  ·exact h3 g (.inl hg) h4
  ·exact h4
theorem Opnd.step {gO n n1 n2 : Nat} {cs : AZ} {q q1 : Option Nat} {H H1 H2 : A3} {ps : List Pt} {F : Fut} {r : AV} (h : Opnd gO cs q n H ps q1 n1 H1) (k : OpenP true gO (cs ++ AL ps) q1 F n1 H1 r n2 H2) (hm : Kt F) : ∃ (O' : Nat → Prop) (gg : Nat), Opnd gO cs q n H (ps ++ [⟨r, some F.l, F.cur, F.fin, O'⟩]) (some gg) n2 H2 ∧ (∀ g, O' g → n1 ≤ g) ∧ (∀ g, g < n1 → g ≠ gO → q1 ≠ some g → H2 g = H1 g) := by
 obtain ⟨k1, k2, k3, gg, k4, k5, k6, k7, O', k8, k9, k10⟩ := k
 have hou : ∀ g, OU (ps ++ [⟨r, some F.l, F.cur, F.fin, O'⟩]) g ↔ OU ps g ∨ O' g := fun g => by rw [EM]; simp [OU]
 have hb := h.pts.bel
 have hle := h.le
 have hlO := h.lO
 refine ⟨O', gg, ⟨?_, ?_, .inr ⟨gg, rfl⟩, ?_, ?_, ?_, ?_, k3, by omega, hlO⟩, fun g hg => (k8 g hg).1, k7⟩
 ·rw [Ek]; simpa [AL, List.append_assoc] using k4
 ·intro g hg
  injection hg with hg
  subst hg
  refine ⟨?_, fun hu => ?_⟩
  ·rcases k5 with k5 | k5
   ·exact (h.qn gg k5).1
   ·exact .inr (by omega)
  ·rcases (hou gg).1 hu with hu | hu
   ·rcases k5 with k5 | k5
    ·exact (h.qn gg k5).2 hu
    ·have := hb gg hu; omega
   ·exact k9 hu
 ·refine Pts.snoc (h.pts.at_ (fun g hg => k7 g (hb g hg) (fun e => by have := h.nw g hg; omega) (fun e => (h.qn g e).2 hg)) k2) ?_ (fun g hg => (k8 g hg).2) (fun g hg hO => by have := hb g hg; have := k8 g hO; omega)
  exact ⟨by simpa [List.length_append] using k10, hm.1⟩
 ·intro g hg
  rcases (hou g).1 hg with hg | hg
  ·exact h.nw g hg
  ·have := k8 g hg; omega
 ·intro p hp
  rcases List.mem_append.1 hp with hp | hp
  ·exact h.all p hp
  ·simp at hp; subst hp; exact ⟨⟨_, rfl⟩, k1⟩
 ·intro g a1 a2 a3
  rw [k7 g (by omega) a2 (fun e => (h.qn g e).1.elim a3 (fun h => by omega))]
  exact h.fr g a1 a2 a3
theorem Opnd.more {gO n n1 n2 : Nat} {cs : AZ} {q q1 : Option Nat} {H H1 H2 : A3} {ps : List Pt} {t : Tok} (h : Opnd gO cs q n H ps q1 n1 H1) (ht : ∀ g, CI t g → n ≤ g ∧ ¬ OU ps g ∧ q1 ≠ some g) (hn : n1 ≤ n2) (hH : ∀ k, k < n1 → ¬ CI t k → H2 k = H1 k) (hs : ∀ k, n2 ≤ k → H2 k = none) : Opnd gO cs q n H ps q1 n2 H2 := by
 have hle := h.le
 have hlO := h.lO
 refine ⟨?_, h.qn, h.sm, h.pts.at_ (fun g hg => hH g (h.pts.bel g hg) fun k => (ht g k).2.1 hg) hn, h.nw, h.all, fun g a1 a2 a3 => ?_, hs, by omega, hlO⟩
 ·have hlt := h.ls.lt h.sup
  have hgO : H2 gO = H1 gO := hH gO hlt.1 fun k => by have := (ht gO k).1; omega
  have h1 := h.ls
  match q1, h1, hlt, ht with
  | none, h1, _, _ => exact ⟨h1.1, hgO.trans h1.2⟩
  | some gg, h1, hlt, ht => exact ⟨hgO.trans h1.1, (hH gg (hlt.2 gg rfl).1 fun k => (ht gg k).2.2 rfl).trans h1.2⟩
 ·rw [hH g (by omega) fun k => by have := (ht g k).1; omega]
  exact h.fr g a1 a2 a3
theorem Opnd.fin_ {gO n n1 n2 : Nat} {cs : AZ} {q q1 : Option Nat} {H H1 H2 : A3} {ps : List Pt} {F : Fut} {r : AV} (h : Opnd gO cs q n H ps q1 n1 H1) (hp : ps ≠ []) (hc : F.cur = AL ps) (k : NewS true gO cs.length F (OU ps) n1 H1 r n2 H2) : OpenP true gO cs q F n H r n2 H2 := by
 obtain ⟨gg, hg⟩ := h.sm.resolve_left hp
 subst hg
 have hlt := h.ls.lt h.sup
 obtain ⟨k1, k2, k3, k4, O2, k5, k6, k7⟩ := k
 have h1 := h.le
 have hgl := (hlt.2 gg rfl).1
 refine ⟨k1, by omega, k4, gg, ?_, (h.qn gg rfl).1, by omega, fun g a1 a2 a3 => (k3 g (by omega)).trans (h.fr g a1 a2 a3), O2, fun g hg => ⟨(k5 g hg).elim (h.nw g) (fun h => by omega), k6 g hg⟩, fun hg => (k5 gg hg).elim (h.qn gg rfl).2 (fun h => by omega), k7⟩
 rw [hc]
 exact ⟨(k3 gO hlt.1).trans h.ls.1, (k3 gg hgl).trans h.ls.2⟩
end Go.Proofs.YtjdccdelcnmocaaGreatDoor
