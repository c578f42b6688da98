/- Streams: sources with one part: while, scan, taking; no condition. -/
import Derived.Test.YtjdccdelcnmocaaGreatDoorMgK
import Derived.Test.YtjdccdelcnmocaaGreatDoorMdM
set_option linter.all false
set_option maxHeartbeats 1000000
namespace Go.Proofs.YtjdccdelcnmocaaGreatDoor
theorem Qk : Ae Tryz.prog 111 = true := by kernel_rfl
attribute [local simp] Ng FD FC Lc MV LI Ni FN FF HQ HO Lg MC Nq MZ Ny No NG NY LV LZ M0 MT Ly LJ Tq pe N9 Ld MD Lv N1 Nf Li O7 Mz N4 Mx Mc Ln FU O5 OC Lk Nt NR Na Mr Ma OD Mh LX NT LR Ms MX LN Np N0 Ls LH Lf Ey MY F4 LL Lo OA O0 M9 Nj M4 MF MA MG NF N7 Mt Mi Mo Lw Mq MQ MH Mj N8 Nv Nr Ns Nm FX M1 Nh Mw Lu Mk Md M8 NZ O8 NJ MJ MS Nd M2 Lp NA N5 Mn Lt NQ NX NN MI Nc NW LW NK Mf Mp Nu Ja Ll List.mem_cons guardK EE G9 GK HN LK F3 FL F8 FO FJ FG FQ FY Ez LF ME FV LM MP M7 Lh N3 MM F1 MW NL NV LG LU Lr HS FT FB FS FM Nn M5 FP LQ F9 Lj F6 FA Nz F5 F2 Lq My ND NU NH MB Lm OB Tt KK Ki Hc KI Ju K7 Eb Gt HA MN Gm Gu EZ ED Wm Jx Kn Gq Ji Js E5 Dd BZ B9 CA DW AA ev get put Fc AC EC Mb MK Lx O4 KL NP Eu part B8 HY N2 HB isNil DA DG Dz DK DH NO O6 OF NS M3 Ke LY Mu Nl MR OE Nk Nb LT Nw Mv AV.fits AV.cells ones AV.one EP Bw EN DX Fb Ev Mm Fy GE CW Bd CB F7 GI AP BD Xd HU N6 Me List.getElem?_cons_zero List.getElem?_cons_succ FW FH F0 NB NM NI HW Ml MO NE Lz ML M6 Mg MU Nx O9 LP
theorem WL {gO lo : Nat} {fin : AQ} {px a b : AV} {g1 g2 : Nat} {k op m : Int} (hop : 1 ≤ op ∧ op ≤ 3) (hm : AW m) (h3 : op = 3 → 1 ≤ m) : ∀ (l : Ad) (cur : AQ) (O : Nat → Prop) (H0 : A1) (n0 : Nat), Raw true gO lo fin px l cur O H0 n0 → rgE l → ¬ O gO → (∀ g, O g → g < n0) →
  Bx O gO g1 H0 n0 (Bg px) → Bx O gO g2 H0 n0 (Ah k op m a b) → Raw false gO lo (Di (fun x => FE op x m) l fin).2 (.fn 111 [] [.ptr g1 0, .ptr g2 0]) (Di (fun x => FE op x m) l fin).1 cur (fun g => O g ∨ g = g1 ∨ g = g2) H0 n0 := by
 intro l
 induction l with
 | nil =>
  intro cur O H0 n0 hr hrg noO hbel B1 B2
  refine Raw.of fun n H gg cs hn hag hgg hgO hgv => ?_
  replace B1 := B1.to hn (hag g1 (.inr (.inl rfl)))
  have q1 := B1.at_
  have ng1 : gg ≠ g1 := fun h => hgg (.inr (.inl h))
  replace B2 := B2.to hn (hag g2 (.inr (.inr rfl)))
  have q2 := B2.at_
  have ng2 : gg ≠ g2 := fun h => hgg (.inr (.inr h))
  have nog : ¬ O gg := fun h => hgg (.inl h)
  replace hbel : ∀ g, O g → g < n := fun g h => Nat.lt_of_lt_of_le (hbel g h) hn
  replace hr := hr.at_ (fun g hg => hag g (.inl hg)) hn
  refine ⟨Qk, ?_⟩
  have hc := hr.to n H gg cs (Nat.le_refl _) (fun _ _ => rfl) nog noO hgv
  generalize hR : Cz _ _ _ _ _ _ _ _ _ _ _ = R
  refine A2 Tryz.func111 Ti rfl fun hs => ?_
  repeat' (first | simp -implicitDefEqProofs [A14, -getElem?_pos, q1, q2, splice, -AA] | simp (disch := omega) only [A6] | (refine BS hc ⟨?_⟩; rintro r n' H' hle hsup ⟨v, O', rfl, ha, _⟩) | (with_reducible first | exact AG | refine Bb ?_ | intro _g _hg | refine A5 ?_ ?_ | intro _hc) | omega)
  subst hR
  exact A9 (r := .tup [_, _]) rfl (by omega) hsup ⟨v, _, rfl, ((ha).ext (B := fun g => g = g1 ∨ g = g2) (fun g h => by have := B1.lt; have := B2.lt; rcases h with rfl | rfl <;> omega) (fun _ _ => rfl) (fun _ _ => rfl) (fun h => h.elim ng1 ng2)), fun h => by cases h⟩
 | cons e l ih =>
  obtain ⟨y, c⟩ := e
  intro cur O H0 n0 hr hrg noO hbel B1 B2
  refine Raw.of fun n H gg cs hn hag hgg hgO hgv => ?_
  replace B1 := B1.to hn (hag g1 (.inr (.inl rfl)))
  have q1 := B1.at_
  have ng1 : gg ≠ g1 := fun h => hgg (.inr (.inl h))
  replace B2 := B2.to hn (hag g2 (.inr (.inr rfl)))
  have q2 := B2.at_
  have ng2 : gg ≠ g2 := fun h => hgg (.inr (.inr h))
  have nog : ¬ O gg := fun h => hgg (.inl h)
  replace hbel : ∀ g, O g → g < n := fun g h => Nat.lt_of_lt_of_le (hbel g h) hn
  replace hr := hr.at_ (fun g hg => hag g (.inl hg)) hn
  refine ⟨Qk, ?_⟩
  have hc := hr.to n H gg cs (Nat.le_refl _) (fun _ _ => rfl) nog noO hgv
  have hap := RZ op y m hop hrg.hd hm h3
  by_cases hp : FE op y m = true
  ·have e1 : Di (fun x => FE op x m) ((y, c) :: l) fin = ((y, c) :: (Di (fun x => FE op x m) l fin).1, (Di (fun x => FE op x m) l fin).2) := by simp only [Di]; rw [if_pos hp]
   rw [e1]
   rw [hp] at hap
   generalize hR : Cz _ _ _ _ _ _ _ _ _ _ _ = R
   refine A2 Tryz.func111 Ti rfl fun hs => ?_
   repeat' (first | simp -implicitDefEqProofs [A14, -getElem?_pos, q1, q2, splice, -AA] | simp (disch := omega) only [A6] | (refine BS hc ⟨?_⟩; rintro r n' H' hle hsup ⟨O', rfl, ha, hr'⟩; have B1' := B1.go ng1 ha; have B2' := B2.go ng2 ha; have q2 := B2'.at_) | ((with_reducible refine AO 108 ?_); refine' Aa (hap) ?_) | (with_reducible first | exact AG | refine Bb ?_ | intro _g _hg | refine A5 ?_ ?_ | intro _hc) | omega)
   subst hR
   exact A9 (r := .tup [_, _]) rfl (by omega) hsup ⟨_, rfl, ((ha).ext (B := fun g => g = g1 ∨ g = g2) (fun g h => by have := B1.lt; have := B2.lt; rcases h with rfl | rfl <;> omega) (fun _ _ => rfl) (fun _ _ => rfl) (fun h => h.elim ng1 ng2)), ih c O' _ n' hr' hrg.tl (ha.nO noO (hgv.lt hs).1) ha.bel B1' B2'⟩
  ·have e1 : Di (fun x => FE op x m) ((y, c) :: l) fin = ([], c) := by simp only [Di]; rw [if_neg hp]
   rw [e1]
   rw [Bool.not_eq_true] at hp
   rw [hp] at hap
   generalize hR : Cz _ _ _ _ _ _ _ _ _ _ _ = R
   refine A2 Tryz.func111 Ti rfl fun hs => ?_
   repeat' (first | simp -implicitDefEqProofs [A14, -getElem?_pos, q1, q2, splice, -AA] | simp (disch := omega) only [A6] | (refine BS hc ⟨?_⟩; rintro r n' H' hle hsup ⟨O', rfl, ha, hr'⟩; have B1' := B1.go ng1 ha; have B2' := B2.go ng2 ha; have q2 := B2'.at_) | ((with_reducible refine AO 108 ?_); refine' Aa (hap) ?_) | (with_reducible first | exact AG | refine Bb ?_ | intro _g _hg | refine A5 ?_ ?_ | intro _hc) | omega)
   subst hR
   exact A9 (r := .tup [_, _]) rfl (by omega) hsup ⟨y, _, rfl, ((ha).ext (B := fun g => g = g1 ∨ g = g2) (fun g h => by have := B1.lt; have := B2.lt; rcases h with rfl | rfl <;> omega) (fun _ _ => rfl) (fun _ _ => rfl) (fun h => h.elim ng1 ng2)), fun h => by cases h⟩
theorem SZ : Ae Tryz.prog 136 = true := by kernel_rfl
theorem Yh {gO lo : Nat} {fin : AQ} {px a b : AV} {g1 g2 g3 : Nat} {k op m : Int} (hop : 1 ≤ op ∧ op ≤ 5) (n13 : g1 ≠ g3) (n23 : g2 ≠ g3) : ∀ (l : Ad) (cur : AQ) (z : Int) (O : Nat → Prop) (H0 : A1) (n0 : Nat), Raw true gO lo fin px l cur O H0 n0 → rgE l → AW z → ¬ O gO → (∀ g, O g → g < n0) →
  Bx O gO g1 H0 n0 (Bg px) → Bx O gO g2 H0 n0 (Ah k op m a b) → Bx O gO g3 H0 n0 (BW z) → Raw false gO lo fin (.fn 136 [] [.ptr g1 0, .ptr g2 0, .ptr g3 0]) (IT (CH op) z l) cur (fun g => O g ∨ g = g1 ∨ g = g2 ∨ g = g3) H0 n0 := by
 intro l
 induction l with
 | nil =>
  intro cur z O H0 n0 hr hrg hz noO hbel B1 B2 B3
  refine Raw.of fun n H gg cs hn hag hgg hgO hgv => ?_
  replace B1 := B1.to hn (hag g1 (.inr (.inl rfl)))
  have q1 := B1.at_
  have ng1 : gg ≠ g1 := fun h => hgg (.inr (.inl h))
  replace B2 := B2.to hn (hag g2 (.inr (.inr (.inl rfl))))
  have q2 := B2.at_
  have ng2 : gg ≠ g2 := fun h => hgg (.inr (.inr (.inl h)))
  replace B3 := B3.to hn (hag g3 (.inr (.inr (.inr rfl))))
  have q3 := B3.at_
  have ng3 : gg ≠ g3 := fun h => hgg (.inr (.inr (.inr h)))
  have nog : ¬ O gg := fun h => hgg (.inl h)
  replace hbel : ∀ g, O g → g < n := fun g h => Nat.lt_of_lt_of_le (hbel g h) hn
  replace hr := hr.at_ (fun g hg => hag g (.inl hg)) hn
  refine ⟨SZ, ?_⟩
  have hc := hr.to n H gg cs (Nat.le_refl _) (fun _ _ => rfl) nog noO hgv
  generalize hR : Cz _ _ _ _ _ _ _ _ _ _ _ = R
  refine A2 Tryz.func136 Z4 rfl fun hs => ?_
  repeat' (first | simp -implicitDefEqProofs [P6, A37, -getElem?_pos, q1, q2, q3, splice, -AA] | simp (disch := omega) only [A6] | (refine BS hc ⟨?_⟩; rintro r n' H' hle hsup ⟨v, O', rfl, ha, _⟩) | (with_reducible first | exact AG | refine Bb ?_ | intro _g _hg | refine A5 ?_ ?_ | intro _hc) | omega)
  subst hR
  exact A9 (r := .tup [_, _]) rfl (by omega) hsup ⟨0, _, rfl, ((ha).ext (B := fun g => g = g1 ∨ g = g2 ∨ g = g3) (fun g h => by have := B1.lt; have := B2.lt; have := B3.lt; rcases h with rfl | rfl | rfl <;> omega) (fun _ _ => rfl) (fun _ _ => rfl) (fun h => h.elim ng1 (fun h => h.elim ng2 ng3))), fun h => by cases h⟩
 | cons e l ih =>
  obtain ⟨y, c⟩ := e
  intro cur z O H0 n0 hr hrg hz noO hbel B1 B2 B3
  refine Raw.of fun n H gg cs hn hag hgg hgO hgv => ?_
  replace B1 := B1.to hn (hag g1 (.inr (.inl rfl)))
  have q1 := B1.at_
  have ng1 : gg ≠ g1 := fun h => hgg (.inr (.inl h))
  replace B2 := B2.to hn (hag g2 (.inr (.inr (.inl rfl))))
  have q2 := B2.at_
  have ng2 : gg ≠ g2 := fun h => hgg (.inr (.inr (.inl h)))
  replace B3 := B3.to hn (hag g3 (.inr (.inr (.inr rfl))))
  have q3 := B3.at_
  have ng3 : gg ≠ g3 := fun h => hgg (.inr (.inr (.inr h)))
  have nog : ¬ O gg := fun h => hgg (.inl h)
  replace hbel : ∀ g, O g → g < n := fun g h => Nat.lt_of_lt_of_le (hbel g h) hn
  replace hr := hr.at_ (fun g hg => hag g (.inl hg)) hn
  refine ⟨SZ, ?_⟩
  have hc := hr.to n H gg cs (Nat.le_refl _) (fun _ _ => rfl) nog noO hgv
  have hap := OL op z y (by omega) hz hrg.hd (by omega)
  have hz' : AW (CH op z y) := PR hop z y hz hrg.hd
  generalize hR : Cz _ _ _ _ _ _ _ _ _ _ _ = R
  refine A2 Tryz.func136 Z4 rfl fun hs => ?_
  repeat' (first | simp -implicitDefEqProofs [P6, A37, -getElem?_pos, q1, q2, q3, splice, -AA] | simp (disch := omega) only [A6] | (refine BS hc ⟨?_⟩; rintro r n' H' hle hsup ⟨O', rfl, ha, hr'⟩; have B1' := B1.go ng1 ha; have B2' := B2.go ng2 ha; have B3' := B3.go ng3 ha; have q2 := B2'.at_; have q3 := B3'.at_) | ((with_reducible refine AO 102 ?_); refine' Aa (hap) ?_) | (with_reducible first | exact AG | refine Bb ?_ | intro _g _hg | refine A5 ?_ ?_ | intro _hc) | omega)
  subst hR
  have := B3'.lt
  exact A9 (r := .tup [_, _]) rfl (by omega) (fun k hk => by rw [upd_ne (by omega)]; exact hsup k hk) ⟨_, rfl, ((ha).ext (B := fun g => g = g1 ∨ g = g2 ∨ g = g3) (fun g h => by have := B1.lt; have := B2.lt; have := B3.lt; rcases h with rfl | rfl | rfl <;> omega) (fun _ _ => rfl) (fun g h => by rw [upd_ne (fun e => h (.inr (.inr e)))]) (fun h => h.elim ng1 (fun h => h.elim ng2 ng3))), ih c _ O' _ n' (hr'.at_ (fun g hg => upd_ne (fun h => B3'.no (h ▸ hg))) (Nat.le_refl _)) hrg.tl hz' (ha.nO noO (hgv.lt hs).1) ha.bel (B1'.keep n13) (B2'.keep n23) (B3'.set _)⟩
theorem PY : Ae Tryz.prog 132 = true := by kernel_rfl
theorem take_zero {gO lo : Nat} {fin : AQ} {px : AV} {g1 g2 : Nat} (l : Ad) (cur : AQ) (O : Nat → Prop) (H0 : A1) (n0 : Nat) (noO : ¬ O gO) (hbel : ∀ g, O g → g < n0) (B1 : Bx O gO g1 H0 n0 (BW 0)) (B2 : Bx O gO g2 H0 n0 (Bg px)) :
  Raw false gO lo (Da 0 cur l fin).2 (.fn 132 [] [.ptr g1 0, .ptr g2 0]) (Da 0 cur l fin).1 cur (fun g => O g ∨ g = g1 ∨ g = g2) H0 n0 := by
 have hr : Raw false gO lo fin px [] cur (fun _ => False) H0 n0 ∨ True := .inr trivial
 refine Raw.of fun n H gg cs hn hag hgg hgO hgv => ?_
 replace B1 := B1.to hn (hag g1 (.inr (.inl rfl)))
 have q1 := B1.at_
 replace B2 := B2.to hn (hag g2 (.inr (.inr rfl)))
 have ng1 : gg ≠ g1 := fun h => hgg (.inr (.inl h))
 have ng2 : gg ≠ g2 := fun h => hgg (.inr (.inr h))
 replace hbel : ∀ g, O g → g < n := fun g h => Nat.lt_of_lt_of_le (hbel g h) hn
 refine ⟨PY, ?_⟩
 have e1 : Da 0 cur l fin = ([], cur) := by cases l <;> rfl
 rw [e1]
 generalize hR : Cz _ _ _ _ _ _ _ _ _ _ _ = R
 refine A2 Tryz.func132 Uf rfl fun hs => ?_
 repeat' (first | simp -implicitDefEqProofs [J1, A04, -getElem?_pos, q1, splice, -AA] | simp (disch := omega) only [A6] | (with_reducible first | exact AG | refine Bb ?_ | intro _g _hg | refine A5 ?_ ?_ | intro _hc) | omega)
 subst hR
 exact A9 (r := .tup [_, _]) rfl (by omega) hs ⟨0, _, rfl, (((Aft.same hgv hbel)).ext (B := fun g => g = g1 ∨ g = g2) (fun g h => by have := B1.lt; have := B2.lt; rcases h with rfl | rfl <;> omega) (fun _ _ => rfl) (fun _ _ => rfl) (fun h => h.elim ng1 ng2)), fun h => by cases h⟩
theorem ZG {gO lo : Nat} {fin : AQ} {px : AV} {g1 g2 : Nat} (n12 : g1 ≠ g2) : ∀ (l : Ad) (cur : AQ) (m : Nat) (O : Nat → Prop) (H0 : A1) (n0 : Nat), Raw true gO lo fin px l cur O H0 n0 → m ≤ 5000 → ¬ O gO → (∀ g, O g → g < n0) →
  Bx O gO g1 H0 n0 (BW m) → Bx O gO g2 H0 n0 (Bg px) → Raw false gO lo (Da m cur l fin).2 (.fn 132 [] [.ptr g1 0, .ptr g2 0]) (Da m cur l fin).1 cur (fun g => O g ∨ g = g1 ∨ g = g2) H0 n0 := by
 intro l
 induction l with
 | nil =>
  intro cur m O H0 n0 hr hm noO hbel B1 B2
  cases m with
  | zero => exact take_zero [] cur O H0 n0 noO hbel B1 B2
  | succ m =>
   refine Raw.of fun n H gg cs hn hag hgg hgO hgv => ?_
   replace B1 := B1.to hn (hag g1 (.inr (.inl rfl)))
   have q1 := B1.at_
   have ng1 : gg ≠ g1 := fun h => hgg (.inr (.inl h))
   replace B2 := B2.to hn (hag g2 (.inr (.inr rfl)))
   have q2 := B2.at_
   have ng2 : gg ≠ g2 := fun h => hgg (.inr (.inr h))
   have nog : ¬ O gg := fun h => hgg (.inl h)
   replace hbel : ∀ g, O g → g < n := fun g h => Nat.lt_of_lt_of_le (hbel g h) hn
   replace hr := hr.at_ (fun g hg => hag g (.inl hg)) hn
   refine ⟨PY, ?_⟩
   have hm0 : ¬ ((m + 1 : Nat) : Int) = 0 := by omega
   have hc := (hr.at_ (H1 := upd H g1 (some (BW m))) (fun g hg => upd_ne (fun h => B1.no (h ▸ hg))) (Nat.le_refl _)).to n _ gg cs (Nat.le_refl _) (fun _ _ => rfl) nog noO (hgv.keep B1.nO ng1)
   have hw : ((m + 1 : Nat) : Int) - 1 = m := by omega
   generalize hR : Cz _ _ _ _ _ _ _ _ _ _ _ = R
   generalize ((m + 1 : Nat) : Int) = m1 at *
   refine A2 Tryz.func132 Uf rfl fun hs => ?_
   repeat' (first | simp -implicitDefEqProofs [J1, A04, -getElem?_pos, q1, q2, hm0, hw, n12, Ne.symm n12, splice, -AA] | simp (disch := omega) only [A6] | (refine BS hc ⟨?_⟩; rintro r n' H' hle hsup ⟨v, O', rfl, ha, _⟩) | (with_reducible first | exact AG | refine Bb ?_ | intro _g _hg | refine A5 ?_ ?_ | intro _hc) | omega)
   subst hR
   exact A9 (r := .tup [_, _]) rfl (by omega) hsup ⟨v, _, rfl, ((ha).ext (B := fun g => g = g1 ∨ g = g2) (fun g h => by have := B1.lt; have := B2.lt; rcases h with rfl | rfl <;> omega) (fun g h => by rw [upd_ne (fun e => h (.inl e))]) (fun _ _ => rfl) (fun h => h.elim ng1 ng2)), fun h => by cases h⟩
 | cons e l ih =>
  obtain ⟨y, c⟩ := e
  intro cur m O H0 n0 hr hm noO hbel B1 B2
  cases m with
  | zero => exact take_zero _ cur O H0 n0 noO hbel B1 B2
  | succ m =>
   refine Raw.of fun n H gg cs hn hag hgg hgO hgv => ?_
   replace B1 := B1.to hn (hag g1 (.inr (.inl rfl)))
   have q1 := B1.at_
   have ng1 : gg ≠ g1 := fun h => hgg (.inr (.inl h))
   replace B2 := B2.to hn (hag g2 (.inr (.inr rfl)))
   have q2 := B2.at_
   have ng2 : gg ≠ g2 := fun h => hgg (.inr (.inr h))
   have nog : ¬ O gg := fun h => hgg (.inl h)
   replace hbel : ∀ g, O g → g < n := fun g h => Nat.lt_of_lt_of_le (hbel g h) hn
   replace hr := hr.at_ (fun g hg => hag g (.inl hg)) hn
   refine ⟨PY, ?_⟩
   have hm0 : ¬ ((m + 1 : Nat) : Int) = 0 := by omega
   have B1u := B1.set (BW m)
   have B2u : Bx O gO g2 (upd H g1 (some (BW m))) n _ := B2.keep (Ne.symm n12)
   have hc := (hr.at_ (H1 := upd H g1 (some (BW m))) (fun g hg => upd_ne (fun h => B1.no (h ▸ hg))) (Nat.le_refl _)).to n _ gg cs (Nat.le_refl _) (fun _ _ => rfl) nog noO (hgv.keep B1.nO ng1)
   have hw : ((m + 1 : Nat) : Int) - 1 = m := by omega
   generalize hR : Cz _ _ _ _ _ _ _ _ _ _ _ = R
   generalize ((m + 1 : Nat) : Int) = m1 at *
   refine A2 Tryz.func132 Uf rfl fun hs => ?_
   repeat' (first | simp -implicitDefEqProofs [J1, A04, -getElem?_pos, q1, q2, hm0, hw, n12, Ne.symm n12, splice, -AA] | simp (disch := omega) only [A6] | (refine BS hc ⟨?_⟩; rintro r n' H' hle hsup ⟨O', rfl, ha, hr'⟩) | (with_reducible first | exact AG | refine Bb ?_ | intro _g _hg | refine A5 ?_ ?_ | intro _hc) | omega)
   subst hR
   exact A9 (r := .tup [_, _]) rfl (by omega) hsup ⟨_, rfl, ((ha).ext (B := fun g => g = g1 ∨ g = g2) (fun g h => by have := B1.lt; have := B2.lt; rcases h with rfl | rfl <;> omega) (fun g h => by rw [upd_ne (fun e => h (.inl e))]) (fun _ _ => rfl) (fun h => h.elim ng1 ng2)), ih c m O' _ n' hr' (by omega) (ha.nO noO (hgv.lt hs).1) ha.bel (B1u.go ng1 ha) (B2u.go ng2 ha)⟩
theorem SI : Ae Tryz.prog 97 = true := by kernel_rfl
theorem Ug {cs : AQ} {lo : Nat} {x : Int} : splice (cs.map aI) lo [aI x] = (Ci cs lo [x]).map aI := by simp [splice, Ci]
abbrev QY (x : AV) : AObj := .cells 22 [x]
theorem ZR {gO lo : Nat} {g1 g2 g3 z : Nat} {t : Tok} {xs : List Int} (hx : xs.length ≤ 140737488355328) (hz : z = 1 ∨ xs = []) : ∀ (r i : Nat) (O : Nat → Prop) (H0 : A1) (n0 : Nat), i + r = xs.length → ¬ O gO → (∀ g, O g → g < n0) →
  Bx O gO g1 H0 n0 (.cells 72 [.ptr gO 0]) → Bx O gO g2 H0 n0 (BW lo) → Bx O gO g3 H0 n0 (QY (.sl z (xs.map aI) t)) →
  Raw false gO lo [(xs.length : Int)] (.fn 97 [] [.ptr g1 0, .ptr g2 0, .ptr g3 0]) (LO i (xs.drop i)) [(i : Int)] (fun g => O g ∨ g = g1 ∨ g = g2 ∨ g = g3) H0 n0 := by
 intro r
 induction r with
 | zero =>
  intro i O H0 n0 hi noO hbel B1 B2 B3
  refine Raw.of fun n H gg cs hn hag hgg hgO hgv => ?_
  replace B1 := B1.to hn (hag g1 (.inr (.inl rfl)))
  have q1 := B1.at_
  have ng1 : gg ≠ g1 := fun h => hgg (.inr (.inl h))
  replace B2 := B2.to hn (hag g2 (.inr (.inr (.inl rfl))))
  have q2 := B2.at_
  have ng2 : gg ≠ g2 := fun h => hgg (.inr (.inr (.inl h)))
  replace B3 := B3.to hn (hag g3 (.inr (.inr (.inr rfl))))
  have q3 := B3.at_
  have ng3 : gg ≠ g3 := fun h => hgg (.inr (.inr (.inr h)))
  have nog : ¬ O gg := fun h => hgg (.inl h)
  replace hbel : ∀ g, O g → g < n := fun g h => Nat.lt_of_lt_of_le (hbel g h) hn
  refine ⟨SI, ?_⟩
  have e1 : xs.drop i = [] := List.drop_eq_nil_of_le (by omega)
  rw [e1]
  have e2 : i = xs.length := by omega
  subst e2
  have o1 := hgv.opn
  have o2 := hgv.giv
  have hfit := hgv.fit
  simp only [List.length_cons, List.length_nil] at hfit
  have hlo : (cs.map aI)[lo]? = some (aI xs.length) := by
   have h1 := hgv.at_
   have h2 : ((cs.drop lo).take 1)[0]? = some (xs.length : Int) := by rw [show (1 : Nat) = [((xs.length : Nat) : Int)].length from rfl, h1]; rfl
   rw [List.getElem?_take] at h2
   simp only [List.getElem?_drop] at h2
   simpa using h2
  have hl : (lo : Int) < cs.length := by omega
  have hl2 : ((xs.map aI).length : Int) = xs.length := by simp
  have hext := Aft.same hgv hbel
  generalize hR : Cz _ _ _ _ _ _ _ _ _ _ _ = R
  generalize cs.map aI = csa at *
  generalize xs.map aI = xsa at *
  refine A2 Tryz.func97 A1w rfl fun hs => ?_
  repeat' (first | simp -implicitDefEqProofs [Qt, c97, -getElem?_pos, q1, q2, q3, o1, o2, hlo, hl, hl2, splice] | simp (disch := omega) only [A6] | (with_reducible first | exact AG | refine Bb ?_ | intro _g _hg | refine A5 ?_ ?_ | intro _hc) | omega)
  subst hR
  exact A9 (r := .tup [_, _]) rfl (by omega) hs ⟨0, _, rfl, ((hext).ext (B := fun g => g = g1 ∨ g = g2 ∨ g = g3) (fun g h => by have := B1.lt; have := B2.lt; have := B3.lt; rcases h with rfl | rfl | rfl <;> omega) (fun _ _ => rfl) (fun _ _ => rfl) (fun h => h.elim ng1 (fun h => h.elim ng2 ng3))), fun h => by cases h⟩
 | succ r ih =>
  intro i O H0 n0 hi noO hbel B1 B2 B3
  refine Raw.of fun n H gg cs hn hag hgg hgO hgv => ?_
  replace B1 := B1.to hn (hag g1 (.inr (.inl rfl)))
  have q1 := B1.at_
  have ng1 : gg ≠ g1 := fun h => hgg (.inr (.inl h))
  replace B2 := B2.to hn (hag g2 (.inr (.inr (.inl rfl))))
  have q2 := B2.at_
  have ng2 : gg ≠ g2 := fun h => hgg (.inr (.inr (.inl h)))
  replace B3 := B3.to hn (hag g3 (.inr (.inr (.inr rfl))))
  have q3 := B3.at_
  have ng3 : gg ≠ g3 := fun h => hgg (.inr (.inr (.inr h)))
  have nog : ¬ O gg := fun h => hgg (.inl h)
  replace hbel : ∀ g, O g → g < n := fun g h => Nat.lt_of_lt_of_le (hbel g h) hn
  refine ⟨SI, ?_⟩
  have hil : i < xs.length := by omega
  have hz1 : z = 1 := hz.elim id (fun h => by subst h; simp at hil)
  subst hz1
  obtain ⟨y, hy⟩ : ∃ y, xs[i]? = some y := ⟨_, List.getElem?_eq_getElem hil⟩
  have e1 : xs.drop i = y :: xs.drop (i + 1) := drop_at hy
  rw [e1]
  have o1 := hgv.opn
  have o2 := hgv.giv
  have hfit := hgv.fit
  simp only [List.length_cons, List.length_nil] at hfit
  have hlo : (cs.map aI)[lo]? = some (aI i) := by
   have h1 := hgv.at_
   have h2 : ((cs.drop lo).take 1)[0]? = some (i : Int) := by rw [show (1 : Nat) = [((i : Nat) : Int)].length from rfl, h1]; rfl
   rw [List.getElem?_take] at h2
   simp only [List.getElem?_drop] at h2
   simpa using h2
  have hl : (lo : Int) < cs.length := by omega
  have hl2 : ((xs.map aI).length : Int) = xs.length := by simp
  have hcl : (cs.map aI).length = cs.length := by simp
  have hcl2 : lo + 1 ≤ (cs.map aI).length := by omega
  have hne : ¬ (i : Int) = xs.length := by omega
  have hya := Iu (f := aI) hy
  have hsp := Ug (cs := cs) (lo := lo) (x := ((i + 1 : Nat) : Int))
  have hw : IntKind.i64.wrap ((i : Int) + 1) = ((i + 1 : Nat) : Int) := by rw [IntWalk.i64_in _ (by omega)]; omega
  have hlt := hgv.lt (n := n)
  have hput := fun (H' : A1) => hgv.put (c' := [((i + 1 : Nat) : Int)]) (H' := H') rfl
  have hgo := hgv.ne
  generalize hR : Cz _ _ _ _ _ _ _ _ _ _ _ = R
  generalize hcsa : cs.map aI = csa at *
  generalize xs.map aI = xsa at *
  generalize hi1 : ((i + 1 : Nat) : Int) = i1 at *
  refine A2 Tryz.func97 A1w rfl fun hs => ?_
  repeat' (first | simp -implicitDefEqProofs [Qt, c97, -getElem?_pos, q1, q2, q3, o1, o2, hlo, hl, hl2, hne, hw, hcl2, hya] | simp (disch := omega) only [A6] | (with_reducible first | exact AG | refine Bb ?_ | intro _g _hg | refine A5 ?_ ?_ | intro _hc) | omega)
  subst hR hi1
  have hb : Aft lo gg cs [((i + 1 : Nat) : Int)] O n H n (upd H gg (some (AObj.grow 3 (splice csa lo [aI ((i + 1 : Nat) : Int)])))) O :=
   ⟨Nat.le_refl _, fun g h => .inl h, hbel, fun g h1 h2 h3 => upd_ne h3, by rw [AP, hsp]⟩
  have hgl := (hlt hs).2
  exact A9 (r := .tup [_, _]) rfl (by omega) (fun k hk => by rw [upd_ne (by omega)]; exact hs k hk) ⟨_, rfl, ((hb).ext (B := fun g => g = g1 ∨ g = g2 ∨ g = g3) (fun g h => by have := B1.lt; have := B2.lt; have := B3.lt; rcases h with rfl | rfl | rfl <;> omega) (fun _ _ => rfl) (fun _ _ => rfl) (fun h => h.elim ng1 (fun h => h.elim ng2 ng3))), ih (i + 1) O _ n (by omega) noO hbel (B1.keep (Ne.symm ng1)) (B2.keep (Ne.symm ng2)) (B3.keep (Ne.symm ng3))⟩
theorem Ux : Ae Tryz.prog 101 = true := by kernel_rfl
structure Pt where
 x : AV
 l : Option Ad
 cur : AQ
 fin : AQ
 O : Nat → Prop
def PtOk (gO lo : Nat) (p : Pt) (H : A1) (n : Nat) : Prop := match p.l with
 | some l => Raw true gO lo p.fin p.x l p.cur p.O H n ∧ monL p.cur l p.fin
 | none => Ended gO lo p.fin p.x p.O H n ∧ p.cur = p.fin
def AD : List Pt → AQ
 | [] => []
 | p :: ps => p.cur ++ AD ps
def OU : List Pt → Nat → Prop
 | [], _ => False
 | p :: ps, g => p.O g ∨ OU ps g
def Pts (gO lo : Nat) : List Pt → A1 → Nat → Prop
 | [], _, _ => True
 | p :: ps, H, n => PtOk gO lo p H n ∧ (∀ g, p.O g → g < n) ∧ (∀ g, p.O g → ¬ OU ps g) ∧ Pts gO (lo + p.cur.length) ps H n
theorem Et : ∀ a b : List Pt, AD (a ++ b) = AD a ++ AD b
 | [], b => rfl
 | p :: a, b => by simp [AD, Et a b]
theorem Ed : ∀ (a b : List Pt) (g : Nat), OU (a ++ b) g ↔ OU a g ∨ OU b g
 | [], b, g => by simp [OU]
 | p :: a, b, g => by simp [OU, Ed a b g, or_assoc]
theorem PtOk.at_ {gO lo : Nat} {p : Pt} {H H1 : A1} {n n1 : Nat} (h : PtOk gO lo p H n) (hH : ∀ g, p.O g → H1 g = H g) (hn : n ≤ n1) : PtOk gO lo p H1 n1 := by
 unfold PtOk at h ⊢
 split at h
 ·exact ⟨h.1.at_ hH hn, h.2⟩
 ·exact ⟨h.1.at_ hH hn, h.2⟩
theorem Pts.at_ : ∀ {ps : List Pt} {gO lo : Nat} {H H1 : A1} {n n1 : Nat}, Pts gO lo ps H n → (∀ g, OU ps g → H1 g = H g) → n ≤ n1 → Pts gO lo ps H1 n1
 | [], _, _, _, _, _, _, _, _, _ => trivial
 | p :: ps, _, _, _, _, _, _, h, hH, hn => ⟨h.1.at_ (fun g hg => hH g (.inl hg)) hn, fun g hg => Nat.lt_of_lt_of_le (h.2.1 g hg) hn, h.2.2.1, h.2.2.2.at_ (fun g hg => hH g (.inr hg)) hn⟩
theorem Pts.bel : ∀ {ps : List Pt} {gO lo : Nat} {H : A1} {n : Nat}, Pts gO lo ps H n → ∀ g, OU ps g → g < n
 | [], _, _, _, _, _, g, hg => hg.elim
 | p :: ps, _, _, _, _, h, g, hg => hg.elim (h.2.1 g) (h.2.2.2.bel g)
theorem Giv.cut {gO lo gg : Nat} {c cs : AQ} {H : A1} (h : Giv gO lo c H gg cs) : ∃ X Y, cs = X ++ (c ++ Y) ∧ X.length = lo := by
 refine ⟨cs.take lo, cs.drop (lo + c.length), ?_, ?_⟩
 ·have h1 := Dx h
  unfold Ci at h1
  rw [List.append_assoc] at h1
  exact h1.symm
 ·have := h.fit; simp; omega
theorem Us {X Y c c' : AQ} (h : c'.length = c.length) : Ci (X ++ (c ++ Y)) X.length c' = X ++ (c' ++ Y) := by
 unfold Ci
 rw [List.take_left, List.append_assoc, ← List.append_assoc X c Y, List.drop_left' (by simp; omega)]
theorem Giv.mid {gO lo gg : Nat} {p a s cs : AQ} {H : A1} (h : Giv gO lo (p ++ (a ++ s)) H gg cs) : Giv gO (lo + p.length) a H gg cs := by
 obtain ⟨X, Y, rfl, rfl⟩ := h.cut
 refine ⟨h.opn, h.giv, by simp; omega, ?_⟩
 have : X ++ (p ++ (a ++ s) ++ Y) = (X ++ p) ++ (a ++ (s ++ Y)) := by simp
 rw [this, List.drop_left' (by simp), List.take_left]
theorem ZK {gO lo gg : Nat} {p a a' s cs : AQ} {H : A1} (h : Giv gO lo (p ++ (a ++ s)) H gg cs) (hl : a'.length = a.length) : Ci cs (lo + p.length) a' = Ci cs lo (p ++ (a' ++ s)) := by
 obtain ⟨X, Y, rfl, rfl⟩ := h.cut
 rw [Us (by simp; omega)]
 have h1 : X ++ (p ++ (a ++ s) ++ Y) = (X ++ p) ++ (a ++ (s ++ Y)) := by simp
 rw [h1, show X.length + p.length = (X ++ p).length by simp, Us hl]
 simp
theorem Aft.mid {gO lo gg n n' : Nat} {p a a' s cs : AQ} {H H' : A1} {O O' : Nat → Prop} (h : Giv gO lo (p ++ (a ++ s)) H gg cs) (hl : a'.length = a.length) (ha : Aft (lo + p.length) gg cs a' O n H n' H' O') : Aft lo gg cs (p ++ (a' ++ s)) O n H n' H' O' :=
 ⟨ha.le, ha.sub, ha.bel, ha.fr, by rw [← ZK h hl]; exact ha.giv⟩
theorem Aft.congr {lo gg n n' : Nat} {c cs : AQ} {H H' : A1} {O O' P P' : Nat → Prop} (ha : Aft lo gg cs c O n H n' H' O') (h : ∀ g, O g ↔ P g) (h' : ∀ g, O' g ↔ P' g) : Aft lo gg cs c P n H n' H' P' :=
 ⟨ha.le, fun g hg => (ha.sub g ((h' g).2 hg)).elim (fun k => .inl ((h g).1 k)) .inr, fun g hg => ha.bel g ((h' g).2 hg), fun g h1 h2 h3 => ha.fr g h1 (fun k => h2 ((h g).1 k)) h3, ha.giv⟩
theorem Pts.repl : ∀ {qs bs : List Pt} {p p' : Pt} {gO lo n n' : Nat} {H H' : A1}, Pts gO lo (qs ++ p :: bs) H n → p'.cur.length = p.cur.length → n ≤ n' → (∀ g, p'.O g → p.O g ∨ n ≤ g) → (∀ g, p'.O g → g < n') → (∀ g, g < n → ¬ p.O g → OU (qs ++ p :: bs) g → H' g = H g) →
  PtOk gO (lo + (AD qs).length) p' H' n' → Pts gO lo (qs ++ p' :: bs) H' n'
 | [], bs, p, p', gO, lo, n, n', H, H', h, hl, hn, hsub, hbel, hfr, hk => by
  refine ⟨by simpa [AD] using hk, hbel, fun g hg => ?_, ?_⟩
  ·rcases hsub g hg with h1 | h1
   ·exact h.2.2.1 g h1
   ·intro h2; have := h.2.2.2.bel g h2; omega
  ·rw [hl]
   refine h.2.2.2.at_ (fun g hg => hfr g (h.2.2.2.bel g hg) (fun h1 => h.2.2.1 g h1 hg) (.inr hg)) hn
 | q :: qs, bs, p, p', gO, lo, n, n', H, H', h, hl, hn, hsub, hbel, hfr, hk => by
  obtain ⟨h1, h2, h3, h4⟩ := h
  have hd : ∀ g, q.O g → ¬ p.O g := fun g hg hp => h3 g hg ((Ed qs (p :: bs) g).2 (.inr (.inl hp)))
  refine ⟨h1.at_ (fun g hg => hfr g (h2 g hg) (hd g hg) (.inl hg)) hn, fun g hg => Nat.lt_of_lt_of_le (h2 g hg) hn, fun g hg hg' => ?_, ?_⟩
  ·rcases (Ed qs (p' :: bs) g).1 hg' with h5 | h5 | h5
   ·exact h3 g hg ((Ed qs (p :: bs) g).2 (.inl h5))
   ·rcases hsub g h5 with h6 | h6
    ·exact hd g hg h6
    ·have := h2 g hg; omega
   ·exact h3 g hg ((Ed qs (p :: bs) g).2 (.inr (.inr h5)))
  ·exact h4.repl hl hn hsub hbel (fun g h5 h6 h7 => hfr g h5 h6 (.inr h7)) (by simpa [AD, Nat.add_assoc] using hk)
def PtR (p : Pt) (r : AV) (p' : Pt) : Prop := p'.x = p.x ∧ p'.fin = p.fin ∧ match p.l with
 | none => r = .tup [aI 0, .bool false] ∧ p'.l = none ∧ p'.cur = p.cur
 | some [] => (∃ v : Int, r = .tup [aI v, .bool false]) ∧ p'.l = none ∧ p'.cur = p.fin
 | some ((y, c) :: l) => r = .tup [aI y, .bool true] ∧ p'.l = some l ∧ p'.cur = c
theorem Pts.part : ∀ {qs bs : List Pt} {p : Pt} {gO lo n : Nat} {H : A1}, Pts gO lo (qs ++ p :: bs) H n → PtOk gO (lo + (AD qs).length) p H n
 | [], bs, p, gO, lo, n, H, h => by simpa [AD] using h.1
 | q :: qs, bs, p, gO, lo, n, H, h => by
  have := h.2.2.2.part
  simpa [AD, Nat.add_assoc] using this
theorem Pts.call {qs bs : List Pt} {p : Pt} {gO lo gg n : Nat} {cs : AQ} {H : A1} {d : Option Nat} {K : AS → Prop} {en : AJ} (h : Pts gO lo (qs ++ p :: bs) H n) (hg : Giv gO lo (AD (qs ++ p :: bs)) H gg cs) (h1 : ¬ OU (qs ++ p :: bs) gg) (h2 : ¬ OU (qs ++ p :: bs) gO)
  (hk : ∀ r n' H' p', n ≤ n' → (∀ g, n' ≤ g → H' g = none) → PtR p r p' → Pts gO lo (qs ++ p' :: bs) H' n' → Aft lo gg cs (AD (qs ++ p' :: bs)) (OU (qs ++ p :: bs)) n H n' H' (OU (qs ++ p' :: bs)) → K ⟨AC en d r, n', H'⟩) :
  AA Tryz.prog d K en n H [] p.x := by
 have hpO : ∀ g, p.O g → OU (qs ++ p :: bs) g := fun g hg => (Ed qs (p :: bs) g).2 (.inr (.inl hg))
 have hgw : Giv gO lo (AD qs ++ (p.cur ++ AD bs)) H gg cs := by rw [Et] at hg; exact hg
 have hgp := hgw.mid
 have main : ∀ (n' : Nat) (H' : A1) (p' : Pt), Aft (lo + (AD qs).length) gg cs p'.cur p.O n H n' H' p'.O → p'.cur.length = p.cur.length → PtOk gO (lo + (AD qs).length) p' H' n' → Pts gO lo (qs ++ p' :: bs) H' n' ∧ Aft lo gg cs (AD (qs ++ p' :: bs)) (OU (qs ++ p :: bs)) n H n' H' (OU (qs ++ p' :: bs)) := by
  intro n' H' p' ha hl hok
  refine ⟨h.repl hl ha.le ha.sub ha.bel (fun g k1 k2 k3 => ha.fr g k1 k2 (fun e => h1 (e ▸ k3))) hok, ?_⟩
  have h3 := Aft.mid hgw hl ha
  have h4 := h3.ext (B := fun g => OU qs g ∨ OU bs g) (H := H) (H2 := H') (fun g hb => h.bel g ((Ed qs (p :: bs) g).2 (hb.elim .inl fun k => .inr (.inr k)))) (fun _ _ => rfl) (fun _ _ => rfl) (fun hb => h1 ((Ed qs (p :: bs) gg).2 (hb.elim .inl fun k => .inr (.inr k))))
  have h5 : AD (qs ++ p' :: bs) = AD qs ++ (p'.cur ++ AD bs) := by rw [Et]; rfl
  rw [h5]
  refine h4.congr (fun g => ?_) (fun g => ?_)
  ·rw [Ed]; simp only [OU]; grind
  ·rw [Ed]; simp only [OU]; grind
 have hok := h.part
 obtain ⟨x, l, cur, fin, O⟩ := p
 cases l with
 | none =>
  obtain ⟨h3, h4⟩ := hok
  simp only at h4 hgp h3 hgw
  subst h4
  have hc := h3 n H gg cs (Nat.le_refl _) (fun _ _ => rfl) (fun k => h1 (hpO _ k)) (fun k => h2 (hpO _ k)) hgp
  refine BS hc ⟨?_⟩
  rintro r n' H' hle hsup ⟨rfl, rfl, rfl⟩
  have hb : Aft (lo + (AD qs).length) gg cs cur O n' H' n' H' O := Aft.same hgp fun g k => h.bel g (hpO g k)
  obtain ⟨m1, m2⟩ := main n' H' ⟨x, none, cur, cur, O⟩ hb rfl ⟨h3, rfl⟩
  exact hk _ _ _ _ hle hsup ⟨rfl, rfl, rfl, rfl, rfl⟩ m1 m2
 | some l =>
  obtain ⟨h3, h4⟩ := hok
  simp only at h4 hgp h3 hgw
  have hc := h3.to n H gg cs (Nat.le_refl _) (fun _ _ => rfl) (fun k => h1 (hpO _ k)) (fun k => h2 (hpO _ k)) hgp
  refine BS hc ⟨?_⟩
  cases l with
  | nil =>
   rintro r n' H' hle hsup ⟨v, O', rfl, ha, he⟩
   obtain ⟨m1, m2⟩ := main n' H' ⟨x, none, fin, fin, O'⟩ ha h4.1.symm ⟨he rfl, rfl⟩
   exact hk _ _ _ ⟨x, none, fin, fin, O'⟩ hle hsup ⟨rfl, rfl, ⟨v, rfl⟩, rfl, rfl⟩ m1 m2
  | cons e l =>
   obtain ⟨y, c⟩ := e
   rintro r n' H' hle hsup ⟨O', rfl, ha, hr⟩
   obtain ⟨m1, m2⟩ := main n' H' ⟨x, some l, c, fin, O'⟩ ha h4.1.1.symm ⟨hr, h4.2⟩
   exact hk _ _ _ ⟨x, some l, c, fin, O'⟩ hle hsup ⟨rfl, rfl, rfl, rfl, rfl⟩ m1 m2
theorem PtOk.len {gO lo n : Nat} {p : Pt} {H : A1} (h : PtOk gO lo p H n) : p.fin.length = p.cur.length := by
 unfold PtOk at h
 split at h
 ·exact (monL.fin h.2).1.symm
 ·rw [h.2]
theorem PtR.len {gO lo n n' lo' : Nat} {p p' : Pt} {H H' : A1} {r : AV} (h : PtR p r p') (k : PtOk gO lo p H n) : p'.cur.length = p.cur.length := by
 obtain ⟨x, l, cur, fin, O⟩ := p
 have h1 := k.len
 unfold PtR at h
 unfold PtOk at k
 match l, h, k with
 | none, h, k => rw [h.2.2.2.2]
 | some [], h, k => rw [h.2.2.2.2]; exact h1
 | some ((y, c) :: l), h, k => rw [h.2.2.2.2]; exact k.2.1.1.symm
structure Sit (gO lo : Nat) (ps : List Pt) (H : A1) (n gg : Nat) (cs : AQ) : Prop where
 pts : Pts gO lo ps H n
 giv : Giv gO lo (AD ps) H gg cs
 ngg : ¬ OU ps gg
 ngO : ¬ OU ps gO
 sup : ∀ g, n ≤ g → H g = none
variable {ps bs : List Pt} {cs c fa fb fin : AQ} {O O' : Nat → Prop} {gO lo g1 g2 g3 i gs : Nat} {xa xb px a b : AV} {op k m : Int} {p p' : Pt} {l : Ad} {t : Tok} {ob : AObj} {q : List Nat} {pd : Int → Bool}
theorem Sit.call {qs bs : List Pt} {p : Pt} {gO lo gg n : Nat} {cs : AQ} {H : A1} {d : Option Nat} {K : AS → Prop} {en : AJ} (h : Sit gO lo (qs ++ p :: bs) H n gg cs)
  (hk : ∀ r n' H' p', n ≤ n' → PtR p r p' → (AD (qs ++ p' :: bs)).length = (AD (qs ++ p :: bs)).length → Sit gO lo (qs ++ p' :: bs) H' n' gg (Ci cs lo (AD (qs ++ p' :: bs))) → Aft lo gg cs (AD (qs ++ p' :: bs)) (OU (qs ++ p :: bs)) n H n' H' (OU (qs ++ p' :: bs)) → K ⟨AC en d r, n', H'⟩) :
  AA Tryz.prog d K en n H [] p.x := by
 have hlt := h.giv.lt h.sup
 refine h.pts.call h.giv h.ngg h.ngO (fun r n' H' p' hle hsup hr hP ha => ?_)
 have hl : (AD (qs ++ p' :: bs)).length = (AD (qs ++ p :: bs)).length := by
  have := hr.len (n' := n') (lo' := lo) (H' := H') h.pts.part
  simp only [Et, AD, List.length_append]; omega
 refine hk r n' H' p' hle hr hl ⟨hP, ha.gv h.giv h.sup h.ngO hl, fun k => (ha.sub gg k).elim h.ngg (fun k => by omega), ha.nO h.ngO hlt.1, hsup⟩ ha
theorem Sit.keep {ps : List Pt} {gO lo gg n g : Nat} {cs : AQ} {H : A1} {x : Option AObj} (h : Sit gO lo ps H n gg cs) (h1 : ¬ OU ps g) (h2 : gO ≠ g) (h3 : gg ≠ g) (h4 : g < n) : Sit gO lo ps (upd H g x) n gg cs :=
 ⟨h.pts.at_ (fun k hk => upd_ne (fun e => h1 (e ▸ hk))) (Nat.le_refl _), h.giv.keep h2 h3, h.ngg, h.ngO, fun k hk => by rw [upd_ne (by omega)]; exact h.sup k hk⟩
theorem Sit.start {gO lo gg n n0 : Nat} {H H0 : A1} (h : Pts gO lo ps H0 n0) (hn : n0 ≤ n) (hag : ∀ g, OU ps g → H g = H0 g) (h1 : ¬ OU ps gg) (h2 : ¬ OU ps gO) (hg : Giv gO lo (AD ps) H gg cs) (hs : ∀ g, n ≤ g → H g = none) : Sit gO lo ps H n gg cs :=
 ⟨h.at_ hag hn, hg, h1, h2, hs⟩
theorem Aft.eqc {lo gg n n' : Nat} {c c' cs : AQ} {H H' : A1} (ha : Aft lo gg cs c O n H n' H' O') (h : c = c') : Aft lo gg cs c' O n H n' H' O' := h ▸ ha
theorem Aft.box {lo gg n n' g : Nat} {H H' : A1} {x : Option AObj} (ha : Aft lo gg cs c O n H n' H' O') (h1 : O g) (h2 : gg ≠ g) : Aft lo gg cs c O n H n' (upd H' g x) O' :=
 ⟨ha.le, ha.sub, ha.bel, fun k k1 k2 k3 => by rw [upd_ne (fun e => k2 (by rw [e]; exact h1))]; exact ha.fr k k1 k2 k3, by rw [upd_ne h2]; exact ha.giv⟩
theorem A13 (hop : 1 ≤ op ∧ op ≤ 5) : ∀ (la : Ad) (ca cb : AQ) (lb : Ad) (O1 O2 O : Nat → Prop) (H0 : A1) (n0 : Nat), Pts gO lo [⟨xa, some la, ca, fa, O1⟩, ⟨xb, some lb, cb, fb, O2⟩] H0 n0 → OU [⟨xa, some la, ca, fa, O1⟩, ⟨xb, some lb, cb, fb, O2⟩] = O → rgE la → rgE lb → ¬ O gO →
  Bx O gO g1 H0 n0 (Bg xa) → Bx O gO g2 H0 n0 (Bg xb) → Bx O gO g3 H0 n0 (BW op) →
  Raw false gO lo (De (CH op) fa fb la cb lb).2 (.fn 101 [] [.ptr g1 0, .ptr g2 0, .ptr g3 0]) (De (CH op) fa fb la cb lb).1 (ca ++ cb) (fun g => O g ∨ g = g1 ∨ g = g2 ∨ g = g3) H0 n0 := by
 intro la
 induction la with
 | nil =>
  intro ca cb lb O1 O2 O H0 n0 hP hO hra hrb noO B1 B2 B3
  have hbel : ∀ g, O g → g < n0 := fun g hg => hP.bel g (hO ▸ hg)
  refine Raw.of fun n H gg cs hn hag hgg hgO hgv => ?_
  replace B1 := B1.to hn (hag g1 (.inr (.inl rfl)))
  have q1 := B1.at_
  have ng1 : gg ≠ g1 := fun h => hgg (.inr (.inl h))
  replace B2 := B2.to hn (hag g2 (.inr (.inr (.inl rfl))))
  have q2 := B2.at_
  have ng2 : gg ≠ g2 := fun h => hgg (.inr (.inr (.inl h)))
  replace B3 := B3.to hn (hag g3 (.inr (.inr (.inr rfl))))
  have q3 := B3.at_
  have ng3 : gg ≠ g3 := fun h => hgg (.inr (.inr (.inr h)))
  have nog : ¬ O gg := fun h => hgg (.inl h)
  replace hbel : ∀ g, O g → g < n := fun g h => Nat.lt_of_lt_of_le (hbel g h) hn
  refine ⟨Ux, ?_⟩
  subst hO
  have hS := fun hs => Sit.start hP hn (fun g hg => hag g (.inl hg)) nog noO (by simpa [AD] using hgv) hs
  generalize hR : Cz _ _ _ _ _ _ _ _ _ _ _ = R
  refine A2 Tryz.func101 UO rfl fun hs => ?_
  have hS := hS hs
  repeat' (first | simp -implicitDefEqProofs [Ir, Id, A0a, -getElem?_pos, q1, q2, q3, splice, -AA] | simp (disch := omega) only [A6] | (refine hS.call (qs := []) (fun r n' H' p' hle hr hl hS1 ha => ?_); obtain ⟨x', l', cur', fin', O'⟩ := p'; dsimp only [PtR] at hr; obtain ⟨rfl, rfl, ⟨v, rfl⟩, rfl, rfl⟩ := hr) | (with_reducible first | exact AG | refine Bb ?_ | intro _g _hg | refine A5 ?_ ?_ | intro _hc) | omega)
  subst hR
  replace ha := ha.eqc (c' := cur' ++ cb) (by simp [AD])
  exact A9 (r := .tup [_, _]) rfl (by omega) hS1.sup ⟨0, _, rfl, ((ha).ext (B := fun g => g = g1 ∨ g = g2 ∨ g = g3) (fun g h => by have := B1.lt; have := B2.lt; have := B3.lt; rcases h with rfl | rfl | rfl <;> omega) (fun _ _ => rfl) (fun _ _ => rfl) (fun h => h.elim ng1 (fun h => h.elim ng2 ng3))), fun h => by cases h⟩
 | cons e la ih =>
  obtain ⟨y, c⟩ := e
  intro ca cb lb O1 O2 O H0 n0 hP hO hra hrb noO B1 B2 B3
  have hbel : ∀ g, O g → g < n0 := fun g hg => hP.bel g (hO ▸ hg)
  refine Raw.of fun n H gg cs hn hag hgg hgO hgv => ?_
  replace B1 := B1.to hn (hag g1 (.inr (.inl rfl)))
  have q1 := B1.at_
  have ng1 : gg ≠ g1 := fun h => hgg (.inr (.inl h))
  replace B2 := B2.to hn (hag g2 (.inr (.inr (.inl rfl))))
  have q2 := B2.at_
  have ng2 : gg ≠ g2 := fun h => hgg (.inr (.inr (.inl h)))
  replace B3 := B3.to hn (hag g3 (.inr (.inr (.inr rfl))))
  have q3 := B3.at_
  have ng3 : gg ≠ g3 := fun h => hgg (.inr (.inr (.inr h)))
  have nog : ¬ O gg := fun h => hgg (.inl h)
  replace hbel : ∀ g, O g → g < n := fun g h => Nat.lt_of_lt_of_le (hbel g h) hn
  refine ⟨Ux, ?_⟩
  subst hO
  have hS := fun hs => Sit.start hP hn (fun g hg => hag g (.inl hg)) nog noO (by simpa [AD] using hgv) hs
  cases lb with
  | nil =>
   generalize hR : Cz _ _ _ _ _ _ _ _ _ _ _ = R
   refine A2 Tryz.func101 UO rfl fun hs => ?_
   have hS := hS hs
   repeat' (first | simp -implicitDefEqProofs [Ir, Id, A0a, -getElem?_pos, q1, q2, q3, splice, -AA] | simp (disch := omega) only [A6] | (refine hS.call (qs := []) (fun r n' H' p' hle hr hl hS1 ha => ?_); obtain ⟨x', l', cur', fin', O'⟩ := p'; dsimp only [PtR] at hr; obtain ⟨rfl, rfl, rfl, rfl, rfl⟩ := hr; have B2' := B2.go ng2 ha; have q2 := B2'.at_) | (refine hS1.call (qs := [_]) (bs := []) (fun r n2 H2 p' hle2 hr2 hl2 hS2 ha2 => ?_); obtain ⟨x2, l2, cur2, fin2, O2'⟩ := p'; dsimp only [PtR] at hr2; obtain ⟨rfl, rfl, ⟨v, rfl⟩, rfl, rfl⟩ := hr2) | (with_reducible first | exact AG | refine Bb ?_ | intro _g _hg | refine A5 ?_ ?_ | intro _hc) | omega)
   subst hR
   have hat := Aft.tr hS.giv ha ha2 hl (hl2.trans hl)
   replace hat := hat.eqc (c' := cur' ++ cur2) (by simp [AD])
   exact A9 (r := .tup [_, _]) rfl (by omega) hS2.sup ⟨0, _, rfl, ((hat).ext (B := fun g => g = g1 ∨ g = g2 ∨ g = g3) (fun g h => by have := B1.lt; have := B2.lt; have := B3.lt; rcases h with rfl | rfl | rfl <;> omega) (fun _ _ => rfl) (fun _ _ => rfl) (fun h => h.elim ng1 (fun h => h.elim ng2 ng3))), fun h => by cases h⟩
  | cons e lb =>
   obtain ⟨z, d⟩ := e
   have hap := OL op y z (by omega) hra.hd hrb.hd (by omega)
   generalize hR : Cz _ _ _ _ _ _ _ _ _ _ _ = R
   refine A2 Tryz.func101 UO rfl fun hs => ?_
   have hS := hS hs
   repeat' (first | simp -implicitDefEqProofs [Ir, Id, A0a, -getElem?_pos, q1, q2, q3, splice, -AA] | simp (disch := omega) only [A6] | (refine hS.call (qs := []) (fun r n' H' p' hle hr hl hS1 ha => ?_); obtain ⟨x', l', cur', fin', O'⟩ := p'; dsimp only [PtR] at hr; obtain ⟨rfl, rfl, rfl, rfl, rfl⟩ := hr; have B1' := B1.go ng1 ha; have B2' := B2.go ng2 ha; have B3' := B3.go ng3 ha; have q2 := B2'.at_; have q3 := B3'.at_) | (refine hS1.call (qs := [_]) (bs := []) (fun r n2 H2 p' hle2 hr2 hl2 hS2 ha2 => ?_); obtain ⟨x2, l2, cur2, fin2, O2'⟩ := p'; dsimp only [PtR] at hr2; obtain ⟨rfl, rfl, rfl, rfl, rfl⟩ := hr2; have B1' := B1'.go ng1 ha2; have B2' := B2'.go ng2 ha2; have B3' := B3'.go ng3 ha2; have q3 := B3'.at_) | ((with_reducible refine AO 102 ?_); refine' Aa (hap) ?_) | (with_reducible first | exact AG | refine Bb ?_ | intro _g _hg | refine A5 ?_ ?_ | intro _hc) | omega)
   subst hR
   have hat := Aft.tr hS.giv ha ha2 hl (hl2.trans hl)
   replace hat := hat.eqc (c' := cur' ++ cur2) (by simp [AD])
   exact A9 (r := .tup [_, _]) rfl (by omega) hS2.sup ⟨_, rfl, ((hat).ext (B := fun g => g = g1 ∨ g = g2 ∨ g = g3) (fun g h => by have := B1.lt; have := B2.lt; have := B3.lt; rcases h with rfl | rfl | rfl <;> omega) (fun _ _ => rfl) (fun _ _ => rfl) (fun h => h.elim ng1 (fun h => h.elim ng2 ng3))), ih cur' cur2 lb O' O2' _ _ _ hS2.pts rfl hra.tl hrb.tl hS2.ngO B1' B2' B3'⟩
theorem XK : Ae Tryz.prog 98 = true := by kernel_rfl
def Pt.fut (p : Pt) : Fut := ⟨p.cur, p.l.getD [], p.fin⟩
abbrev EU (l : List Pt) : AObj := .cells 104 [.sl 1 (l.map Pt.x) .ro]
theorem OG : ∀ ps : List Pt, (BU (ps.map Pt.fut)).cur = AD ps
 | [] => rfl
 | p :: ps => by simp [BU, AD, Pt.fut, OG ps]
def U0 (d : List Pt) (left : List Pt) : Ad × AQ := ((BU (left.map Pt.fut)).l.map (fun e => (e.1, AD d ++ e.2)), AD d ++ (BU (left.map Pt.fut)).fin)
theorem A16 (d : List Pt) : U0 d [] = ([], AD d) := by simp [U0, BU]
theorem A05 {d left : List Pt} (h : p.l = some []) (h' : p'.cur = p.fin) : U0 d (p :: left) = U0 (d ++ [p']) left := by
 simp [U0, BU, Pt.fut, h, Et, AD, h', Function.comp_def]
theorem A48 {d left : List Pt} {y : Int} (h : p.l = some ((y, c) :: l)) (h1 : p'.cur = c) (h2 : p'.l = some l) (h3 : p'.fin = p.fin) : U0 d (p :: left) = ((y, AD (d ++ p' :: left)) :: (U0 d (p' :: left)).1, (U0 d (p' :: left)).2) := by
 have := OG left
 simp [U0, BU, Pt.fut, h, h1, h2, h3, Et, AD, Function.comp_def, this]
def Cp (x : AV) : Prop := ∃ f a b, x = .fn f a b
def JM (ps : List Pt) : Prop := ∀ p ∈ ps, (∃ l, p.l = some l) ∧ Cp p.x
def tot : List Pt → Nat
 | [] => 0
 | p :: ps => (p.l.getD []).length + 1 + tot ps
theorem Wu : ∀ (m : Nat) (d left : List Pt) (O : Nat → Prop) (H0 : A1) (n0 : Nat), tot left ≤ m → Pts gO lo (d ++ left) H0 n0 → OU (d ++ left) = O → JM left → ¬ O gO → Bx O gO g1 H0 n0 (EU left) → left.length ≤ 60 →
  Raw false gO lo (U0 d left).2 (.fn 98 [] [.ptr g1 0]) (U0 d left).1 (AD (d ++ left)) (fun g => O g ∨ g = g1) H0 n0 := by
 intro m
 induction m using Nat.strongRecOn with
 | _ m ih =>
  intro d left O H0 n0 hm hP hO hall noO B1 h60
  have hbel : ∀ g, O g → g < n0 := fun g hg => hP.bel g (hO ▸ hg)
  refine Raw.of fun n H gg cs hn hag hgg hgO hgv => ?_
  replace B1 := B1.to hn (hag g1 (.inr rfl))
  have q1 := B1.at_
  have ng1 : gg ≠ g1 := fun h => hgg (.inr h)
  have nog : ¬ O gg := fun h => hgg (.inl h)
  replace hbel : ∀ g, O g → g < n := fun g h => Nat.lt_of_lt_of_le (hbel g h) hn
  refine ⟨XK, ?_⟩
  subst hO
  have hS := fun hs => Sit.start hP hn (fun g hg => hag g (.inl hg)) nog noO hgv hs
  generalize hR : Cz _ _ _ _ _ _ _ _ _ _ _ = R
  refine A2 Tryz.func98 A6a rfl fun hs => ?_
  have hS := hS hs
  repeat' (first | simp -implicitDefEqProofs [c98, I6, IQ, IB, I1, c98, -getElem?_pos, q1, -AA] | simp (disch := omega) only [A6] | (with_reducible first | exact AG | refine Bb ?_ | intro _g _hg | refine A5 ?_ ?_ | intro _hc) | omega)
  refine LoopK.go (fun r st => ∃ (d1 left1 : List Pt) (n1 : Nat) (H1 : A1), r = left1.length ∧ st = ⟨[(0, .ptr g1 0)], n1, H1⟩ ∧ n ≤ n1 ∧ Sit gO lo (d1 ++ left1) H1 n1 gg (Ci cs lo (AD (d1 ++ left1))) ∧ (AD (d1 ++ left1)).length = (AD (d ++ left)).length ∧ Aft lo gg cs (AD (d1 ++ left1)) (fun g => OU (d ++ left) g ∨ g = g1) n H n1 H1 (fun g => OU (d1 ++ left1) g ∨ g = g1) ∧ Bx (OU (d1 ++ left1)) gO g1 H1 n1 (EU left1) ∧ U0 d1 left1 = U0 d left ∧ JM left1 ∧ tot left1 ≤ tot left ∧ left1.length ≤ 60) left.length ?_ ?_
  ·refine ⟨d, left, n, H, rfl, rfl, Nat.le_refl _, ?_, rfl, ?_, B1, rfl, hall, Nat.le_refl _, h60⟩
   ·rw [Dx hgv]; exact hS
   ·exact (((Aft.same hgv hbel)).ext (B := fun g => g = g1) (fun g h => by have := B1.lt; subst h; omega) (fun _ _ => rfl) (fun _ _ => rfl) (ng1))
  rintro r st ⟨d1, left1, n1, H1, rfl, rfl, hn1, hS1, hl1, ha1, B1', hE, hall1, htot, h60'⟩ J hJ
  have q1 := B1'.at_
  cases left1 with
  | nil =>
   repeat' (first | simp -implicitDefEqProofs [I6, IQ, IB, I1, c98, -getElem?_pos, q1, -AA] | simp (disch := omega) only [A6] | (with_reducible first | exact AG | refine Bb ?_ | intro _g _hg | refine A5 ?_ ?_ | intro _hc) | omega)
   subst hR
   rw [A16] at hE
   rw [← hE]
   rw [List.append_nil] at ha1 hS1
   exact A9 (r := .tup [_, _]) rfl (by omega) hS1.sup ⟨0, _, rfl, ha1, fun h => by cases h⟩
  | cons p rest =>
   obtain ⟨x, l, cur, fin, O'⟩ := p
   obtain ⟨⟨l, rfl⟩, ff, fa, fb, rfl⟩ : (∃ k, l = some k) ∧ Cp x := hall1 _ List.mem_cons_self
   have hrl : rest.length ≤ 59 := by simpa using h60'
   have hlen : (rest.map Pt.x).length ≤ 59 := by simpa using hrl
   simp only [EU, List.map_cons] at q1
   generalize hrx : rest.map Pt.x = rx at *
   have hpos : (0 : Int) < (rx.length + 1 : Nat) := by omega
   cases l with
   | nil =>
    repeat' (first | simp -implicitDefEqProofs [I6, IQ, IB, I1, c98, -getElem?_pos, q1, hpos, splice, -AA] | simp (disch := omega) only [A6] | (refine hS1.call (fun r n' H' p' hle hr hl hS2 ha => ?_); obtain ⟨x', l', cur', fin', O2⟩ := p'; dsimp only [PtR] at hr; obtain ⟨rfl, rfl, ⟨v, rfl⟩, rfl, rfl⟩ := hr; have B1n := B1'.go ng1 ha; have q1 := B1n.at_; simp only [EU, List.map_cons, hrx] at q1) | (with_reducible first | exact AG | refine Bb ?_ | intro _g _hg | refine A5 ?_ ?_ | intro _hc) | omega)
    have e : ∀ p : Pt, d1 ++ p :: rest = (d1 ++ [p]) ++ rest := fun p => by simp
    have hat := (Aft.tr hgv ha1 ((ha).ext (B := fun g => g = g1) (fun g h => by have := B1.lt; subst h; omega) (fun _ _ => rfl) (fun _ _ => rfl) (ng1)) hl1 (hl.trans hl1)).box (x := some (EU rest)) (.inr rfl) ng1
    have hS3 := hS2.keep (x := some (EU rest)) B1n.no B1n.nO ng1 B1n.lt
    have B1s := B1n.set (EU rest)
    rw [C6 (by have := hgv.fit; omega) (hl)] at hS3
    rw [e] at hS3 hl hat B1s
    simp only [EU, hrx] at hat hS3 B1s
    refine hJ rest.length _ (by simp) ⟨_, rest, n', _, rfl, rfl, by omega, hS3, hl.trans hl1, hat, by simp only [EU, hrx]; exact B1s, (A05 rfl rfl).symm.trans hE, fun q hq => hall1 q (List.mem_cons_of_mem _ hq), by simp only [tot] at htot; omega, by omega⟩
   | cons e l =>
    obtain ⟨y, c⟩ := e
    repeat' (first | simp -implicitDefEqProofs [I6, IQ, IB, I1, c98, -getElem?_pos, q1, hpos, splice, -AA] | simp (disch := omega) only [A6] | (refine hS1.call (fun r n' H' p' hle hr hl hS2 ha => ?_); obtain ⟨x', l', cur', fin', O2⟩ := p'; dsimp only [PtR] at hr; obtain ⟨rfl, rfl, rfl, rfl, rfl⟩ := hr; have B1n := B1'.go ng1 ha; have q1 := B1n.at_; simp only [EU, List.map_cons, hrx] at q1) | (with_reducible first | exact AG | refine Bb ?_ | intro _g _hg | refine A5 ?_ ?_ | intro _hc) | omega)
    subst hR
    have hat := Aft.tr hgv ha1 ((ha).ext (B := fun g => g = g1) (fun g h => by have := B1.lt; subst h; omega) (fun _ _ => rfl) (fun _ _ => rfl) (ng1)) hl1 (hl.trans hl1)
    rw [A48 (p := ⟨.fn ff fa fb, some ((y, cur') :: l), cur, fin', O'⟩) (p' := ⟨.fn ff fa fb, some l, cur', fin', O2⟩) rfl rfl rfl rfl] at hE
    rw [← hE]
    refine A9 (r := .tup [_, _]) rfl (by omega) hS2.sup ⟨_, rfl, hat, ih _ ?_ d1 (_ :: rest) _ _ _ (Nat.le_refl _) hS2.pts rfl ?_ hS2.ngO ?_ (by simp; omega)⟩
    ·simp only [tot, Option.getD_some, List.length_cons] at htot hm ⊢; omega
    ·intro q hq
     rcases List.mem_cons.1 hq with h | h
     ·subst h; exact ⟨⟨_, rfl⟩, _, _, _, rfl⟩
     ·exact hall1 q (List.mem_cons_of_mem _ h)
    ·simp only [EU, List.map_cons, hrx] at B1n ⊢; exact B1n
section
variable {e sz by_ : Nat} {d : Option Nat} {K : AS → Prop} {en : AJ} {n : Nat} {H : A1}
theorem GL {l m : List AV} {g0 : Nat} (hg : H g0 = some (.row e l.length)) (h1 : (l.length + m.length) * by_ ≤ 140737488355328) (h2 : l.length + m.length ≤ maxLen)
  (hk : ∀ g n', (g = g0 ∨ n ≤ g) → n ≤ n' → g < n' → K ⟨AC en d (.sl sz (l ++ m) (.own g)), n', upd (upd H g0 none) g (some (.row e (l.length + m.length)))⟩) : appKS e sz by_ d K ⟨en, n, H⟩ (.sl sz l (.own g0)) (.sl sz m t) :=
 ⟨.inl rfl, m, A0 m, h1, h2, rfl, hg, hk⟩
theorem RR {z : Nat} {m : List AV} (hm : m ≠ []) (h1 : (0 + m.length) * by_ ≤ 140737488355328) (h2 : 0 + m.length ≤ maxLen)
  (hk : ∀ g, n ≤ g → K ⟨AC en d (.sl sz m (.own g)), g + 1, upd H g (some (.row e m.length))⟩) : appKS e sz by_ d K ⟨en, n, H⟩ (.sl z [] .nil) (.sl sz m t) :=
 ⟨.inl rfl, m, A0 m, h1, h2, fun h => absurd h hm, fun _ => .inl hk⟩
end
def RH (e : Nat) (l : List AV) (n : Nat) (H : A1) : DD := fun r n' H' => SameB n H H' ∧ ((l = [] ∧ r = .sl 0 [] .nil) ∨ ∃ g, n ≤ g ∧ g < n' ∧ r = .sl 1 l (.own g) ∧ H' g = some (.row e l.length))
theorem Xk (l : List AV) (n : Nat) (H : A1) (hl : l.length ≤ 1000000) : ACalls Tryz.prog 100 [.sl 1 l .ro] n H (RH 76 l n H) := by
 refine A2 Tryz.func100 A3n rfl fun hs => ?_
 have hb : (([] : List AV).length + l.length) * 8 ≤ 140737488355328 := by simp; omega
 have hm : ([] : List AV).length + l.length ≤ maxLen := by simp [maxLen]; omega
 have fin' : ∀ (e : AJ) (n1 g g0 : Nat) (k0 : AObj), n ≤ g0 → (g = g0 ∨ g0 + 1 ≤ g) → g0 + 1 ≤ n1 → g < n1 → get e 2 = .sl 1 l (.own g) → fin (RH 76 l n H) n [.tmp 2] .ret ⟨e, n1, upd (upd (upd H g0 (some k0)) g0 none) g (some (.row 76 (([] : List AV).length + l.length)))⟩ := by
  intro e n1 g g0 k0 h1 h2 h3 h4 h5
  refine A9 (r := .sl 1 l (.own g)) (by simp [Bd, CB, F7, h5]) (by omega) (fun k hk => by simp (disch := omega) only [upd_ne]; exact hs k (by omega)) ⟨fun k hk => by simp (disch := omega) only [upd_ne], .inr ⟨g, by omega, h4, rfl, by rw [AP]; simp⟩⟩
 cases l with
 | nil =>
  repeat' (first | simp -implicitDefEqProofs [PO, A4a, -getElem?_pos, -List.length_nil] | simp (disch := omega) only [A6] | (refine GL (AP _ _ _) hb hm (fun g n' h1 h2 h3 => ?_)) | (with_reducible first | exact AG | refine EA ?_ | intro _g _hg | refine A5 ?_ ?_ | intro _hc) | omega)
  ·exact A9 (r := .sl 0 [] .nil) rfl (by omega) hs ⟨SameB.rfl_ _ _, .inl ⟨rfl, rfl⟩⟩
  ·exact fin' _ _ _ _ _ _hg h1 h2 h3 rfl
 | cons x l =>
  repeat' (first | simp -implicitDefEqProofs [PO, A4a, -getElem?_pos, -List.length_nil, -List.length_cons] | simp (disch := omega) only [A6] | (refine GL (AP _ _ _) hb hm (fun g n' h1 h2 h3 => ?_)) | (with_reducible first | exact AG | refine EA ?_ | intro _g _hg | refine A5 ?_ ?_ | intro _hc) | omega)
  exact fin' _ _ _ _ _ _hg h1 h2 h3 rfl
theorem YV (l : List AV) (n : Nat) (H : A1) (hl : l.length ≤ 1000000) : ACalls Tryz.prog 92 [.sl 1 l .ro] n H (RH 3 l n H) := by
 refine A2 Tryz.func92 A5f rfl fun hs => ?_
 have hb : (([] : List AV).length + l.length) * 8 ≤ 140737488355328 := by simp; omega
 have hm : ([] : List AV).length + l.length ≤ maxLen := by simp [maxLen]; omega
 have fin' : ∀ (e : AJ) (n1 g g0 : Nat) (k0 : AObj), n ≤ g0 → (g = g0 ∨ g0 + 1 ≤ g) → g0 + 1 ≤ n1 → g < n1 → get e 2 = .sl 1 l (.own g) → fin (RH 3 l n H) n [.tmp 2] .ret ⟨e, n1, upd (upd (upd H g0 (some k0)) g0 none) g (some (.row 3 (([] : List AV).length + l.length)))⟩ := by
  intro e n1 g g0 k0 h1 h2 h3 h4 h5
  refine A9 (r := .sl 1 l (.own g)) (by simp [Bd, CB, F7, h5]) (by omega) (fun k hk => by simp (disch := omega) only [upd_ne]; exact hs k (by omega)) ⟨fun k hk => by simp (disch := omega) only [upd_ne], .inr ⟨g, by omega, h4, rfl, by rw [AP]; simp⟩⟩
 cases l with
 | nil =>
  repeat' (first | simp -implicitDefEqProofs [QD, c92, -getElem?_pos, -List.length_nil] | simp (disch := omega) only [A6] | (refine GL (AP _ _ _) hb hm (fun g n' h1 h2 h3 => ?_)) | (with_reducible first | exact AG | refine EA ?_ | intro _g _hg | refine A5 ?_ ?_ | intro _hc) | omega)
  ·exact A9 (r := .sl 0 [] .nil) rfl (by omega) hs ⟨SameB.rfl_ _ _, .inl ⟨rfl, rfl⟩⟩
  ·exact fin' _ _ _ _ _ _hg h1 h2 h3 rfl
 | cons x l =>
  repeat' (first | simp -implicitDefEqProofs [QD, c92, -getElem?_pos, -List.length_nil, -List.length_cons] | simp (disch := omega) only [A6] | (refine GL (AP _ _ _) hb hm (fun g n' h1 h2 h3 => ?_)) | (with_reducible first | exact AG | refine EA ?_ | intro _g _hg | refine A5 ?_ ?_ | intro _hc) | omega)
  exact fin' _ _ _ _ _ _hg h1 h2 h3 rfl
theorem Sit.callAt {gO lo gg n : Nat} {H : A1} {d : Option Nat} {K : AS → Prop} {en : AJ} (h : Sit gO lo ps H n gg cs) (hi : ps[i]? = some p)
  (hk : ∀ r n' H' p', n ≤ n' → PtR p r p' → (AD (ps.set i p')).length = (AD ps).length → Sit gO lo (ps.set i p') H' n' gg (Ci cs lo (AD (ps.set i p'))) → Aft lo gg cs (AD (ps.set i p')) (OU ps) n H n' H' (OU (ps.set i p')) → K ⟨AC en d r, n', H'⟩) :
  AA Tryz.prog d K en n H [] p.x := by
 have hil : i < ps.length := (List.getElem?_eq_some_iff.1 hi).1
 have e : ps = ps.take i ++ p :: ps.drop (i + 1) := by
  rw [← drop_at hi, List.take_append_drop]
 have e' : ∀ p', ps.set i p' = ps.take i ++ p' :: ps.drop (i + 1) := fun p' => by
  rw [List.set_eq_take_append_cons_drop, if_pos hil]
 simp only [e'] at hk
 generalize ps.take i = qs at *
 generalize ps.drop (i + 1) = bs at *
 subst e
 exact h.call hk
theorem Sit.more {gO lo gg n n' : Nat} {H H' : A1} (h : Sit gO lo ps H n gg cs) (hn : n ≤ n') (hs : SameB n H H') (hsup : ∀ g, n' ≤ g → H' g = none) : Sit gO lo ps H' n' gg cs := by
 have hlt := h.giv.lt h.sup
 exact ⟨h.pts.at_ (fun k hk => hs k (h.pts.bel k hk)) hn, ⟨by rw [hs gO hlt.1]; exact h.giv.opn, by rw [hs gg hlt.2]; exact h.giv.giv, h.giv.fit, h.giv.at_⟩, h.ngg, h.ngO, hsup⟩
theorem Bx.more {gO g : Nat} {n n' : Nat} {H H' : A1} (h : Bx O gO g H n ob) (hn : n ≤ n') (hs : SameB n H H') : Bx O gO g H' n' ob := ⟨h.no, h.nO, Nat.lt_of_lt_of_le h.lt hn, (hs g h.lt).trans h.at_⟩
theorem Aft.more {lo gg n n' n2 : Nat} {H H' H2 : A1} (ha : Aft lo gg cs c O n H n' H' O') (hn : n' ≤ n2) (hs : SameB n' H' H2) (hg : gg < n') : Aft lo gg cs c O n H n2 H2 O' :=
 ⟨Nat.le_trans ha.le hn, ha.sub, fun g h => Nat.lt_of_lt_of_le (ha.bel g h) hn, fun g h1 h2 h3 => (hs g (Nat.lt_of_lt_of_le h1 ha.le)).trans (ha.fr g h1 h2 h3), (hs gg hg).trans ha.giv⟩
theorem GY : ∀ ps : List Pt, AD ps = (ps.map Pt.cur).flatten
 | [] => rfl
 | p :: ps => by simp [AD, GY ps]
def Z3 (ps : List Pt) (i : Nat) : AV := (ps[i]?.map Pt.x).getD .any
def ent (ps : List Pt) (i : Nat) : Nat × Ad × AQ := (i, (ps[i]?.bind Pt.l).getD [], (ps[i]?.map Pt.fin).getD [])
theorem Ye (h : ps[i]? = some p) : Z3 ps i = p.x := by simp [Z3, h]
theorem Qw (h : ps[i]? = some p) : ent ps i = (i, p.l.getD [], p.fin) := by simp [ent, h]
theorem Oy (h : ps[i]? = some p) : (ps.set i p')[i]? = some p' := by
 have := (List.getElem?_eq_some_iff.1 h).1
 simp [this]
theorem Og {i j : Nat} (h : j ≠ i) : (ps.set i p')[j]? = ps[j]? := List.getElem?_set_ne (Ne.symm h)
theorem VW (h : i ∉ q) : q.map (ent (ps.set i p')) = q.map (ent ps) :=
 List.map_congr_left fun j hj => by unfold ent; rw [Og (fun e : j = i => h (e ▸ hj))]
theorem Un (h : ps[i]? = some p) (hx : p'.x = p.x) : q.map (Z3 (ps.set i p')) = q.map (Z3 ps) :=
 List.map_congr_left fun j hj => by
  unfold Z3
  by_cases e : j = i
  ·subst e; rw [Oy h, h]; simp [hx]
  ·rw [Og e]
def VD (ps : List Pt) (q : List Nat) : Nat := (q.map fun i => (ent ps i).2.1.length + 1).sum
theorem VP (h : i ∉ q) : VD (ps.set i p') q = VD ps q := by
 unfold VD
 congr 1
 exact List.map_congr_left fun j hj => by unfold ent; rw [Og (fun e : j = i => h (e ▸ hj))]
theorem Wd : Ae Tryz.prog 99 = true := by kernel_rfl
theorem Ya (m : Nat) (cs : List AQ) : E6 m [] cs = ([], cs) := by cases m <;> rfl
def Yp (ps : List Pt) (q : List Nat) : Prop := ∀ i ∈ q, ∃ p, ps[i]? = some p ∧ (∃ l, p.l = some l) ∧ Cp p.x
abbrev HP (l : List AV) (t : Tok) : AObj := .cells 104 [.sl 1 l t]
theorem WF : ∀ (m : Nat) (ps : List Pt) (q : List Nat) (t : Tok) (O : Nat → Prop) (H0 : A1) (n0 : Nat), Pts gO lo ps H0 n0 → OU ps = O → q.Nodup → Yp ps q → VD ps q ≤ m → ¬ O gO → Bx O gO g1 H0 n0 (HP (q.map (Z3 ps)) t) → q.length ≤ 60 →
  Raw false gO lo (E6 m (q.map (ent ps)) (ps.map Pt.cur)).2.flatten (.fn 99 [] [.ptr g1 0]) (E6 m (q.map (ent ps)) (ps.map Pt.cur)).1 (AD ps) (fun g => O g ∨ g = g1) H0 n0 := by
 intro m
 induction m using Nat.strongRecOn with
 | _ m ih =>
  intro ps q t O H0 n0 hP hO hnd hq hm noO B1 h60
  have hbel : ∀ g, O g → g < n0 := fun g hg => hP.bel g (hO ▸ hg)
  refine Raw.of fun n H gg cs hn hag hgg hgO hgv => ?_
  replace B1 := B1.to hn (hag g1 (.inr rfl))
  have q1 := B1.at_
  have ng1 : gg ≠ g1 := fun h => hgg (.inr h)
  have nog : ¬ O gg := fun h => hgg (.inl h)
  replace hbel : ∀ g, O g → g < n := fun g h => Nat.lt_of_lt_of_le (hbel g h) hn
  refine ⟨Wd, ?_⟩
  subst hO
  have hS := fun hs => Sit.start hP hn (fun g hg => hag g (.inl hg)) nog noO hgv hs
  generalize hT : E6 m (q.map (ent ps)) (ps.map Pt.cur) = T at *
  generalize hR : Cz _ _ _ _ _ _ _ _ _ _ _ = R
  refine A2 Tryz.func99 A5d rfl fun hs => ?_
  have hS := hS hs
  repeat' (first | simp -implicitDefEqProofs [c99, Fn, Fm, Fu, Fp, c99, -getElem?_pos, q1, -AA] | simp (disch := omega) only [A6] | (with_reducible first | exact AG | refine EA ?_ | intro _g _hg | refine A5 ?_ ?_ | intro _hc) | omega)
  refine LoopK.go (fun r st => ∃ (m1 : Nat) (ps1 : List Pt) (q2 : List Nat) (t1 : Tok) (n1 : Nat) (H1 : A1), r = q2.length ∧ st = ⟨[(0, .ptr g1 0)], n1, H1⟩ ∧ n ≤ n1 ∧ Sit gO lo ps1 H1 n1 gg (Ci cs lo (AD ps1)) ∧ (AD ps1).length = (AD ps).length ∧ Aft lo gg cs (AD ps1) (fun g => OU ps g ∨ g = g1) n H n1 H1 (fun g => OU ps1 g ∨ g = g1) ∧ Bx (OU ps1) gO g1 H1 n1 (HP (q2.map (Z3 ps1)) t1) ∧ E6 m1 (q2.map (ent ps1)) (ps1.map Pt.cur) = T ∧ q2.Nodup ∧ Yp ps1 q2 ∧ VD ps1 q2 ≤ m1 ∧ m1 ≤ m ∧ q2.length ≤ 60) q.length ?_ ?_
  ·refine ⟨m, ps, q, t, n, H, rfl, rfl, Nat.le_refl _, ?_, rfl, ?_, B1, hT, hnd, hq, hm, Nat.le_refl _, h60⟩
   ·rw [Dx hgv]; exact hS
   ·exact (((Aft.same hgv hbel)).ext (B := fun g => g = g1) (fun g h => by have := B1.lt; subst h; omega) (fun _ _ => rfl) (fun _ _ => rfl) (ng1))
  rintro r st ⟨m1, ps1, q2, t1, n1, H1, rfl, rfl, hn1, hS1, hl1, ha1, B1', hE, hnd1, hq1, hm1, hmm, h60'⟩ J hJ
  have q1 := B1'.at_
  cases q2 with
  | nil =>
   repeat' (first | simp -implicitDefEqProofs [Fn, Fm, Fu, Fp, c99, -getElem?_pos, q1, -AA] | simp (disch := omega) only [A6] | (with_reducible first | exact AG | refine EA ?_ | intro _g _hg | refine A5 ?_ ?_ | intro _hc) | omega)
   subst hR
   rw [List.map_nil, Ya] at hE
   rw [← hE, ← GY]
   exact A9 (r := .tup [_, _]) rfl (by omega) hS1.sup ⟨0, _, rfl, ha1, fun h => by cases h⟩
  | cons i rest =>
   obtain ⟨p, hi, ⟨l, hpl⟩, ff, fa, fb, hpx⟩ := hq1 i List.mem_cons_self
   obtain ⟨x, pl, cur, fin, O'⟩ := p
   simp only at hpl hpx
   subst hpl hpx
   have hnr : i ∉ rest := (List.nodup_cons.1 hnd1).1
   have hnd2 : rest.Nodup := (List.nodup_cons.1 hnd1).2
   have hrl : rest.length ≤ 59 := by simpa using h60'
   have hlen : (rest.map (Z3 ps1)).length ≤ 59 := by simpa using hrl
   obtain ⟨m2, rfl⟩ : ∃ k, m1 = k + 1 := ⟨m1 - 1, by simp only [VD, List.map_cons, List.sum_cons] at hm1; omega⟩
   simp only [HP, List.map_cons, Ye hi] at q1
   generalize hrx : rest.map (Z3 ps1) = rx at *
   have hpos : (0 : Int) < (rx.length + 1 : Nat) := by omega
   have B1u := B1'.set (HP rx .ro)
   have hSu := hS1.keep (x := some (HP rx .ro)) B1'.no B1'.nO ng1 B1'.lt
   have hau := ha1.box (x := some (HP rx .ro)) (.inr rfl) ng1
   have hm1' : (l.length + 1) + VD ps1 rest ≤ m2 + 1 := by
    have := hm1
    simp only [VD, List.map_cons, List.sum_cons, Qw hi, Option.getD_some] at this
    exact this
   rw [List.map_cons, Qw hi] at hE
   simp only [Option.getD_some] at hE
   cases l with
   | nil =>
    repeat' (first | simp -implicitDefEqProofs [Fn, Fm, Fu, Fp, c99, -getElem?_pos, q1, hpos, splice, -AA] | simp (disch := omega) only [A6] | (refine hSu.callAt hi (fun r n' H' p' hle hr hl hS2 ha => ?_); obtain ⟨x', l', cur', fin', O2⟩ := p'; dsimp only [PtR] at hr; obtain ⟨rfl, rfl, ⟨v, rfl⟩, rfl, rfl⟩ := hr; have B1n := B1u.go ng1 ha; have q1 := B1n.at_) | (with_reducible first | exact AG | refine EA ?_ | intro _g _hg | refine A5 ?_ ?_ | intro _hc) | omega)
    have hat := Aft.tr hgv hau ((ha).ext (B := fun g => g = g1) (fun g h => by have := B1.lt; subst h; omega) (fun _ _ => rfl) (fun _ _ => rfl) (ng1)) hl1 (hl.trans hl1)
    rw [C6 (by have := hgv.fit; omega) hl] at hS2
    refine hJ rest.length _ (by simp) ⟨m2, _, rest, .ro, n', H', rfl, rfl, by omega, hS2, hl.trans hl1, hat, ?_, ?_, hnd2, ?_, ?_, by omega, by omega⟩
    ·rw [Un (p' := ⟨.fn ff fa fb, none, cur', cur', O2⟩) hi rfl, hrx]; exact B1n
    ·rw [VW hnr, List.map_set, ← hE]; rfl
    ·intro j hj
     obtain ⟨p, h1, h2⟩ := hq1 j (List.mem_cons_of_mem _ hj)
     exact ⟨p, by rw [Og (fun e : j = i => hnr (e ▸ hj))]; exact h1, h2⟩
    ·rw [VP hnr]; simp at hm1'; omega
   | cons e l => 
    obtain ⟨y, c⟩ := e
    repeat' (first | simp -implicitDefEqProofs [Fn, Fm, Fu, Fp, c99, -getElem?_pos, q1, hpos, splice, -AA] | simp (disch := omega) only [A6] | (refine hSu.callAt hi (fun r n' H' p' hle hr hl hS2 ha => ?_); obtain ⟨x', l', cur', fin', O2⟩ := p'; dsimp only [PtR] at hr; obtain ⟨rfl, rfl, rfl, rfl, rfl⟩ := hr; have B1n := B1u.go ng1 ha; have q1 := B1n.at_) | (with_reducible first | exact AG | refine EA ?_ | intro _g _hg | refine A5 ?_ ?_ | intro _hc) | omega)
    have hat := Aft.tr hgv hau ((ha).ext (B := fun g => g = g1) (fun g h => by have := B1.lt; subst h; omega) (fun _ _ => rfl) (fun _ _ => rfl) (ng1)) hl1 (hl.trans hl1)
    rw [C6 (by have := hgv.fit; omega) hl] at hS2
    have hgn := hS2.giv.lt hS2.sup
    have hil := (List.getElem?_eq_some_iff.1 hi).1
    have hT2 : T = ((y, AD (ps1.set i ⟨.fn ff fa fb, some l, cur', fin', O2⟩)) :: (E6 m2 ((rest ++ [i]).map (ent (ps1.set i ⟨.fn ff fa fb, some l, cur', fin', O2⟩))) ((ps1.set i ⟨.fn ff fa fb, some l, cur', fin', O2⟩).map Pt.cur)).1, (E6 m2 ((rest ++ [i]).map (ent (ps1.set i ⟨.fn ff fa fb, some l, cur', fin', O2⟩))) ((ps1.set i ⟨.fn ff fa fb, some l, cur', fin', O2⟩).map Pt.cur)).2) := by
     rw [← hE, E6, List.map_append, VW hnr, List.map_set, GY, List.map_set, List.map_singleton, Qw (Oy hi)]
     rfl
    have done : ∀ (e : AJ) (n4 : Nat) (H4 : A1) (t : Tok), get e 1 = aI y → get e 2 = .bool true → n' ≤ n4 → SameB n' H' H4 → (∀ k, n4 ≤ k → H4 k = none) → fin R n [.tmp 1, .tmp 2] .ret ⟨e, n4, upd H4 g1 (some (HP (rx ++ [.fn ff fa fb]) t))⟩ := by
     intro e n4 H4 t h1 h2 h3 h4 h5
     have B1m := B1n.more h3 h4
     have hat2 := (hat.more h3 h4 hgn.2).box (x := some (HP (rx ++ [.fn ff fa fb]) t)) (.inr rfl) ng1
     have hS4 := (hS2.more h3 h4 h5).keep (x := some (HP (rx ++ [.fn ff fa fb]) t)) B1m.no B1m.nO ng1 B1m.lt
     subst hR
     rw [hT2]
     refine A9 (r := .tup [aI y, .bool true]) (by simp [Bd, CB, F7, h1, h2]) (by omega) (fun k hk => by have := B1m.lt; rw [upd_ne (by omega)]; exact h5 k hk) ⟨_, rfl, hat2, ih m2 (by omega) _ (rest ++ [i]) t _ _ n4 hS4.pts rfl ?_ ?_ ?_ hS4.ngO ?_ (by simp; omega)⟩
     ·exact List.nodup_append.2 ⟨hnd2, by simp, fun a k1 b k2 => by simp at k2; subst k2; exact fun e => hnr (e ▸ k1)⟩
     ·intro j hj
      rcases List.mem_append.1 hj with hj | hj
      ·obtain ⟨p, h1, h2⟩ := hq1 j (List.mem_cons_of_mem _ hj)
       exact ⟨p, by rw [Og (fun e : j = i => hnr (e ▸ hj))]; exact h1, h2⟩
      ·simp at hj; subst hj
       exact ⟨_, Oy hi, ⟨_, rfl⟩, _, _, _, rfl⟩
     ·have e1 : VD (ps1.set i ⟨.fn ff fa fb, some l, cur', fin', O2⟩) (rest ++ [i]) = VD ps1 rest + (l.length + 1) := by
       unfold VD
       rw [List.map_append, List.sum_append]
       have := VP (ps := ps1) (p' := ⟨.fn ff fa fb, some l, cur', fin', O2⟩) hnr
       unfold VD at this
       rw [this]
       simp [Qw (Oy hi)]
      rw [e1]
      simp at hm1'
      omega
     ·rw [List.map_append, Un (p' := ⟨.fn ff fa fb, some l, cur', fin', O2⟩) hi rfl, hrx, List.map_singleton, Ye (Oy hi)]
      exact B1m.set _
    refine CallK.chk ⟨_, Xk rx n' H' (by omega), ?_⟩
    rintro r n3 H3 (hle3 : n' ≤ n3) hsup3 ⟨hsb, hcl⟩
    have q1 : H3 g1 = _ := (hsb g1 B1n.lt).trans B1n.at_
    have hg1 := B1n.lt
    rcases hcl with ⟨rfl, rfl⟩ | ⟨g3, h31, h32, rfl, h33⟩
    ·repeat' (first | simp -implicitDefEqProofs [Fn, Fm, Fu, Fp, c99, -getElem?_pos, q1, splice, -AA] | simp (disch := omega) only [A6] | (refine RR (by simp) (by simp) (by simp [maxLen]) (fun g h1 => ?_)) | (with_reducible first | exact AG | refine EA ?_ | intro _g _hg | refine A5 ?_ ?_ | intro _hc) | omega)
     exact done _ _ _ (.own g) rfl rfl (by omega) (fun k hk => by simp (disch := omega) only [upd_ne]; exact hsb k (by omega)) (fun k hk => by simp (disch := omega) only [upd_ne]; exact hsup3 k (by omega))
    ·repeat' (first | simp -implicitDefEqProofs [Fn, Fm, Fu, Fp, c99, -getElem?_pos, q1, splice, -AA] | simp (disch := omega) only [A6] | (refine GL (by simp (disch := omega) only [upd_ne]; exact h33) (by simp; omega) (by simp [maxLen]; omega) (fun g n6 h1 h2 h3 => ?_)) | (with_reducible first | exact AG | refine EA ?_ | intro _g _hg | refine A5 ?_ ?_ | intro _hc) | omega)
     exact done _ _ _ (.own g) rfl rfl (by omega) (fun k hk => by simp (disch := omega) only [upd_ne]; exact hsb k (by omega)) (fun k hk => by simp (disch := omega) only [upd_ne]; exact hsup3 k (by omega))
theorem Wq : Ae Tryz.prog 103 = true := by kernel_rfl
def side (p : Pt) (b : Bool) (h : Int) : Ad := if b = true then (h, p.cur) :: p.l.getD [] else p.l.getD []
theorem A28 {r : AV} (h : Int) (hr : PtR p r p') : ∃ (h' : Int) (b' : Bool), r = .tup [aI h', .bool b'] ∧ side p' b' h' = side p false h ∧ (b' = false → p'.l = none) ∧ p'.fin = p.fin ∧ p'.x = p.x := by
 obtain ⟨x, l, cur, fin, O⟩ := p
 obtain ⟨x', l', cur', fin', O'⟩ := p'
 unfold PtR at hr
 match l, hr with
 | none, ⟨h1, h2, h3, h4, h5⟩ => exact ⟨0, false, h3, by simp only at h4; simp [side, h4], fun _ => h4, h2, h1⟩
 | some [], ⟨h1, h2, ⟨v, h3⟩, h4, h5⟩ => exact ⟨v, false, h3, by simp only at h4; simp [side, h4], fun _ => h4, h2, h1⟩
 | some ((y, c) :: l), ⟨h1, h2, h3, h4, h5⟩ => exact ⟨y, true, h3, by simp only at h4 h5; simp [side, h4, h5], (fun h => by cases h), h2, h1⟩
theorem Pts.cur_fin {gO lo n : Nat} {qs bs : List Pt} {H : A1} (h : Pts gO lo (qs ++ p :: bs) H n) (hl : p.l = none) : p.cur = p.fin := by
 have := h.part
 unfold PtOk at this
 rw [hl] at this
 exact this.2
abbrev IV (a b : Bool) : AObj := .cells 122 [.bool a, .bool b]
abbrev Od (a b : Int) : AObj := .cells 99 [aI a, aI b]
theorem XG (n12 : g1 ≠ g2) (n13 : g1 ≠ g3) (n23 : g2 ≠ g3) (xfa : Cp xa) (xfb : Cp xb) : ∀ (N : Nat) (pa pb : Pt) (b0 b1 : Bool) (h0 h1 : Int) (O : Nat → Prop) (H0 : A1) (n0 : Nat), (side pa b0 h0).length + (side pb b1 h1).length ≤ N → Pts gO lo [pa, pb] H0 n0 → OU [pa, pb] = O → pa.x = xa → pb.x = xb → pa.fin = fa → pb.fin = fb → ¬ O gO →
  Bx O gO g1 H0 n0 (HP [xa, xb] t) → Bx O gO g2 H0 n0 (IV b0 b1) → Bx O gO g3 H0 n0 (Od h0 h1) →
  Raw false gO lo (fa ++ fb) (.fn 103 [] [.ptr g1 0, .ptr g2 0, .ptr g3 0]) (Bf fa fb (side pa b0 h0) (side pb b1 h1)) (AD [pa, pb]) (fun g => O g ∨ g = g1 ∨ g = g2 ∨ g = g3) H0 n0 := by
 intro N
 induction N using Nat.strongRecOn with
 | _ N ih =>
  intro pa pb b0 b1 h0 h1 O H0 n0 hN hP hO hxa hxb hfa hfb noO B1 B2 B3
  have hbel : ∀ g, O g → g < n0 := fun g hg => hP.bel g (hO ▸ hg)
  refine Raw.of fun n H gg cs hn hag hgg hgO hgv => ?_
  replace B1 := B1.to hn (hag g1 (.inr (.inl rfl)))
  have q1 := B1.at_
  have ng1 : gg ≠ g1 := fun h => hgg (.inr (.inl h))
  replace B2 := B2.to hn (hag g2 (.inr (.inr (.inl rfl))))
  have q2 := B2.at_
  have ng2 : gg ≠ g2 := fun h => hgg (.inr (.inr (.inl h)))
  replace B3 := B3.to hn (hag g3 (.inr (.inr (.inr rfl))))
  have q3 := B3.at_
  have ng3 : gg ≠ g3 := fun h => hgg (.inr (.inr (.inr h)))
  have nog : ¬ O gg := fun h => hgg (.inl h)
  replace hbel : ∀ g, O g → g < n := fun g h => Nat.lt_of_lt_of_le (hbel g h) hn
  refine ⟨Wq, ?_⟩
  subst hO
  have hS := fun hs => Sit.start hP hn (fun g hg => hag g (.inl hg)) nog noO hgv hs
  generalize hLa : side pa b0 h0 = La at *
  generalize hLb : side pb b1 h1 = Lb at *
  generalize hR : Cz _ _ _ _ _ _ _ _ _ _ _ = R
  refine A2 Tryz.func103 A3x rfl fun hs => ?_
  have hS := hS hs
  repeat' (first | simp -implicitDefEqProofs [NC, CF, CS, CJ, CN, CG, CP, NC, -getElem?_pos, q1, -AA] | simp (disch := omega) only [A6] | (with_reducible first | exact AG | refine Bb ?_ | intro _g _hg | refine A5 ?_ ?_ | intro _hc) | omega)
  refine LoopK.go (fun r st => ∃ (j : Nat) (pa1 pb1 : Pt) (c0 c1 : Bool) (k0 k1 : Int) (n1 : Nat) (H1 : A1), j + r = 2 ∧ st = ⟨[(1, .ptr g2 0), (2, .ptr g3 0), (8, .sl 1 [xa, xb] t), (9, aI 2), (10, aI j)], n1, H1⟩ ∧ n ≤ n1 ∧ Sit gO lo [pa1, pb1] H1 n1 gg (Ci cs lo (AD [pa1, pb1])) ∧ (AD [pa1, pb1]).length = (AD [pa, pb]).length ∧
   Aft lo gg cs (AD [pa1, pb1]) (fun g => OU [pa, pb] g ∨ (g = g1 ∨ g = g2 ∨ g = g3)) n H n1 H1 (fun g => OU [pa1, pb1] g ∨ (g = g1 ∨ g = g2 ∨ g = g3)) ∧ Bx (OU [pa1, pb1]) gO g1 H1 n1 (HP [xa, xb] t) ∧ Bx (OU [pa1, pb1]) gO g2 H1 n1 (IV c0 c1) ∧ Bx (OU [pa1, pb1]) gO g3 H1 n1 (Od k0 k1) ∧
   side pa1 c0 k0 = La ∧ side pb1 c1 k1 = Lb ∧ (1 ≤ j → c0 = false → pa1.l = none) ∧ (2 ≤ j → c1 = false → pb1.l = none) ∧ pa1.x = xa ∧ pb1.x = xb ∧ pa1.fin = fa ∧ pb1.fin = fb) 2 ?_ ?_
  ·refine ⟨0, pa, pb, b0, b1, h0, h1, n, H, by omega, ?_, Nat.le_refl _, ?_, rfl, ?_, B1, B2, B3, hLa, hLb, by omega, by omega, hxa, hxb, hfa, hfb⟩
   ·rfl
   ·rw [Dx hgv]; exact hS
   ·exact (((Aft.same hgv hbel)).ext (B := fun g => g = g1 ∨ g = g2 ∨ g = g3) (fun g h => by have := B1.lt; have := B2.lt; have := B3.lt; rcases h with rfl | rfl | rfl <;> omega) (fun _ _ => rfl) (fun _ _ => rfl) (fun h => h.elim ng1 (fun h => h.elim ng2 ng3)))
  rintro r st ⟨j, pa1, pb1, c0, c1, k0, k1, n1, H1, hj, rfl, hn1, hS1, hl1, ha1, B1', B2', B3', eA, eB, d0, d1, ex0, ex1, ef0, ef1⟩ J hJ
  have q1 := B1'.at_
  have q2 := B2'.at_
  have q3 := B3'.at_
  obtain ⟨f0, a0, w0, rfl⟩ := xfa
  obtain ⟨f1, a1, w1, rfl⟩ := xfb
  by_cases j0 : j = 0
  ·subst j0
   cases c0 with
   | true =>
    repeat' (first | simp -implicitDefEqProofs [CF, CS, CJ, CN, CG, CP, NC, -getElem?_pos, q1, q2, q3, -AA] | simp (disch := omega) only [A6] | (with_reducible first | exact AG | refine Bb ?_ | intro _g _hg | refine A5 ?_ ?_ | intro _hc) | omega)
    exact hJ 1 _ (by omega) ⟨1, pa1, pb1, true, c1, k0, k1, n1, H1, rfl, rfl, hn1, hS1, hl1, ha1, B1', B2', B3', eA, eB, (fun _ h => by cases h), by omega, ex0, ex1, ef0, ef1⟩
   | false =>
    repeat' (first | simp -implicitDefEqProofs [CF, CS, CJ, CN, CG, CP, NC, -getElem?_pos, q1, q2, q3, n23, Ne.symm n23, splice, -AA] | simp (disch := omega) only [A6] | ((rw [← ex0]); refine hS1.call (qs := []) (fun r n' H' p' hle hr hl hS2 ha => ?_); obtain ⟨h', b', rfl, hsd, hbn, hfn, hxn⟩ := A28 k0 hr; have B1n := B1'.go ng1 ha; have B2n := B2'.go ng2 ha; have B3n := B3'.go ng3 ha; have q2 := B2n.at_; have q3 := B3n.at_) | (with_reducible first | exact AG | refine Bb ?_ | intro _g _hg | refine A5 ?_ ?_ | intro _hc) | omega)
    rw [ex0]
    replace hS2 : Sit gO lo [p', pb1] H' n' gg (Ci (Ci cs lo (AD [pa1, pb1])) lo (AD [p', pb1])) := hS2
    replace hl : (AD [p', pb1]).length = (AD [pa1, pb1]).length := hl
    have hat := ((Aft.tr hgv ha1 ((ha).ext (B := fun g => g = g1 ∨ g = g2 ∨ g = g3) (fun g h => by have := B1.lt; have := B2.lt; have := B3.lt; rcases h with rfl | rfl | rfl <;> omega) (fun _ _ => rfl) (fun _ _ => rfl) (fun h => h.elim ng1 (fun h => h.elim ng2 ng3))) hl1 (hl.trans hl1)).box (x := some (Od h' k1)) (.inr (.inr (.inr rfl))) ng3).box (x := some (IV b' c1)) (.inr (.inr (.inl rfl))) ng2
    have hS3 := (hS2.keep (x := some (Od h' k1)) B3n.no B3n.nO ng3 B3n.lt).keep (x := some (IV b' c1)) B2n.no B2n.nO ng2 B2n.lt
    rw [C6 (by have := hgv.fit; omega) hl] at hS3
    exact hJ 1 _ (by omega) ⟨1, p', pb1, b', c1, h', k1, n', _, rfl, rfl, by omega, hS3, hl.trans hl1, hat, (B1n.keep n13).keep n12, (B2n.keep n23).set _, (B3n.set _).keep (Ne.symm n23), hsd.trans eA, eB, fun _ => hbn, by omega, hxn.trans ex0, ex1, hfn.trans ef0, ef1⟩
  by_cases j1 : j = 1
  ·subst j1
   cases c1 with
   | true =>
    repeat' (first | simp -implicitDefEqProofs [CF, CS, CJ, CN, CG, CP, NC, -getElem?_pos, q1, q2, q3, -AA] | simp (disch := omega) only [A6] | (with_reducible first | exact AG | refine Bb ?_ | intro _g _hg | refine A5 ?_ ?_ | intro _hc) | omega)
    exact hJ 0 _ (by omega) ⟨2, pa1, pb1, c0, true, k0, k1, n1, H1, rfl, rfl, hn1, hS1, hl1, ha1, B1', B2', B3', eA, eB, fun _ => d0 (by omega), (fun _ h => by cases h), ex0, ex1, ef0, ef1⟩
   | false =>
    repeat' (first | simp -implicitDefEqProofs [CF, CS, CJ, CN, CG, CP, NC, -getElem?_pos, q1, q2, q3, n23, Ne.symm n23, splice, -AA] | simp (disch := omega) only [A6] | ((rw [← ex1]); refine hS1.call (qs := [pa1]) (bs := []) (fun r n' H' p' hle hr hl hS2 ha => ?_); obtain ⟨h', b', rfl, hsd, hbn, hfn, hxn⟩ := A28 k1 hr; have B1n := B1'.go ng1 ha; have B2n := B2'.go ng2 ha; have B3n := B3'.go ng3 ha; have q2 := B2n.at_; have q3 := B3n.at_) | (with_reducible first | exact AG | refine Bb ?_ | intro _g _hg | refine A5 ?_ ?_ | intro _hc) | omega)
    rw [ex1]
    replace hS2 : Sit gO lo [pa1, p'] H' n' gg (Ci (Ci cs lo (AD [pa1, pb1])) lo (AD [pa1, p'])) := hS2
    replace hl : (AD [pa1, p']).length = (AD [pa1, pb1]).length := hl
    have hat := ((Aft.tr hgv ha1 ((ha).ext (B := fun g => g = g1 ∨ g = g2 ∨ g = g3) (fun g h => by have := B1.lt; have := B2.lt; have := B3.lt; rcases h with rfl | rfl | rfl <;> omega) (fun _ _ => rfl) (fun _ _ => rfl) (fun h => h.elim ng1 (fun h => h.elim ng2 ng3))) hl1 (hl.trans hl1)).box (x := some (Od k0 h')) (.inr (.inr (.inr rfl))) ng3).box (x := some (IV c0 b')) (.inr (.inr (.inl rfl))) ng2
    have hS3 := (hS2.keep (x := some (Od k0 h')) B3n.no B3n.nO ng3 B3n.lt).keep (x := some (IV c0 b')) B2n.no B2n.nO ng2 B2n.lt
    rw [C6 (by have := hgv.fit; omega) hl] at hS3
    exact hJ 0 _ (by omega) ⟨2, pa1, p', c0, b', k0, h', n', _, rfl, rfl, by omega, hS3, hl.trans hl1, hat, (B1n.keep n13).keep n12, (B2n.keep n23).set _, (B3n.set _).keep (Ne.symm n23), eA, hsd.trans eB, fun _ => d0 (by omega), fun _ => hbn, ex0, hxn.trans ex1, ef0, hfn.trans ef1⟩
  have hj2 : j = 2 := by omega
  subst hj2
  subst hR
  have dn : ∀ (e : AJ) (y : Int) (b0' b1' : Bool) (c : AQ) (L : Ad), get e 3 = aI y → get e 4 = .bool true → Bf fa fb La Lb = (y, AD [pa1, pb1]) :: Bf fa fb (side pa1 b0' k0) (side pb1 b1' k1) → (side pa1 b0' k0).length + (side pb1 b1' k1).length < N → fin (Cz false gO lo (fa ++ fb) (.fn 103 [] [.ptr g1 0, .ptr g2 0, .ptr g3 0]) gg cs (fun g => OU [pa, pb] g ∨ g = g1 ∨ g = g2 ∨ g = g3) n H (Bf fa fb La Lb)) n [.tmp 3, .tmp 4] .ret ⟨e, n1, upd H1 g2 (some (IV b0' b1'))⟩ := by
   intro e y b0' b1' c L h1 h2 h3 h4
   have hS3 := hS1.keep (x := some (IV b0' b1')) B2'.no B2'.nO ng2 B2'.lt
   have hat := ha1.box (x := some (IV b0' b1')) (.inr (.inr (.inl rfl))) ng2
   rw [h3]
   exact A9 (r := .tup [aI y, .bool true]) (by simp [Bd, CB, F7, h1, h2]) (by omega) hS3.sup ⟨_, rfl, hat, ih _ h4 pa1 pb1 b0' b1' k0 k1 _ _ n1 (Nat.le_refl _) hS3.pts rfl ex0 ex1 ef0 ef1 hS3.ngO (B1'.keep n12) (B2'.set _) (B3'.keep (Ne.symm n23))⟩
  have pf0 : pa1.l = none → pa1.cur = fa := fun h => by rw [← ef0]; exact hS1.pts.cur_fin (qs := []) h
  have pf1 : pb1.l = none → pb1.cur = fb := fun h => by rw [← ef1]; exact hS1.pts.cur_fin (qs := [_]) h
  have mlen := hN
  cases c0 with
  | false =>
   have l0 := d0 (by omega) rfl
   have s0 : La = [] := by rw [← eA]; simp [side, l0]
   cases c1 with
   | false =>
    have l1 := d1 (by omega) rfl
    have s1 : Lb = [] := by rw [← eB]; simp [side, l1]
    repeat' (first | simp -implicitDefEqProofs [CF, CS, CJ, CN, CG, CP, NC, -getElem?_pos, q1, q2, q3, -AA] | simp (disch := omega) only [A6] | (with_reducible first | exact AG | refine Bb ?_ | intro _g _hg | refine A5 ?_ ?_ | intro _hc) | omega)
    rw [s0, s1, Bf]
    have hcf : AD [pa1, pb1] = fa ++ fb := by simp [AD, pf0 l0, pf1 l1]
    rw [hcf] at ha1
    exact A9 (r := .tup [_, _]) rfl (by omega) hS1.sup ⟨0, _, rfl, ha1, fun h => by cases h⟩
   | true =>
    have s1 : Lb = (k1, pb1.cur) :: pb1.l.getD [] := by rw [← eB]; simp [side]
    repeat' (first | simp -implicitDefEqProofs [CF, CS, CJ, CN, CG, CP, NC, -getElem?_pos, q1, q2, q3, splice, -AA] | simp (disch := omega) only [A6] | (with_reducible first | exact AG | refine Bb ?_ | intro _g _hg | refine A5 ?_ ?_ | intro _hc) | omega)
    refine dn _ k1 false false [] [] rfl rfl ?_ ?_
    ·rw [s0, s1, Bf]; simp [side, l0, AD, pf0 l0]
    ·rw [s0, s1] at mlen; simp [side, l0] at mlen ⊢; omega
  | true =>
   have s0 : La = (k0, pa1.cur) :: pa1.l.getD [] := by rw [← eA]; simp [side]
   cases c1 with
   | false =>
    have l1 := d1 (by omega) rfl
    have s1 : Lb = [] := by rw [← eB]; simp [side, l1]
    repeat' (first | simp -implicitDefEqProofs [CF, CS, CJ, CN, CG, CP, NC, -getElem?_pos, q1, q2, q3, splice, -AA] | simp (disch := omega) only [A6] | (with_reducible first | exact AG | refine Bb ?_ | intro _g _hg | refine A5 ?_ ?_ | intro _hc) | omega)
    refine dn _ k0 false false [] [] rfl rfl ?_ ?_
    ·rw [s0, s1, Bf]; simp [side, l1, AD, pf1 l1]
    ·rw [s0, s1] at mlen; simp [side, l1] at mlen ⊢; omega
   | true =>
    have s1 : Lb = (k1, pb1.cur) :: pb1.l.getD [] := by rw [← eB]; simp [side]
    by_cases hlt : k1 < k0
    ·repeat' (first | simp -implicitDefEqProofs [CF, CS, CJ, CN, CG, CP, NC, -getElem?_pos, q1, q2, q3, hlt, splice, -AA] | simp (disch := omega) only [A6] | (with_reducible first | exact AG | refine Bb ?_ | intro _g _hg | refine A5 ?_ ?_ | intro _hc) | omega)
     refine dn _ k1 true false [] [] rfl rfl ?_ ?_
     ·rw [s0, s1, Bf, if_neg (by omega)]; simp [side, AD]
     ·rw [s0, s1] at mlen; simp [side] at mlen ⊢; omega
    ·repeat' (first | simp -implicitDefEqProofs [CF, CS, CJ, CN, CG, CP, NC, -getElem?_pos, q1, q2, q3, hlt, splice, -AA] | simp (disch := omega) only [A6] | (with_reducible first | exact AG | refine Bb ?_ | intro _g _hg | refine A5 ?_ ?_ | intro _hc) | omega)
     refine dn _ k0 false true [] [] rfl rfl ?_ ?_
     ·rw [s0, s1, Bf, if_pos (by omega)]; simp [side, AD]
     ·rw [s0, s1] at mlen; simp [side] at mlen ⊢; omega
theorem Sit.hd {gO lo gg n : Nat} {H : A1} {d : Option Nat} {K : AS → Prop} {en : AJ} (h : Sit gO lo (p :: bs) H n gg cs)
  (hk : ∀ r n' H' p', n ≤ n' → PtR p r p' → (AD (p' :: bs)).length = (AD (p :: bs)).length → Sit gO lo (p' :: bs) H' n' gg (Ci cs lo (AD (p' :: bs))) → Aft lo gg cs (AD (p' :: bs)) (OU (p :: bs)) n H n' H' (OU (p' :: bs)) → K ⟨AC en d r, n', H'⟩) :
  AA Tryz.prog d K en n H [] p.x := Sit.call (qs := []) h hk
def PSe (gO lo : Nat) (p : Pt) (l : Ad) (gg : Nat) (cs : AQ) (n : Nat) (H : A1) : DD := fun r n' H' => ∃ p', n ≤ n' ∧ PtR ⟨p.x, some l, p.cur, p.fin, p.O⟩ r p' ∧ (AD [p']).length = (AD [p]).length ∧ Sit gO lo [p'] H' n' gg (Ci cs lo (AD [p'])) ∧ Aft lo gg cs (AD [p']) (OU [p]) n H n' H' (OU [p'])
abbrev L0 (pd : Int → Bool) (l : Ad) : Ad := l.dropWhile fun e => !pd e.1
theorem Oa {gO lo gg gs f : Nat} (hcal : Ae Tryz.prog f = true) (hpd : ∀ (x : Int) (n : Nat) (H : A1), AW x → H gs = some ob → APureAt Tryz.prog f [aI x, .ptr gs 0] n H (.bool (pd x))) (hxf : Cp px) (ng : gg ≠ gs) (l : Ad) (cur cs : AQ) (O : Nat → Prop) (n : Nat) (H : A1)
  (hS : Sit gO lo [⟨px, some l, cur, fin, O⟩] H n gg cs) (hrg : rgE l) (B : Bx (OU [⟨px, some l, cur, fin, O⟩]) gO gs H n ob) : ACalls Tryz.prog 106 [px, .fn f [] [.ptr gs 0]] n H (PSe gO lo ⟨px, some l, cur, fin, O⟩ (L0 pd l) gg cs n H) := by
 generalize hR : PSe _ _ _ _ _ _ _ _ = R
 refine A2 Tryz.func106 A2h rfl fun hs => ?_
 repeat' (first | simp -implicitDefEqProofs [XV, HH, XV, -getElem?_pos, -AA] | simp (disch := omega) only [A6] | (with_reducible first | exact AG | refine Bb ?_ | intro _g _hg | refine A5 ?_ ?_ | intro _hc) | omega)
 refine LoopK.go (fun r st => ∃ (l1 : Ad) (cur1 : AQ) (O1 : Nat → Prop) (n1 : Nat) (H1 : A1), r = l1.length ∧ st = ⟨[(0, px), (1, .fn f [] [.ptr gs 0])], n1, H1⟩ ∧ n ≤ n1 ∧ Sit gO lo [⟨px, some l1, cur1, fin, O1⟩] H1 n1 gg (Ci cs lo (AD [⟨px, some l1, cur1, fin, O1⟩])) ∧ (AD [⟨px, some l1, cur1, fin, O1⟩]).length = (AD [⟨px, some l, cur, fin, O⟩]).length ∧ rgE l1 ∧
  Aft lo gg cs (AD [⟨px, some l1, cur1, fin, O1⟩]) (OU [⟨px, some l, cur, fin, O⟩]) n H n1 H1 (OU [⟨px, some l1, cur1, fin, O1⟩]) ∧ Bx (OU [⟨px, some l1, cur1, fin, O1⟩]) gO gs H1 n1 ob ∧ L0 pd l1 = L0 pd l) l.length ?_ ?_
 ·refine ⟨l, cur, O, n, H, rfl, rfl, Nat.le_refl _, ?_, rfl, hrg, Aft.same hS.giv hS.pts.bel, B, rfl⟩
  rw [Dx hS.giv]; exact hS
 rintro r st ⟨l1, cur1, O1, n1, H1, rfl, rfl, hn1, hS1, hl1, hrg1, ha1, B1, hE⟩ J hJ
 obtain ⟨ff, fa, fb, rfl⟩ := hxf
 cases l1 with
 | nil =>
  repeat' (first | simp -implicitDefEqProofs [HH, XV, -getElem?_pos, -AA] | simp (disch := omega) only [A6] | (refine hS1.hd (fun r n' H' p' hle hr hl hS2 ha => ?_); obtain ⟨x', l', cur', fin', O2⟩ := p'; dsimp only [PtR] at hr; obtain ⟨rfl, rfl, ⟨v, rfl⟩, rfl, rfl⟩ := hr) | (with_reducible first | exact AG | refine Bb ?_ | intro _g _hg | refine A5 ?_ ?_ | intro _hc) | omega)
  subst hR
  have hat := Aft.tr hS.giv ha1 ha hl1 (hl.trans hl1)
  have e0 : L0 pd l = [] := by rw [← hE]; rfl
  rw [C6 (by have := hS.giv.fit; omega) hl] at hS2
  rw [e0]
  exact A9 (r := .tup [aI v, .bool false]) rfl (by omega) hS2.sup ⟨⟨.fn ff fa fb, none, cur', cur', O2⟩, by omega, ⟨rfl, rfl, ⟨v, rfl⟩, rfl, rfl⟩, hl.trans hl1, hS2, hat⟩
 | cons e l1 =>
  obtain ⟨y, c⟩ := e
  cases hpy : pd y with
  | true =>
   repeat' (first | simp -implicitDefEqProofs [HH, XV, -getElem?_pos, hcal, QK (f := f), -AA] | simp (disch := omega) only [A6] | (refine hS1.hd (fun r n' H' p' hle hr hl hS2 ha => ?_); obtain ⟨x', l', cur', fin', O2⟩ := p'; dsimp only [PtR] at hr; obtain ⟨rfl, rfl, rfl, rfl, rfl⟩ := hr; have B2 := B1.go ng ha; have hap := hpd y n' H' hrg1.hd B2.at_; rw [hpy] at hap) | ((with_reducible refine CallK.chk (f := _) ?_); (refine' CallK.sfAt ?_ (hap) ?_); (focus first | (with_reducible exact A0 _) | (simp [AK, AH, A4, A0]; done))) | (with_reducible first | exact AG | refine Bb ?_ | intro _g _hg | refine A5 ?_ ?_ | intro _hc) | omega)
   subst hR
   have hat := Aft.tr hS.giv ha1 ha hl1 (hl.trans hl1)
   have e0 : L0 pd l = (y, cur') :: l1 := by rw [← hE]; simp [L0, List.dropWhile, hpy]
   rw [C6 (by have := hS.giv.fit; omega) hl] at hS2
   rw [e0]
   exact A9 (r := .tup [aI y, .bool true]) rfl (by omega) hS2.sup ⟨⟨.fn ff fa fb, some l1, cur', fin', O2⟩, by omega, ⟨rfl, rfl, rfl, rfl, rfl⟩, hl.trans hl1, hS2, hat⟩
  | false =>
   repeat' (first | simp -implicitDefEqProofs [HH, XV, -getElem?_pos, hcal, QK (f := f), -AA] | simp (disch := omega) only [A6] | (refine hS1.hd (fun r n' H' p' hle hr hl hS2 ha => ?_); obtain ⟨x', l', cur', fin', O2⟩ := p'; dsimp only [PtR] at hr; obtain ⟨rfl, rfl, rfl, rfl, rfl⟩ := hr; have B2 := B1.go ng ha; have hap := hpd y n' H' hrg1.hd B2.at_; rw [hpy] at hap) | ((with_reducible refine CallK.chk (f := _) ?_); (refine' CallK.sfAt ?_ (hap) ?_); (focus first | (with_reducible exact A0 _) | (simp [AK, AH, A4, A0]; done))) | (with_reducible first | exact AG | refine Bb ?_ | intro _g _hg | refine A5 ?_ ?_ | intro _hc) | omega)
   have hat := Aft.tr hS.giv ha1 ha hl1 (hl.trans hl1)
   have e0 : L0 pd ((y, cur') :: l1) = L0 pd l1 := by simp [L0, List.dropWhile, hpy]
   rw [C6 (by have := hS.giv.fit; omega) hl] at hS2
   exact hJ l1.length _ (by simp) ⟨l1, cur', O2, n', H', rfl, rfl, by omega, hS2, hl.trans hl1, hrg1.tl, hat, B1.go ng ha, e0 ▸ hE⟩
theorem UR : Ae Tryz.prog 105 = true := by kernel_rfl
theorem Sf : Ae Tryz.prog 107 = true := by kernel_rfl
theorem OO : Ae Tryz.prog 134 = true := by kernel_rfl
theorem WO : Ae Tryz.prog 135 = true := by kernel_rfl
theorem Zf : Ae Tryz.prog 115 = true := by kernel_rfl
theorem WJ : Ae Tryz.prog 116 = true := by kernel_rfl
theorem X6 (hop : 1 ≤ op ∧ op ≤ 3) (hm : AW m) (h3 : op = 3 → 1 ≤ m) (x : Int) (n : Nat) (H : A1) (hx : AW x) (q : H gs = some (Ah k op m a b)) : APureAt Tryz.prog 107 [aI x, .ptr gs 0] n H (.bool (FE op x m)) := by
 have hap := RZ op x m hop hx hm h3
 refine CE Tryz.func107 A2t rfl fun hH => ?_
 repeat' (first | simp -implicitDefEqProofs [A4p, -getElem?_pos, q, AH] | simp (disch := omega) only [A6] | ((with_reducible refine AO 108 ?_); refine' Aa (hap) ?_) | (with_reducible first | exact AG | refine Dl ?_ | intro _g _hg | refine A5 ?_ ?_ | intro _hc) | omega)
theorem A0c (hop : 1 ≤ op ∧ op ≤ 3) (hm : AW m) (h3 : op = 3 → 1 ≤ m) (x : Int) (n : Nat) (H : A1) (hx : AW x) (q : H gs = some (Ah k op m a b)) : APureAt Tryz.prog 135 [aI x, .ptr gs 0] n H (.bool (!FE op x m)) := by
 have hap := RZ op x m hop hx hm h3
 refine CE Tryz.func135 A2q rfl fun hH => ?_
 repeat' (first | simp -implicitDefEqProofs [A65, -getElem?_pos, q, AH] | simp (disch := omega) only [A6] | ((with_reducible refine AO 108 ?_); refine' Aa (hap) ?_) | (with_reducible first | exact AG | refine Dl ?_ | intro _g _hg | refine A5 ?_ ?_ | intro _hc) | omega)
theorem Zn {z : Int} (x : Int) (n : Nat) (H : A1) (hx : AW x) (q : H gs = some (BW z)) : APureAt Tryz.prog 116 [aI x, .ptr gs 0] n H (.bool (x != z)) := by
 refine CE Tryz.func116 A45 rfl fun hH => ?_
 repeat' (first | simp -implicitDefEqProofs [A4v, -getElem?_pos, q, AH] | simp (disch := omega) only [A6] | (with_reducible first | exact AG | refine Dl ?_ | intro _g _hg | refine A5 ?_ ?_ | intro _hc) | omega)
theorem Uq (pd : Int → Bool) (l : Ad) : (L0 pd l).length ≤ l.length := (List.dropWhile_sublist _).length_le
theorem US (h : rgE l) : rgE (L0 pd l) := h.sub (List.dropWhile_sublist _)
theorem OP {pd : Int → Bool} : ∀ {l : Ad}, l.filter (fun e => pd e.1) = (match L0 pd l with | [] => [] | e :: r => e :: r.filter fun e => pd e.1)
 | [] => rfl
 | (y, c) :: l => by
  cases h : pd y with
  | true => simp [L0, List.dropWhile, h]
  | false =>
   have := OP (pd := pd) (l := l)
   simp only [L0, List.dropWhile, h] at this ⊢
   simpa [h] using this
theorem UD (hop : 1 ≤ op ∧ op ≤ 3) (hm : AW m) (h3 : op = 3 → 1 ≤ m) (hxf : Cp px) : ∀ (N : Nat) (l : Ad) (cur : AQ) (O1 O : Nat → Prop) (H0 : A1) (n0 : Nat), l.length ≤ N → Pts gO lo [⟨px, some l, cur, fin, O1⟩] H0 n0 → OU [⟨px, some l, cur, fin, O1⟩] = O → rgE l → ¬ O gO →
  Bx O gO g1 H0 n0 (Bg px) → Bx O gO g2 H0 n0 (Ah k op m a b) → Raw false gO lo fin (.fn 105 [] [.ptr g1 0, .ptr g2 0]) (l.filter fun e => FE op e.1 m) (AD [⟨px, some l, cur, fin, O1⟩]) (fun g => O g ∨ g = g1 ∨ g = g2) H0 n0 := by
 intro N
 induction N using Nat.strongRecOn with
 | _ N ih =>
  intro l cur O1 O H0 n0 hN hP hO hrg noO B1 B2
  have hbel : ∀ g, O g → g < n0 := fun g hg => hP.bel g (hO ▸ hg)
  refine Raw.of fun n H gg cs hn hag hgg hgO hgv => ?_
  replace B1 := B1.to hn (hag g1 (.inr (.inl rfl)))
  have q1 := B1.at_
  have ng1 : gg ≠ g1 := fun h => hgg (.inr (.inl h))
  replace B2 := B2.to hn (hag g2 (.inr (.inr rfl)))
  have q2 := B2.at_
  have ng2 : gg ≠ g2 := fun h => hgg (.inr (.inr h))
  have nog : ¬ O gg := fun h => hgg (.inl h)
  replace hbel : ∀ g, O g → g < n := fun g h => Nat.lt_of_lt_of_le (hbel g h) hn
  refine ⟨UR, ?_⟩
  subst hO
  have hS := fun hs => Sit.start hP hn (fun g hg => hag g (.inl hg)) nog noO hgv hs
  have hft := OP (pd := fun x => FE op x m) (l := l)
  have hrg2 : rgE (L0 (fun x => FE op x m) l) := US hrg
  have htl := Uq (fun x => FE op x m) l
  have hc := fun hs => Oa (pd := fun x => FE op x m) Sf (X6 (k := k) (a := a) (b := b) hop hm h3) hxf ng2 l cur cs O1 n H (hS hs) hrg B2
  rw [hft]
  generalize L0 (fun x => FE op x m) l = l2 at *
  obtain ⟨ff, fa, fb, rfl⟩ := hxf
  cases l2 with
  | nil =>
   generalize hR : Cz _ _ _ _ _ _ _ _ _ _ _ = R
   refine A2 Tryz.func105 Yy rfl fun hs => ?_
   have hc := hc hs
   repeat' (first | simp -implicitDefEqProofs [A2j, -getElem?_pos, q1, q2, -AA] | simp (disch := omega) only [A6] | ((with_reducible refine B0 106 ?_); refine ⟨_, hc, ?_⟩; rintro r n' H' hle hsup ⟨p', (hle : n ≤ n'), hr, hl, hS2, ha⟩; obtain ⟨x', l', cur', fin', O2⟩ := p'; dsimp only [PtR] at hr; obtain ⟨rfl, rfl, ⟨v, rfl⟩, rfl, rfl⟩ := hr) | (with_reducible first | exact AG | refine Bb ?_ | intro _g _hg | refine A5 ?_ ?_ | intro _hc) | omega)
   subst hR
   replace ha := ha.eqc (c' := cur') (by simp [AD])
   exact A9 (r := .tup [_, _]) rfl (by omega) hsup ⟨v, _, rfl, ((ha).ext (B := fun g => g = g1 ∨ g = g2) (fun g h => by have := B1.lt; have := B2.lt; rcases h with rfl | rfl <;> omega) (fun _ _ => rfl) (fun _ _ => rfl) (fun h => h.elim ng1 ng2)), fun h => by cases h⟩
  | cons e l2 =>
   obtain ⟨y, c⟩ := e
   generalize hR : Cz _ _ _ _ _ _ _ _ _ _ _ = R
   refine A2 Tryz.func105 Yy rfl fun hs => ?_
   have hc := hc hs
   repeat' (first | simp -implicitDefEqProofs [A2j, -getElem?_pos, q1, q2, -AA] | simp (disch := omega) only [A6] | ((with_reducible refine B0 106 ?_); refine ⟨_, hc, ?_⟩; rintro r n' H' hle hsup ⟨p', (hle : n ≤ n'), hr, hl, hS2, ha⟩; obtain ⟨x', l', cur', fin', O2⟩ := p'; dsimp only [PtR] at hr; obtain ⟨rfl, rfl, rfl, rfl, rfl⟩ := hr) | (with_reducible first | exact AG | refine Bb ?_ | intro _g _hg | refine A5 ?_ ?_ | intro _hc) | omega)
   subst hR
   have ha1 := ha.eqc (c' := cur') (by simp [AD])
   have := ih l2.length (by simp at htl; omega) l2 cur' O2 _ H' n' (Nat.le_refl _) hS2.pts rfl hrg2.tl hS2.ngO (B1.go ng1 ha) (B2.go ng2 ha)
   simp only [AD, List.append_nil] at this
   exact A9 (r := .tup [_, _]) rfl (by omega) hsup ⟨_, rfl, ((ha1).ext (B := fun g => g = g1 ∨ g = g2) (fun g h => by have := B1.lt; have := B2.lt; rcases h with rfl | rfl <;> omega) (fun _ _ => rfl) (fun _ _ => rfl) (fun h => h.elim ng1 ng2)), this⟩
end Go.Proofs.YtjdccdelcnmocaaGreatDoor
