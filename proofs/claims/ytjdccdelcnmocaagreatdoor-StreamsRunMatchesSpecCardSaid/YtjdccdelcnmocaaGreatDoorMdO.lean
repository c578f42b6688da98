/- Streams: sources that skip elements, or repeated ones; no condition. -/
import Derived.Test.YtjdccdelcnmocaaGreatDoorMgK
import Derived.Test.YtjdccdelcnmocaaGreatDoorMdN
set_option linter.all false
set_option maxHeartbeats 2000000
namespace Go.Proofs.YtjdccdelcnmocaaGreatDoor
theorem Sw (p : Int → Bool) : ∀ l : Ad, GG p l = L0 (fun x => !p x) l
 | [] => rfl
 | (x, c) :: l => by
  have := Sw p l
  cases h : p x with
  | true => simp only [GG, h]; simpa [L0, List.dropWhile, h] using this
  | false => simp [GG, L0, List.dropWhile, h]
theorem S7 : ∀ (z : Int) (l : Ad), GB z l = (match L0 (fun x => x != z) l with | [] => [] | e :: r => e :: GB e.1 r)
 | _, [] => rfl
 | z, (x, c) :: l => by
  have := S7 z l
  by_cases h : x = z
  ·subst h; simp only [GB]; simpa [L0, List.dropWhile] using this
  ·have h2 : (x != z) = true := by simpa using h
   rw [GB, if_pos h]
   simp only [L0, List.dropWhile, h2, Bool.not_true]
attribute [local simp] Ng FD FC Lc MV LI Ni FN FF HQ HO Lg MC Nq MZ Ny No NG NY LV LZ M0 MT Ly LJ Tq pe N9 Ld MD Lv N1 Nf Li O7 Mz N4 Mx Mc Ln FU O5 OC Lk Nt NR Na Mr Ma OD Mh LX NT LR Ms MX LN Np N0 Ls LH Lf Ey MY F4 LL Lo OA O0 M9 Nj M4 MF MA MG NF N7 Mt Mi Mo Lw Mq MQ MH Mj N8 Nv Nr Ns Nm FX M1 Nh Mw Lu Mk Md M8 NZ O8 NJ MJ MS Nd M2 Lp NA N5 Mn Lt NQ NX NN MI Nc NW LW NK Mf Mp Nu Ja Ll List.mem_cons guardK EE G9 GK HN LK F3 FL F8 FO FJ FG FQ FY Ez LF ME FV LM MP M7 Lh N3 MM F1 MW NL NV LG LU Lr HS FT FB FS FM Nn M5 FP LQ F9 Lj F6 FA Nz F5 F2 Lq My ND NU NH MB Lm OB Tt KK Ki Hc KI Ju K7 Eb Gt HA MN Gm Gu EZ ED Wm Jx Kn Gq Ji Js E5 Dd BZ B9 CA DW AA ev get put Fc AC EC Mb MK Lx O4 KL NP Eu part B8 HY N2 HB isNil DA DG Dz DK DH NO O6 OF NS M3 Ke LY Mu Nl MR OE Nk Nb LT Nw Mv AV.fits AV.cells ones AV.one EP Bw EN DX Fb Ev Mm Fy GE CW Bd CB F7 GI AP BD Xd HU N6 Me List.getElem?_cons_zero List.getElem?_cons_succ FW FH F0 NB NM NI HW Ml MO NE Lz ML M6 Mg MU Nx O9 LP
theorem Wy {gO lo : Nat} {fin : AQ} {px : AV} {g1 g2 g3 : Nat} {ob : AObj} (hxf : Cp px) : ∀ (l : Ad) (cur : AQ) (O : Nat → Prop) (H0 : A1) (n0 : Nat), Raw true gO lo fin px l cur O H0 n0 → ¬ O gO → (∀ g, O g → g < n0) →
  Bx O gO g1 H0 n0 (GT true) → Bx O gO g2 H0 n0 (Bg px) → Bx O gO g3 H0 n0 ob → Raw false gO lo fin (.fn 134 [] [.ptr g1 0, .ptr g2 0, .ptr g3 0]) l cur (fun g => O g ∨ g = g1 ∨ g = g2 ∨ g = g3) H0 n0 := by
 intro l
 induction l with
 | nil =>
  intro cur O H0 n0 hr noO hbel B1 B2 B3
  refine Raw.of fun n H gg cs hn hag hgg hgO hgv => ?_
  replace B1 := B1.to hn (hag g1 (.inr (.inl rfl)))
  have q1 := B1.at_
  have ng1 : gg ≠ g1 := fun h => hgg (.inr (.inl h))
  replace B2 := B2.to hn (hag g2 (.inr (.inr (.inl rfl))))
  have q2 := B2.at_
  have ng2 : gg ≠ g2 := fun h => hgg (.inr (.inr (.inl h)))
  replace B3 := B3.to hn (hag g3 (.inr (.inr (.inr rfl))))
  have q3 := B3.at_
  have ng3 : gg ≠ g3 := fun h => hgg (.inr (.inr (.inr h)))
  have nog : ¬ O gg := fun h => hgg (.inl h)
  replace hbel : ∀ g, O g → g < n := fun g h => Nat.lt_of_lt_of_le (hbel g h) hn
  refine ⟨OO, ?_⟩
  replace hr := hr.at_ (fun g hg => hag g (.inl hg)) hn
  have hc := hr.to n H gg cs (Nat.le_refl _) (fun _ _ => rfl) nog noO hgv
  generalize hR : Cz _ _ _ _ _ _ _ _ _ _ _ = R
  refine A2 Tryz.func134 RI rfl fun hs => ?_
  repeat' (first | simp -implicitDefEqProofs [HI, Yb, -getElem?_pos, q1, q2, splice, -AA] | simp (disch := omega) only [A6] | (refine BS hc ⟨?_⟩; rintro r n' H' hle hsup ⟨v, O', rfl, ha, _⟩) | (with_reducible first | exact AG | refine Bb ?_ | intro _g _hg | refine A5 ?_ ?_ | intro _hc) | omega)
  subst hR
  exact A9 (r := .tup [_, _]) rfl (by omega) hsup ⟨v, _, rfl, ((ha).ext (B := fun g => g = g1 ∨ g = g2 ∨ g = g3) (fun g h => by have := B1.lt; have := B2.lt; have := B3.lt; rcases h with rfl | rfl | rfl <;> omega) (fun _ _ => rfl) (fun _ _ => rfl) (fun h => h.elim ng1 (fun h => h.elim ng2 ng3))), fun h => by cases h⟩
 | cons e l ih =>
  obtain ⟨y, c⟩ := e
  intro cur O H0 n0 hr noO hbel B1 B2 B3
  refine Raw.of fun n H gg cs hn hag hgg hgO hgv => ?_
  replace B1 := B1.to hn (hag g1 (.inr (.inl rfl)))
  have q1 := B1.at_
  have ng1 : gg ≠ g1 := fun h => hgg (.inr (.inl h))
  replace B2 := B2.to hn (hag g2 (.inr (.inr (.inl rfl))))
  have q2 := B2.at_
  have ng2 : gg ≠ g2 := fun h => hgg (.inr (.inr (.inl h)))
  replace B3 := B3.to hn (hag g3 (.inr (.inr (.inr rfl))))
  have q3 := B3.at_
  have ng3 : gg ≠ g3 := fun h => hgg (.inr (.inr (.inr h)))
  have nog : ¬ O gg := fun h => hgg (.inl h)
  replace hbel : ∀ g, O g → g < n := fun g h => Nat.lt_of_lt_of_le (hbel g h) hn
  refine ⟨OO, ?_⟩
  replace hr := hr.at_ (fun g hg => hag g (.inl hg)) hn
  have hc := hr.to n H gg cs (Nat.le_refl _) (fun _ _ => rfl) nog noO hgv
  generalize hR : Cz _ _ _ _ _ _ _ _ _ _ _ = R
  refine A2 Tryz.func134 RI rfl fun hs => ?_
  repeat' (first | simp -implicitDefEqProofs [HI, Yb, -getElem?_pos, q1, q2, splice, -AA] | simp (disch := omega) only [A6] | (refine BS hc ⟨?_⟩; rintro r n' H' hle hsup ⟨O', rfl, ha, hr'⟩) | (with_reducible first | exact AG | refine Bb ?_ | intro _g _hg | refine A5 ?_ ?_ | intro _hc) | omega)
  subst hR
  exact A9 (r := .tup [_, _]) rfl (by omega) hsup ⟨_, rfl, ((ha).ext (B := fun g => g = g1 ∨ g = g2 ∨ g = g3) (fun g h => by have := B1.lt; have := B2.lt; have := B3.lt; rcases h with rfl | rfl | rfl <;> omega) (fun _ _ => rfl) (fun _ _ => rfl) (fun h => h.elim ng1 (fun h => h.elim ng2 ng3))), ih c O' _ n' hr' (ha.nO noO (hgv.lt hs).1) ha.bel (B1.go ng1 ha) (B2.go ng2 ha) (B3.go ng3 ha)⟩
theorem YJ {gO lo : Nat} {fin : AQ} {px a b : AV} {g1 g2 g3 : Nat} {k op m : Int} (hop : 1 ≤ op ∧ op ≤ 3) (hm : AW m) (h3 : op = 3 → 1 ≤ m) (hxf : Cp px) (n12 : g1 ≠ g2) (n13 : g1 ≠ g3) (l : Ad) (cur : AQ) (O1 O : Nat → Prop) (H0 : A1) (n0 : Nat) (hP : Pts gO lo [⟨px, some l, cur, fin, O1⟩] H0 n0) (hO : OU [⟨px, some l, cur, fin, O1⟩] = O) (hrg : rgE l) (noO : ¬ O gO)
  (B1 : Bx O gO g1 H0 n0 (GT false)) (B2 : Bx O gO g2 H0 n0 (Bg px)) (B3 : Bx O gO g3 H0 n0 (Ah k op m a b)) : Raw false gO lo fin (.fn 134 [] [.ptr g1 0, .ptr g2 0, .ptr g3 0]) (GG (fun x => FE op x m) l) (AD [⟨px, some l, cur, fin, O1⟩]) (fun g => O g ∨ g = g1 ∨ g = g2 ∨ g = g3) H0 n0 := by
 have hbel : ∀ g, O g → g < n0 := fun g hg => hP.bel g (hO ▸ hg)
 refine Raw.of fun n H gg cs hn hag hgg hgO hgv => ?_
 replace B1 := B1.to hn (hag g1 (.inr (.inl rfl)))
 have q1 := B1.at_
 have ng1 : gg ≠ g1 := fun h => hgg (.inr (.inl h))
 replace B2 := B2.to hn (hag g2 (.inr (.inr (.inl rfl))))
 have q2 := B2.at_
 have ng2 : gg ≠ g2 := fun h => hgg (.inr (.inr (.inl h)))
 replace B3 := B3.to hn (hag g3 (.inr (.inr (.inr rfl))))
 have q3 := B3.at_
 have ng3 : gg ≠ g3 := fun h => hgg (.inr (.inr (.inr h)))
 have nog : ¬ O gg := fun h => hgg (.inl h)
 replace hbel : ∀ g, O g → g < n := fun g h => Nat.lt_of_lt_of_le (hbel g h) hn
 refine ⟨OO, ?_⟩
 subst hO
 have hS := fun hs => (Sit.start hP hn (fun g hg => hag g (.inl hg)) nog noO hgv hs).keep (x := some (GT true)) B1.no B1.nO ng1 B1.lt
 have B1u := B1.set (GT true)
 have B2u := B2.keep (x := some (GT true)) (Ne.symm n12)
 have B3u := B3.keep (x := some (GT true)) (Ne.symm n13)
 have hft := Sw (fun x => FE op x m) l
 have hrg2 : rgE (L0 (fun x => !FE op x m) l) := US hrg
 have hc := fun hs => Oa (pd := fun x => !FE op x m) WO (A0c (k := k) (a := a) (b := b) hop hm h3) hxf ng3 l cur cs O1 n _ (hS hs) hrg B3u
 rw [hft]
 generalize L0 (fun x => !FE op x m) l = l2 at *
 have hxf' := hxf
 obtain ⟨ff, fa, fb, rfl⟩ := hxf
 cases l2 with
 | nil =>
  generalize hR : Cz _ _ _ _ _ _ _ _ _ _ _ = R
  refine A2 Tryz.func134 RI rfl fun hs => ?_
  have hc := hc hs
  repeat' (first | simp -implicitDefEqProofs [HI, Yb, -getElem?_pos, q1, q2, n12, Ne.symm n12, splice, -AA] | simp (disch := omega) only [A6] | ((with_reducible refine B0 106 ?_); refine ⟨_, hc, ?_⟩; rintro r n' H' hle hsup ⟨p', (hle : n ≤ n'), hr, hl, hS2, ha⟩; obtain ⟨x', l', cur', fin', O2⟩ := p'; dsimp only [PtR] at hr; obtain ⟨rfl, rfl, ⟨v, rfl⟩, rfl, rfl⟩ := hr) | (with_reducible first | exact AG | refine Bb ?_ | intro _g _hg | refine A5 ?_ ?_ | intro _hc) | omega)
  subst hR
  replace ha := ha.eqc (c' := cur') (by simp [AD])
  exact A9 (r := .tup [_, _]) rfl (by omega) hsup ⟨v, _, rfl, ((ha).ext (B := fun g => g = g1 ∨ g = g2 ∨ g = g3) (fun g h => by have := B1.lt; have := B2.lt; have := B3.lt; rcases h with rfl | rfl | rfl <;> omega) (fun g h => by rw [upd_ne (fun e => h (.inl e))]) (fun _ _ => rfl) (fun h => h.elim ng1 (fun h => h.elim ng2 ng3))), fun h => by cases h⟩
 | cons e l2 =>
  obtain ⟨y, c⟩ := e
  generalize hR : Cz _ _ _ _ _ _ _ _ _ _ _ = R
  refine A2 Tryz.func134 RI rfl fun hs => ?_
  have hc := hc hs
  repeat' (first | simp -implicitDefEqProofs [HI, Yb, -getElem?_pos, q1, q2, n12, Ne.symm n12, splice, -AA] | simp (disch := omega) only [A6] | ((with_reducible refine B0 106 ?_); refine ⟨_, hc, ?_⟩; rintro r n' H' hle hsup ⟨p', (hle : n ≤ n'), hr, hl, hS2, ha⟩; obtain ⟨x', l', cur', fin', O2⟩ := p'; dsimp only [PtR] at hr; obtain ⟨rfl, rfl, rfl, rfl, rfl⟩ := hr) | (with_reducible first | exact AG | refine Bb ?_ | intro _g _hg | refine A5 ?_ ?_ | intro _hc) | omega)
  subst hR
  have ha1 := ha.eqc (c' := cur') (by simp [AD])
  have hr' : Raw true gO lo fin' (.fn ff fa fb) l2 cur' O2 H' n' := hS2.pts.1.1
  have hOs : ∀ g, OU [⟨.fn ff fa fb, some l2, cur', fin', O2⟩] g ↔ O2 g := fun g => by simp [OU]
  have C1 := B1u.go ng1 ha
  have C2 := B2u.go ng2 ha
  have C3 := B3u.go ng3 ha
  have := Wy hxf' l2 cur' O2 H' n' hr' (fun h => hS2.ngO ((hOs _).2 h)) (fun g h => hS2.pts.bel g ((hOs g).2 h)) ⟨fun h => C1.no ((hOs _).2 h), C1.nO, C1.lt, C1.at_⟩ ⟨fun h => C2.no ((hOs _).2 h), C2.nO, C2.lt, C2.at_⟩ ⟨fun h => C3.no ((hOs _).2 h), C3.nO, C3.lt, C3.at_⟩
  have hOe : OU [⟨.fn ff fa fb, some l2, cur', fin', O2⟩] = O2 := funext fun g => propext (hOs g)
  rw [hOe] at ha1
  exact A9 (r := .tup [_, _]) rfl (by omega) hsup ⟨_, rfl, ((ha1).ext (B := fun g => g = g1 ∨ g = g2 ∨ g = g3) (fun g h => by have := B1.lt; have := B2.lt; have := B3.lt; rcases h with rfl | rfl | rfl <;> omega) (fun g h => by rw [upd_ne (fun e => h (.inl e))]) (fun _ _ => rfl) (fun h => h.elim ng1 (fun h => h.elim ng2 ng3))), this⟩
theorem ZT {gO lo : Nat} {fin : AQ} {px : AV} {g1 g2 : Nat} (hxf : Cp px) (n12 : g1 ≠ g2) : ∀ (N : Nat) (z : Int) (l : Ad) (cur : AQ) (O1 O : Nat → Prop) (H0 : A1) (n0 : Nat), l.length ≤ N → Pts gO lo [⟨px, some l, cur, fin, O1⟩] H0 n0 → OU [⟨px, some l, cur, fin, O1⟩] = O → rgE l → ¬ O gO →
  Bx O gO g1 H0 n0 (Bg px) → Bx O gO g2 H0 n0 (BW z) → Raw false gO lo fin (.fn 115 [] [.ptr g1 0, .ptr g2 0]) (GB z l) (AD [⟨px, some l, cur, fin, O1⟩]) (fun g => O g ∨ g = g1 ∨ g = g2) H0 n0 := by
 intro N
 induction N using Nat.strongRecOn with
 | _ N ih =>
  intro z l cur O1 O H0 n0 hN hP hO hrg noO B1 B2
  have hbel : ∀ g, O g → g < n0 := fun g hg => hP.bel g (hO ▸ hg)
  refine Raw.of fun n H gg cs hn hag hgg hgO hgv => ?_
  replace B1 := B1.to hn (hag g1 (.inr (.inl rfl)))
  have q1 := B1.at_
  have ng1 : gg ≠ g1 := fun h => hgg (.inr (.inl h))
  replace B2 := B2.to hn (hag g2 (.inr (.inr rfl)))
  have q2 := B2.at_
  have ng2 : gg ≠ g2 := fun h => hgg (.inr (.inr h))
  have nog : ¬ O gg := fun h => hgg (.inl h)
  replace hbel : ∀ g, O g → g < n := fun g h => Nat.lt_of_lt_of_le (hbel g h) hn
  refine ⟨Zf, ?_⟩
  subst hO
  have hS := fun hs => Sit.start hP hn (fun g hg => hag g (.inl hg)) nog noO hgv hs
  have hft := S7 z l
  have hrg2 : rgE (L0 (fun x => x != z) l) := US hrg
  have htl := Uq (fun x => x != z) l
  have hc := fun hs => Oa (pd := fun x => x != z) WJ (Zn (z := z)) hxf ng2 l cur cs O1 n H (hS hs) hrg B2
  rw [hft]
  generalize L0 (fun x => x != z) l = l2 at *
  obtain ⟨ff, fa, fb, rfl⟩ := hxf
  cases l2 with
  | nil =>
   generalize hR : Cz _ _ _ _ _ _ _ _ _ _ _ = R
   refine A2 Tryz.func115 Xy rfl fun hs => ?_
   have hc := hc hs
   repeat' (first | simp -implicitDefEqProofs [A40, -getElem?_pos, q1, q2, splice, -AA] | simp (disch := omega) only [A6] | ((with_reducible refine B0 106 ?_); refine ⟨_, hc, ?_⟩; rintro r n' H' hle hsup ⟨p', (hle : n ≤ n'), hr, hl, hS2, ha⟩; obtain ⟨x', l', cur', fin', O2⟩ := p'; dsimp only [PtR] at hr; obtain ⟨rfl, rfl, ⟨v, rfl⟩, rfl, rfl⟩ := hr; have C2 := B2.go ng2 ha; have q2 := C2.at_) | (with_reducible first | exact AG | refine Bb ?_ | intro _g _hg | refine A5 ?_ ?_ | intro _hc) | omega)
   subst hR
   have := C2.lt
   replace ha := ha.eqc (c' := cur') (by simp [AD])
   exact A9 (r := .tup [_, _]) rfl (by omega) (fun k hk => by rw [upd_ne (by omega)]; exact hsup k hk) ⟨v, _, rfl, ((ha).ext (B := fun g => g = g1 ∨ g = g2) (fun g h => by have := B1.lt; have := B2.lt; rcases h with rfl | rfl <;> omega) (fun _ _ => rfl) (fun g h => by rw [upd_ne (fun e => h (.inr e))]) (fun h => h.elim ng1 ng2)), fun h => by cases h⟩
  | cons e l2 =>
   obtain ⟨y, c⟩ := e
   generalize hR : Cz _ _ _ _ _ _ _ _ _ _ _ = R
   refine A2 Tryz.func115 Xy rfl fun hs => ?_
   have hc := hc hs
   repeat' (first | simp -implicitDefEqProofs [A40, -getElem?_pos, q1, q2, splice, -AA] | simp (disch := omega) only [A6] | ((with_reducible refine B0 106 ?_); refine ⟨_, hc, ?_⟩; rintro r n' H' hle hsup ⟨p', (hle : n ≤ n'), hr, hl, hS2, ha⟩; obtain ⟨x', l', cur', fin', O2⟩ := p'; dsimp only [PtR] at hr; obtain ⟨rfl, rfl, rfl, rfl, rfl⟩ := hr; have C2 := B2.go ng2 ha; have q2 := C2.at_) | (with_reducible first | exact AG | refine Bb ?_ | intro _g _hg | refine A5 ?_ ?_ | intro _hc) | omega)
   subst hR
   have := C2.lt
   have ha1 := ha.eqc (c' := cur') (by simp [AD])
   have hS3 := hS2.keep (x := some (BW y)) C2.no C2.nO ng2 C2.lt
   have := ih l2.length (by simp at htl; omega) y l2 cur' O2 _ _ n' (Nat.le_refl _) hS3.pts rfl hrg2.tl hS2.ngO ((B1.go ng1 ha).keep n12) (C2.set _)
   simp only [AD, List.append_nil] at this
   exact A9 (r := .tup [_, _]) rfl (by omega) (fun k hk => by rw [upd_ne (by omega)]; exact hsup k hk) ⟨_, rfl, ((ha1).ext (B := fun g => g = g1 ∨ g = g2) (fun g h => by have := B1.lt; have := B2.lt; rcases h with rfl | rfl <;> omega) (fun _ _ => rfl) (fun g h => by rw [upd_ne (fun e => h (.inr e))]) (fun h => h.elim ng1 ng2)), this⟩
theorem Y0 : Ae Tryz.prog 133 = true := by kernel_rfl
theorem ZD {gO lo : Nat} {fin : AQ} {px : AV} {g1 g2 : Nat} (hxf : Cp px) (n12 : g1 ≠ g2) : ∀ (N : Nat) (m : Nat) (l : Ad) (cur : AQ) (O1 O : Nat → Prop) (H0 : A1) (n0 : Nat), l.length ≤ N → m ≤ 5000 → Pts gO lo [⟨px, some l, cur, fin, O1⟩] H0 n0 → OU [⟨px, some l, cur, fin, O1⟩] = O → ¬ O gO →
  Bx O gO g1 H0 n0 (BW m) → Bx O gO g2 H0 n0 (Bg px) → Raw false gO lo fin (.fn 133 [] [.ptr g1 0, .ptr g2 0]) (l.drop m) (AD [⟨px, some l, cur, fin, O1⟩]) (fun g => O g ∨ g = g1 ∨ g = g2) H0 n0 := by
 intro N
 induction N using Nat.strongRecOn with
 | _ N ih =>
  intro m l cur O1 O H0 n0 hN hm5 hP hO noO B1 B2
  have hbel : ∀ g, O g → g < n0 := fun g hg => hP.bel g (hO ▸ hg)
  refine Raw.of fun n H gg cs hn hag hgg hgO hgv => ?_
  replace B1 := B1.to hn (hag g1 (.inr (.inl rfl)))
  have q1 := B1.at_
  have ng1 : gg ≠ g1 := fun h => hgg (.inr (.inl h))
  replace B2 := B2.to hn (hag g2 (.inr (.inr rfl)))
  have q2 := B2.at_
  have ng2 : gg ≠ g2 := fun h => hgg (.inr (.inr h))
  have nog : ¬ O gg := fun h => hgg (.inl h)
  replace hbel : ∀ g, O g → g < n := fun g h => Nat.lt_of_lt_of_le (hbel g h) hn
  refine ⟨Y0, ?_⟩
  subst hO
  have hS := fun hs => Sit.start hP hn (fun g hg => hag g (.inl hg)) nog noO hgv hs
  generalize hR : Cz _ _ _ _ _ _ _ _ _ _ _ = R
  refine A2 Tryz.func133 A43 rfl fun hs => ?_
  have hS := hS hs
  repeat' (first | simp -implicitDefEqProofs [UW, G6, Fx, G4, G3, UW, -getElem?_pos, -AA] | simp (disch := omega) only [A6] | (with_reducible first | exact AG | refine Bb ?_ | intro _g _hg | refine A5 ?_ ?_ | intro _hc) | omega)
  refine LoopK.go (fun r st => ∃ (l1 : Ad) (cur1 : AQ) (O2 : Nat → Prop) (n1 : Nat) (H1 : A1), st = ⟨[(0, .ptr g1 0), (1, .ptr g2 0)], n1, H1⟩ ∧ n ≤ n1 ∧ Sit gO lo [⟨px, some l1, cur1, fin, O2⟩] H1 n1 gg (Ci cs lo (AD [⟨px, some l1, cur1, fin, O2⟩])) ∧ (AD [⟨px, some l1, cur1, fin, O2⟩]).length = (AD [⟨px, some l, cur, fin, O1⟩]).length ∧
   Aft lo gg cs (AD [⟨px, some l1, cur1, fin, O2⟩]) (fun g => OU [⟨px, some l, cur, fin, O1⟩] g ∨ (g = g1 ∨ g = g2)) n H n1 H1 (fun g => OU [⟨px, some l1, cur1, fin, O2⟩] g ∨ (g = g1 ∨ g = g2)) ∧ Bx (OU [⟨px, some l1, cur1, fin, O2⟩]) gO g1 H1 n1 (BW r) ∧ Bx (OU [⟨px, some l1, cur1, fin, O2⟩]) gO g2 H1 n1 (Bg px) ∧ l1.drop r = l.drop m ∧ l1.length ≤ N ∧ r ≤ 5000) m ?_ ?_
  ·refine ⟨l, cur, O1, n, H, rfl, Nat.le_refl _, ?_, rfl, ?_, B1, B2, rfl, hN, hm5⟩
   ·rw [Dx hS.giv]; exact hS
   ·exact (((Aft.same hgv hbel)).ext (B := fun g => g = g1 ∨ g = g2) (fun g h => by have := B1.lt; have := B2.lt; rcases h with rfl | rfl <;> omega) (fun _ _ => rfl) (fun _ _ => rfl) (fun h => h.elim ng1 ng2))
  rintro r st ⟨l1, cur1, O2, n1, H1, rfl, hn1, hS1, hl1, ha1, B1', B2', hE, hN1, hr5⟩ J hJ
  have q1 := B1'.at_
  have q2 := B2'.at_
  have hxf' := hxf
  obtain ⟨ff, fa, fb, rfl⟩ := hxf
  by_cases hr0 : r = 0
  ·subst hr0
   cases l1 with
   | nil =>
    repeat' (first | simp -implicitDefEqProofs [G6, Fx, G4, G3, UW, -getElem?_pos, q1, q2, splice, -AA] | simp (disch := omega) only [A6] | (refine hS1.hd (fun r n' H' p' hle hr hl hS2 ha => ?_); obtain ⟨x', l', cur', fin', O3⟩ := p'; dsimp only [PtR] at hr; obtain ⟨rfl, rfl, ⟨v, rfl⟩, rfl, rfl⟩ := hr) | (with_reducible first | exact AG | refine Bb ?_ | intro _g _hg | refine A5 ?_ ?_ | intro _hc) | omega)
    subst hR
    have hat := (Aft.tr hgv ha1 ((ha).ext (B := fun g => g = g1 ∨ g = g2) (fun g h => by have := B1.lt; have := B2.lt; rcases h with rfl | rfl <;> omega) (fun _ _ => rfl) (fun _ _ => rfl) (fun h => h.elim ng1 ng2)) hl1 (hl.trans hl1)).eqc (c' := cur') (by simp [AD])
    rw [← hE]
    exact A9 (r := .tup [_, _]) rfl (by omega) hS2.sup ⟨v, _, rfl, hat, fun h => by cases h⟩
   | cons e l1 =>
    obtain ⟨y, c⟩ := e
    repeat' (first | simp -implicitDefEqProofs [G6, Fx, G4, G3, UW, -getElem?_pos, q1, q2, splice, -AA] | simp (disch := omega) only [A6] | (refine hS1.hd (fun r n' H' p' hle hr hl hS2 ha => ?_); obtain ⟨x', l', cur', fin', O3⟩ := p'; dsimp only [PtR] at hr; obtain ⟨rfl, rfl, rfl, rfl, rfl⟩ := hr; have C1 := B1'.go ng1 ha; have C2 := B2'.go ng2 ha) | (with_reducible first | exact AG | refine Bb ?_ | intro _g _hg | refine A5 ?_ ?_ | intro _hc) | omega)
    subst hR
    have hat := (Aft.tr hgv ha1 ((ha).ext (B := fun g => g = g1 ∨ g = g2) (fun g h => by have := B1.lt; have := B2.lt; rcases h with rfl | rfl <;> omega) (fun _ _ => rfl) (fun _ _ => rfl) (fun h => h.elim ng1 ng2)) hl1 (hl.trans hl1)).eqc (c' := cur') (by simp [AD])
    rw [← hE]
    have := ih l1.length (by simp at hN1; omega) 0 l1 cur' O3 _ H' n' (Nat.le_refl _) (by omega) hS2.pts rfl hS2.ngO C1 C2
    simp only [AD, List.append_nil, List.drop_zero] at this
    exact A9 (r := .tup [_, _]) rfl (by omega) hS2.sup ⟨_, rfl, hat, this⟩
  ·have hr0' : (0 : Int) < r := by omega
   have hw : (r : Int) - 1 = ((r - 1 : Nat) : Int) := by omega
   cases l1 with
   | nil =>
    repeat' (first | simp -implicitDefEqProofs [G6, Fx, G4, G3, UW, -getElem?_pos, q1, q2, hr0', splice, -AA] | simp (disch := omega) only [A6] | (refine hS1.hd (fun r n' H' p' hle hr hl hS2 ha => ?_); obtain ⟨x', l', cur', fin', O3⟩ := p'; dsimp only [PtR] at hr; obtain ⟨rfl, rfl, ⟨v, rfl⟩, rfl, rfl⟩ := hr) | (with_reducible first | exact AG | refine Bb ?_ | intro _g _hg | refine A5 ?_ ?_ | intro _hc) | omega)
    subst hR
    have hat := (Aft.tr hgv ha1 ((ha).ext (B := fun g => g = g1 ∨ g = g2) (fun g h => by have := B1.lt; have := B2.lt; rcases h with rfl | rfl <;> omega) (fun _ _ => rfl) (fun _ _ => rfl) (fun h => h.elim ng1 ng2)) hl1 (hl.trans hl1)).eqc (c' := cur') (by simp [AD])
    have e0 : l.drop m = [] := by rw [← hE]; simp
    rw [e0]
    exact A9 (r := .tup [_, _]) rfl (by omega) hS2.sup ⟨0, _, rfl, hat, fun h => by cases h⟩
   | cons e l1 =>
    obtain ⟨y, c⟩ := e
    repeat' (first | simp -implicitDefEqProofs [G6, Fx, G4, G3, UW, -getElem?_pos, q1, q2, hr0', hw, splice, -AA] | simp (disch := omega) only [A6] | (refine hS1.hd (fun r n' H' p' hle hr hl hS2 ha => ?_); obtain ⟨x', l', cur', fin', O3⟩ := p'; dsimp only [PtR] at hr; obtain ⟨rfl, rfl, rfl, rfl, rfl⟩ := hr; have C1 := B1'.go ng1 ha; have C2 := B2'.go ng2 ha; have q1 := C1.at_) | (with_reducible first | exact AG | refine Bb ?_ | intro _g _hg | refine A5 ?_ ?_ | intro _hc) | omega)
    have hat := (Aft.tr hgv ha1 ((ha).ext (B := fun g => g = g1 ∨ g = g2) (fun g h => by have := B1.lt; have := B2.lt; rcases h with rfl | rfl <;> omega) (fun _ _ => rfl) (fun _ _ => rfl) (fun h => h.elim ng1 ng2)) hl1 (hl.trans hl1)).box (x := some (BW ((r - 1 : Nat) : Int))) (.inr (.inl rfl)) ng1
    have hS3 := hS2.keep (x := some (BW ((r - 1 : Nat) : Int))) C1.no C1.nO ng1 C1.lt
    rw [C6 (by have := hgv.fit; omega) hl] at hS3
    exact hJ (r - 1) _ (by omega) ⟨l1, cur', O3, n', _, rfl, by omega, hS3, hl.trans hl1, hat, C1.set _, C2.keep (Ne.symm n12), by rw [← hE]; obtain ⟨k, rfl⟩ : ∃ k, r = k + 1 := ⟨r - 1, by omega⟩; simp, by simp at hN1; omega, by omega⟩
def Bt : Tok → Nat → Prop
 | .own k, g => g = k
 | _, _ => False
def TokOk (t : Tok) (k : Nat) (H : A1) (n : Nat) : Prop := match t with
 | .own g => H g = some (.row 3 k) ∧ g < n
 | .nil => k = 0
 | .ro => False
theorem JQ {t t2 : Tok} {xs : List AV} {x : AV} {z : Nat} {d : Option Nat} {K : AS → Prop} {en : AJ} {n : Nat} {H : A1} (h : TokOk t xs.length H n) (hz : t ≠ .nil → z = 1) (hl : xs.length ≤ 1000000) (hs : ∀ g, n ≤ g → H g = none)
  (hk : ∀ g' n' H', (Bt t g' ∨ n ≤ g') → n ≤ n' → g' < n' → (∀ k, k < n → ¬ Bt t k → H' k = H k) → H' g' = some (.row 3 (xs.length + 1)) → (∀ k, n' ≤ k → H' k = none) → (∀ k, Bt t k → k ≠ g' → H' k = none) → K ⟨AC en d (.sl 1 (xs ++ [x]) (.own g')), n', H'⟩) :
  appKS 3 1 8 d K ⟨en, n, H⟩ (.sl z xs t) (.sl 1 [x] t2) := by
 match t, h with
 | .nil, h =>
  have h0 : xs = [] := List.length_eq_zero_iff.1 h
  subst h0
  refine RR (by simp) (by simp) (by simp [maxLen]) fun g hg => ?_
  exact hk g (g + 1) _ (.inr hg) (by omega) (by omega) (fun k h1 _ => by rw [upd_ne (by omega)]) (AP _ _ _) (fun k h1 => by rw [upd_ne (by omega)]; exact hs k (by omega)) (fun k h1 => h1.elim)
 | .own g0, h =>
  obtain ⟨h1, h2⟩ := h
  have hz := hz (by simp)
  subst hz
  refine GL h1 (by simp; omega) (by simp [maxLen]; omega) fun g n' h3 h4 h5 => ?_
  refine hk g n' _ (h3.elim (fun h => .inl h) .inr) h4 h5 (fun k k1 k2 => ?_) (AP _ _ _) (fun k k1 => ?_) (fun k k1 k2 => ?_)
  ·have : k ≠ g0 := k2
   rw [upd_ne (by rcases h3 with h3 | h3 <;> omega), upd_ne this]
  ·rw [upd_ne (by omega), upd_ne (by omega)]; exact hs k (by omega)
  ·have e : k = g0 := k1
   subst e
   rw [upd_ne k2, AP]
theorem HJ : Ae Tryz.prog 138 = true := by kernel_rfl
theorem TokOk.at_ {t : Tok} {k n n1 : Nat} {H H1 : A1} (h : TokOk t k H n) (hH : ∀ g, Bt t g → H1 g = H g) (hn : n ≤ n1) : TokOk t k H1 n1 := by
 match t, h with
 | .nil, h => exact h
 | .own g, h => exact ⟨(hH g rfl).trans h.1, by have := h.2; omega⟩
theorem TokOk.lt {t : Tok} {k n : Nat} {H : A1} (h : TokOk t k H n) : ∀ g, Bt t g → g < n := by
 match t, h with
 | .nil, h => exact fun g hg => hg.elim
 | .own k, h => intro g hg; have e : g = k := hg; subst e; exact h.2
def HX (xs : List Int) (fin : AQ) (m i : Nat) : Ad := if m = 0 then [] else (xs.drop i).map (fun x => (x, fin)) ++ DJ xs fin (m - 1)
theorem PF (fin : AQ) : ∀ m, DJ [] fin m = []
 | 0 => rfl
 | m + 1 => by simp [DJ, PF fin m]
theorem ZB (fin : AQ) (m i : Nat) : HX [] fin m i = [] := by simp [HX, PF]
theorem KQ {xs : List Int} {fin : AQ} {m i : Nat} {y : Int} (hm : m ≠ 0) (hy : xs[i]? = some y) : HX xs fin m i = (y, fin) :: HX xs fin m (i + 1) := by
 simp only [HX, if_neg hm, drop_at hy, List.map_cons, List.cons_append]
theorem X0 {xs : List Int} {fin : AQ} {m : Nat} (hm : 2 ≤ m) : HX xs fin m xs.length = HX xs fin (m - 1) 0 := by
 obtain ⟨k, rfl⟩ : ∃ k, m = k + 2 := ⟨m - 2, by omega⟩
 simp [HX, DJ]
theorem Vv {xs : List Int} {fin : AQ} : HX xs fin 1 xs.length = [] := by simp [HX, DJ]
theorem UI {gO lo : Nat} {fin : AQ} {g1 g2 g3 g4 z : Nat} {t : Tok} {xs : List Int} {px : AV} (n12 : g1 ≠ g2) (n13 : g1 ≠ g3) (n14 : g1 ≠ g4) (n23 : g2 ≠ g3) (n24 : g2 ≠ g4) (n34 : g3 ≠ g4) (hxl : xs.length ≤ 5000) : ∀ (N m i : Nat) (O : Nat → Prop) (H0 : A1) (n0 : Nat), (HX xs fin m i).length ≤ N → m ≤ 20 → i ≤ xs.length → ¬ O gO → (∀ g, O g → g < n0) →
  Bx O gO g1 H0 n0 (BW m) → Bx O gO g2 H0 n0 (BW i) → Bx O gO g3 H0 n0 (Bg px) → Bx O gO g4 H0 n0 (.cells 22 [.sl z (xs.map aI) t]) → z = 1 ∨ xs = [] →
  Raw false gO lo fin (.fn 138 [] [.ptr g1 0, .ptr g2 0, .ptr g3 0, .ptr g4 0]) (HX xs fin m i) fin (fun g => O g ∨ g = g1 ∨ g = g2 ∨ g = g3 ∨ g = g4) H0 n0 := by
 intro N
 induction N using Nat.strongRecOn with
 | _ N ih =>
  intro m i O H0 n0 hN hm hi noO hbel B1 B2 B3 B4 hz
  refine Raw.of fun n H gg cs hn hag hgg hgO hgv => ?_
  replace B1 := B1.to hn (hag g1 (.inr (.inl rfl)))
  have q1 := B1.at_
  have ng1 : gg ≠ g1 := fun h => hgg (.inr (.inl h))
  replace B2 := B2.to hn (hag g2 (.inr (.inr (.inl rfl))))
  have q2 := B2.at_
  have ng2 : gg ≠ g2 := fun h => hgg (.inr (.inr (.inl h)))
  replace B3 := B3.to hn (hag g3 (.inr (.inr (.inr (.inl rfl)))))
  have q3 := B3.at_
  have ng3 : gg ≠ g3 := fun h => hgg (.inr (.inr (.inr (.inl h))))
  replace B4 := B4.to hn (hag g4 (.inr (.inr (.inr (.inr rfl)))))
  have q4 := B4.at_
  have ng4 : gg ≠ g4 := fun h => hgg (.inr (.inr (.inr (.inr h))))
  have nog : ¬ O gg := fun h => hgg (.inl h)
  replace hbel : ∀ g, O g → g < n := fun g h => Nat.lt_of_lt_of_le (hbel g h) hn
  refine ⟨HJ, ?_⟩
  have hA := Aft.same hgv hbel
  generalize hR : Cz _ _ _ _ _ _ _ _ _ _ _ = R
  refine A2 Tryz.func138 KY rfl fun hs => ?_
  by_cases m0 : m = 0
  ·subst m0
   repeat' (first | simp -implicitDefEqProofs [CL, CO, CT, CK, CM, CQ, CI, CU, PD, -getElem?_pos, q1, splice, -AA] | simp (disch := omega) only [A6] | (with_reducible first | exact AG | refine EA ?_ | intro _g _hg | refine A5 ?_ ?_ | intro _hc) | omega)
   subst hR
   exact A9 (r := .tup [_, _]) rfl (by omega) hs ⟨0, _, rfl, ((hA).ext (B := fun g => g = g1 ∨ g = g2 ∨ g = g3 ∨ g = g4) (fun g h => by have := B1.lt; have := B2.lt; have := B3.lt; have := B4.lt; rcases h with rfl | rfl | rfl | rfl <;> omega) (fun _ _ => rfl) (fun _ _ => rfl) (fun h => h.elim ng1 (fun h => h.elim ng2 (fun h => h.elim ng3 ng4)))), fun h => by cases h⟩
  ·have m0' : ¬ (m : Int) = 0 := by omega
   have i0 : ¬ (i : Int) < 0 := by omega
   have hxm : (xs.map aI).length = xs.length := by simp
   by_cases il : i = xs.length
   ·have il' : (i : Int) = xs.length := by omega
    have hw : (m : Int) - 1 = ((m - 1 : Nat) : Int) := by omega
    by_cases m1 : m = 1
    ·subst m1
     repeat' (first | simp -implicitDefEqProofs [CL, CO, CT, CK, CM, CQ, CI, CU, PD, -getElem?_pos, q1, q2, q3, q4, hxm, m0', i0, il', n12, n13, n14, n23, n24, n34, Ne.symm n12, splice, -AA] | simp (disch := omega) only [A6] | (with_reducible first | exact AG | refine EA ?_ | intro _g _hg | refine A5 ?_ ?_ | intro _hc) | omega)
     subst hR
     rw [il, Vv]
     exact A9 (r := .tup [_, _]) rfl (by omega) (fun k hk => by have := B1.lt; have := B2.lt; rw [upd_ne (by omega), upd_ne (by omega)]; exact hs k hk) ⟨0, _, rfl, ((hA).ext (B := fun g => g = g1 ∨ g = g2 ∨ g = g3 ∨ g = g4) (fun g h => by have := B1.lt; have := B2.lt; have := B3.lt; have := B4.lt; rcases h with rfl | rfl | rfl | rfl <;> omega) (fun _ _ => rfl) (fun g h => by rw [upd_ne (fun e => h (.inl e))]; rw [upd_ne (fun e => h (.inr (.inl e)))]) (fun h => h.elim ng1 (fun h => h.elim ng2 (fun h => h.elim ng3 ng4)))), fun h => by cases h⟩
    ·have hm1 : (0 : Int) < ((m - 1 : Nat) : Int) := by omega
     cases xs with
     | nil =>
      subst il
      repeat' (first | simp -implicitDefEqProofs [CL, CO, CT, CK, CM, CQ, CI, CU, PD, -getElem?_pos, q1, q2, q3, q4, hxm, m0', i0, il', hw, hm1, n12, n13, n14, n23, n24, n34, Ne.symm n12, splice, -AA] | simp (disch := omega) only [A6] | (with_reducible first | exact AG | refine EA ?_ | intro _g _hg | refine A5 ?_ ?_ | intro _hc) | omega)
      subst hR
      rw [ZB]
      exact A9 (r := .tup [_, _]) rfl (by omega) (fun k hk => by have := B1.lt; have := B2.lt; rw [upd_ne (by omega), upd_ne (by omega)]; exact hs k hk) ⟨0, _, rfl, ((hA).ext (B := fun g => g = g1 ∨ g = g2 ∨ g = g3 ∨ g = g4) (fun g h => by have := B1.lt; have := B2.lt; have := B3.lt; have := B4.lt; rcases h with rfl | rfl | rfl | rfl <;> omega) (fun _ _ => rfl) (fun g h => by rw [upd_ne (fun e => h (.inl e))]; rw [upd_ne (fun e => h (.inr (.inl e)))]) (fun h => h.elim ng1 (fun h => h.elim ng2 (fun h => h.elim ng3 ng4)))), fun h => by cases h⟩
     | cons y ys =>
      have hstep := KQ (xs := y :: ys) (fin := fin) (m := m - 1) (i := 0) (y := y) (by omega) rfl
      have hnx := X0 (xs := y :: ys) (fin := fin) (m := m) (by omega)
      rw [← il] at hnx
      have hN2 : (HX (y :: ys) fin (m - 1) 1).length < N := by rw [hnx, hstep] at hN; simp at hN; omega
      have hpos : (0 : Int) < (ys.map aI).length + 1 := by omega
      simp only [List.map_cons] at B4 q4 hxm
      have hml : ¬ ((ys.map aI).length : Int) + 1 = 0 := by omega
      have hz1 : z = 1 := hz.elim id (fun h => by cases h)
      subst hz1
      have ih2 := ih _ hN2 (m - 1) 1
      rw [hnx, hstep] at hR
      generalize hys : ys.map aI = ysa at *
      repeat' (first | simp -implicitDefEqProofs [CL, CO, CT, CK, CM, CQ, CI, CU, PD, -getElem?_pos, q1, q2, q3, q4, hxm, m0', i0, il', hw, hm1, hml, n12, n13, n14, n23, n24, n34, Ne.symm n12, splice, -AA] | simp (disch := omega) only [A6] | (with_reducible first | exact AG | refine EA ?_ | intro _g _hg | refine A5 ?_ ?_ | intro _hc) | omega)
      subst hR
      refine A9 (r := .tup [_, _]) rfl (by omega) (fun k hk => by have := B1.lt; have := B2.lt; rw [upd_ne (by omega), upd_ne (by omega), upd_ne (by omega)]; exact hs k hk) ⟨_, rfl, ((hA).ext (B := fun g => g = g1 ∨ g = g2 ∨ g = g3 ∨ g = g4) (fun g h => by have := B1.lt; have := B2.lt; have := B3.lt; have := B4.lt; rcases h with rfl | rfl | rfl | rfl <;> omega) (fun _ _ => rfl) (fun g h => by rw [upd_ne (fun e => h (.inr (.inl e)))]; rw [upd_ne (fun e => h (.inl e))]; rw [upd_ne (fun e => h (.inr (.inl e)))]) (fun h => h.elim ng1 (fun h => h.elim ng2 (fun h => h.elim ng3 ng4)))), ?_⟩
      refine ih2 O _ n (Nat.le_refl _) (by omega) (by simp) noO hbel ?_ ?_ ?_ ?_ (.inl rfl)
      ·exact ((B1.keep n12).set _).keep n12
      ·exact ((B2.set _).keep (Ne.symm n12)).set _
      ·exact ((B3.keep (Ne.symm n23)).keep (Ne.symm n13)).keep (Ne.symm n23)
      ·rw [List.map_cons, hys]; exact ((B4.keep (Ne.symm n24)).keep (Ne.symm n14)).keep (Ne.symm n24)
   ·have il2 : i < xs.length := by omega
    have il' : ¬ (i : Int) = xs.length := by omega
    obtain ⟨y, hy⟩ : ∃ y, xs[i]? = some y := ⟨_, List.getElem?_eq_getElem il2⟩
    have hya := Iu (f := aI) hy
    have hstep := KQ (xs := xs) (fin := fin) (m := m) (i := i) (y := y) m0 hy
    have hml : ¬ (xs.length : Int) = 0 := by omega
    have hmp : ¬ (m : Int) ≤ 0 := by omega
    have hmp2 : (0 : Int) < m := by omega
    have hw : IntKind.i64.wrap ((i : Int) + 1) = ((i + 1 : Nat) : Int) := by rw [IntWalk.i64_in _ (by omega)]; omega
    have hw2 : IntKind.i64.wrap (((i + 1 : Nat) : Int) - 1) = i := by rw [IntWalk.i64_in _ (by omega)]; omega
    have hN2 : (HX xs fin m (i + 1)).length < N := by rw [hstep] at hN; simp at hN; omega
    have hz1 : z = 1 := hz.elim id (fun h => by subst h; simp at il2)
    subst hz1
    have hml3 : ((xs.length : Int) == 0) = false := by simpa using hml
    have ih2 := ih _ hN2 m (i + 1)
    rw [hstep] at hR
    generalize hxa : xs.map aI = xsa at *
    generalize hi1 : ((i + 1 : Nat) : Int) = i1 at *
    repeat' (first | simp -implicitDefEqProofs [CL, CO, CT, CK, CM, CQ, CI, CU, PD, -getElem?_pos, q1, q2, q3, q4, hxm, m0', i0, il', hw, hw2, hml, hmp, hmp2, m0, hml3, hya, n12, n13, n14, n23, n24, n34, Ne.symm n12, splice, -AA] | simp (disch := omega) only [A6] | (with_reducible first | exact AG | refine EA ?_ | intro _g _hg | refine A5 ?_ ?_ | intro _hc) | omega)
    subst hR
    refine A9 (r := .tup [_, _]) rfl (by omega) (fun k hk => by have := B2.lt; rw [upd_ne (by omega)]; exact hs k hk) ⟨_, rfl, ((hA).ext (B := fun g => g = g1 ∨ g = g2 ∨ g = g3 ∨ g = g4) (fun g h => by have := B1.lt; have := B2.lt; have := B3.lt; have := B4.lt; rcases h with rfl | rfl | rfl | rfl <;> omega) (fun _ _ => rfl) (fun g h => by rw [upd_ne (fun e => h (.inr (.inl e)))]) (fun h => h.elim ng1 (fun h => h.elim ng2 (fun h => h.elim ng3 ng4)))), ?_⟩
    refine ih2 O _ n (Nat.le_refl _) (by omega) (by omega) noO hbel (B1.keep n12) ?_ (B3.keep (Ne.symm n23)) ?_ (.inl rfl)
    ·exact B2.set _
    ·exact B4.keep (Ne.symm n24)
theorem A4b (xs : List Int) (fin : AQ) (m : Nat) : DJ xs fin m = HX xs fin m 0 := by
 cases m with
 | zero => simp [DJ, HX]
 | succ m => simp [DJ, HX]
theorem S8 {gO lo : Nat} {g1 g2 g3 g4 : Nat} {a b c : AObj} (cur : AQ) (O : Nat → Prop) (H0 : A1) (n0 : Nat) (noO : ¬ O gO) (hbel : ∀ g, O g → g < n0) (B1 : Bx O gO g1 H0 n0 (BW 0)) (B2 : Bx O gO g2 H0 n0 a) (B3 : Bx O gO g3 H0 n0 b) (B4 : Bx O gO g4 H0 n0 c) :
  Raw false gO lo cur (.fn 138 [] [.ptr g1 0, .ptr g2 0, .ptr g3 0, .ptr g4 0]) [] cur (fun g => O g ∨ g = g1 ∨ g = g2 ∨ g = g3 ∨ g = g4) H0 n0 := by
 refine Raw.of fun n H gg cs hn hag hgg hgO hgv => ?_
 replace B1 := B1.to hn (hag g1 (.inr (.inl rfl)))
 have q1 := B1.at_
 have ng1 : gg ≠ g1 := fun h => hgg (.inr (.inl h))
 replace B2 := B2.to hn (hag g2 (.inr (.inr (.inl rfl))))
 have q2 := B2.at_
 have ng2 : gg ≠ g2 := fun h => hgg (.inr (.inr (.inl h)))
 replace B3 := B3.to hn (hag g3 (.inr (.inr (.inr (.inl rfl)))))
 have q3 := B3.at_
 have ng3 : gg ≠ g3 := fun h => hgg (.inr (.inr (.inr (.inl h))))
 replace B4 := B4.to hn (hag g4 (.inr (.inr (.inr (.inr rfl)))))
 have q4 := B4.at_
 have ng4 : gg ≠ g4 := fun h => hgg (.inr (.inr (.inr (.inr h))))
 have nog : ¬ O gg := fun h => hgg (.inl h)
 replace hbel : ∀ g, O g → g < n := fun g h => Nat.lt_of_lt_of_le (hbel g h) hn
 refine ⟨HJ, ?_⟩
 generalize hR : Cz _ _ _ _ _ _ _ _ _ _ _ = R
 refine A2 Tryz.func138 KY rfl fun hs => ?_
 repeat' (first | simp -implicitDefEqProofs [CL, CO, CT, CK, CM, CQ, CI, CU, PD, -getElem?_pos, q1, splice, -AA] | simp (disch := omega) only [A6] | (with_reducible first | exact AG | refine EA ?_ | intro _g _hg | refine A5 ?_ ?_ | intro _hc) | omega)
 subst hR
 exact A9 (r := .tup [_, _]) rfl (by omega) hs ⟨0, _, rfl, (((Aft.same hgv hbel)).ext (B := fun g => g = g1 ∨ g = g2 ∨ g = g3 ∨ g = g4) (fun g h => by have := B1.lt; have := B2.lt; have := B3.lt; have := B4.lt; rcases h with rfl | rfl | rfl | rfl <;> omega) (fun _ _ => rfl) (fun _ _ => rfl) (fun h => h.elim ng1 (fun h => h.elim ng2 (fun h => h.elim ng3 ng4)))), fun h => by cases h⟩
theorem UE {gO lo : Nat} {fin : AQ} {px : AV} {g1 g2 g3 g4 : Nat} {m : Nat} (hxf : Cp px) (n12 : g1 ≠ g2) (n13 : g1 ≠ g3) (n14 : g1 ≠ g4) (n23 : g2 ≠ g3) (n24 : g2 ≠ g4) (n34 : g3 ≠ g4) (hm : 1 ≤ m ∧ m ≤ 20) : ∀ (l : Ad) (ks : List Int) (cur : AQ) (z : Nat) (t : Tok) (O1 O : Nat → Prop) (H0 : A1) (n0 : Nat), ks.length + l.length ≤ 5000 → Pts gO lo [⟨px, some l, cur, fin, O1⟩] H0 n0 → (fun g => OU [⟨px, some l, cur, fin, O1⟩] g ∨ Bt t g) = O → (∀ g, Bt t g → ¬ OU [⟨px, some l, cur, fin, O1⟩] g) → TokOk t ks.length H0 n0 → z = 1 ∨ (ks = [] ∧ t = .nil) → ¬ O gO →
  Bx O gO g1 H0 n0 (BW m) → Bx O gO g2 H0 n0 (BW (-1)) → Bx O gO g3 H0 n0 (Bg px) → Bx O gO g4 H0 n0 (.cells 22 [.sl z (ks.map aI) t]) →
  Raw false gO lo fin (.fn 138 [] [.ptr g1 0, .ptr g2 0, .ptr g3 0, .ptr g4 0]) (l ++ DJ (ks ++ l.map (·.1)) fin (m - 1)) (AD [⟨px, some l, cur, fin, O1⟩]) (fun g => O g ∨ g = g1 ∨ g = g2 ∨ g = g3 ∨ g = g4) H0 n0 := by
 have hw : (m : Int) - 1 = ((m - 1 : Nat) : Int) := by omega
 have m0' : ¬ (m : Int) = 0 := by omega
 have m0 : ¬ m = 0 := by omega
 obtain ⟨ff, fa, fb, rfl⟩ := hxf
 intro l
 induction l with
 | cons e l ih =>
  obtain ⟨y, c⟩ := e
  intro ks cur z t O1 O H0 n0 hkl hP hO hdj hT hz noO B1 B2 B3 B4
  have hbel : ∀ g, O g → g < n0 := fun g hg => by
   subst hO
   exact hg.elim (hP.bel g) (hT.lt g)
  refine Raw.of fun n H gg cs hn hag hgg hgO hgv => ?_
  replace B1 := B1.to hn (hag g1 (.inr (.inl rfl)))
  have q1 := B1.at_
  have ng1 : gg ≠ g1 := fun h => hgg (.inr (.inl h))
  replace B2 := B2.to hn (hag g2 (.inr (.inr (.inl rfl))))
  have q2 := B2.at_
  have ng2 : gg ≠ g2 := fun h => hgg (.inr (.inr (.inl h)))
  replace B3 := B3.to hn (hag g3 (.inr (.inr (.inr (.inl rfl)))))
  have q3 := B3.at_
  have ng3 : gg ≠ g3 := fun h => hgg (.inr (.inr (.inr (.inl h))))
  replace B4 := B4.to hn (hag g4 (.inr (.inr (.inr (.inr rfl)))))
  have q4 := B4.at_
  have ng4 : gg ≠ g4 := fun h => hgg (.inr (.inr (.inr (.inr h))))
  have nog : ¬ O gg := fun h => hgg (.inl h)
  replace hbel : ∀ g, O g → g < n := fun g h => Nat.lt_of_lt_of_le (hbel g h) hn
  refine ⟨HJ, ?_⟩
  subst hO
  have hS := fun hs => Sit.start hP hn (fun g hg => hag g (.inl (.inl hg))) (fun h => nog (.inl h)) (fun h => noO (.inl h)) hgv hs
  replace hT := hT.at_ (fun g hg => hag g (.inl (.inr hg))) hn
  have hlt := hgv.lt (n := n)
  have hml : (ks.map aI).length = ks.length := by simp
  have hk1 : (ks ++ [y]).map aI = ks.map aI ++ [aI y] := by simp
  have hz1 : t ≠ .nil → z = 1 := fun h => hz.elim id fun h2 => absurd h2.2 h
  generalize hR : Cz _ _ _ _ _ _ _ _ _ _ _ = R
  refine A2 Tryz.func138 KY rfl fun hs => ?_
  have hS := hS hs
  repeat' (first | simp -implicitDefEqProofs [CL, CO, CT, CK, CM, CQ, CI, CU, PD, -getElem?_pos, q1, q2, q3, q4, m0', m0, n12, n13, n14, n23, n24, n34, Ne.symm n34, splice, -AA] | simp (disch := omega) only [A6] | (refine hS.hd (fun r n' H' p' hle hr hl hS2 ha => ?_); obtain ⟨x', l', cur', fin', O3⟩ := p'; dsimp only [PtR] at hr; obtain ⟨rfl, rfl, rfl, rfl, rfl⟩ := hr; have hfr : ∀ k, k < n → ¬ OU [⟨.fn ff fa fb, some ((y, cur') :: l), cur, fin', O1⟩] k → k ≠ gg → H' k = H k := ha.fr; have q4 := (hfr g4 B4.lt (fun h => B4.no (.inl h)) (Ne.symm ng4)).trans B4.at_; have hT2 : TokOk t ks.length H' n' := hT.at_ (fun k hk => hfr k (hT.lt k hk) (hdj k hk) (fun e => nog (.inr (e ▸ hk)))) hle) | (refine JQ (by rw [hml]; exact hT2.at_ (fun k hk => by have := hT2.lt k hk; rw [upd_ne (by omega)]) (by omega)) hz1 (by rw [hml]; simp at hkl; omega) (fun k hk => by rw [upd_ne (by omega)]; exact hS2.sup k (by omega)) (fun g' n2 H2 k1 k2 k3 k4 k5 k6 k7 => ?_); have q4 := (k4 g4 (by have := B4.lt; omega) (fun h => B4.no (.inr h))).trans ((upd_ne (by have := B4.lt; omega)).trans q4)) | (with_reducible first | exact AG | refine EA ?_ | intro _g _hg | refine A5 ?_ ?_ | intro _hc) | omega)
  subst hR
  have hH2 : ∀ k, k < n' → ¬ Bt t k → H2 k = H' k := fun k h1 h2 => (k4 k (by omega) h2).trans (upd_ne (by omega))
  have hle' : n ≤ n' := hle
  have hin : ∀ k, OU [⟨.fn ff fa fb, some l, cur', fin', O3⟩] k → OU [⟨.fn ff fa fb, some ((y, cur') :: l), cur, fin', O1⟩] k ∨ n ≤ k := ha.sub
  have hpb : ∀ k, OU [⟨.fn ff fa fb, some l, cur', fin', O3⟩] k → k < n' := hS2.pts.bel
  have htn : ∀ k, Bt t k → k < n := hT.lt
  have hnt : ∀ k, OU [⟨.fn ff fa fb, some l, cur', fin', O3⟩] k → ¬ Bt t k := fun k h1 h2 => (hin k h1).elim (hdj k h2) (fun h => by have := htn k h2; omega)
  have hng : ¬ OU [⟨.fn ff fa fb, some l, cur', fin', O3⟩] g' := fun h => k1.elim (hnt g' h) (fun h2 => by have := hpb g' h; omega)
  have mkb : ∀ (g : Nat) (ob : AObj), Bx (fun g => OU [⟨.fn ff fa fb, some ((y, cur') :: l), cur, fin', O1⟩] g ∨ Bt t g) gO g H n ob → gg ≠ g → Bx (fun g => OU [⟨.fn ff fa fb, some l, cur', fin', O3⟩] g ∨ Bt (.own g') g) gO g H2 n2 ob := by
   intro g ob hb hg
   have hgl := hb.lt
   refine ⟨fun h => h.elim (fun h => (hin g h).elim (fun h => hb.no (.inl h)) (fun h => by omega)) (fun h => ?_), hb.nO, by omega, ?_⟩
   ·have e : g = g' := h
    exact k1.elim (fun h => hb.no (.inr (e ▸ h))) (fun h => by omega)
   ·rw [hH2 g (by omega) (fun h => hb.no (.inr h)), hfr g hgl (fun h => hb.no (.inl h)) (Ne.symm hg)]; exact hb.at_
  have C1 := mkb g1 _ B1 ng1
  have C2 := mkb g2 _ B2 ng2
  have C3 := mkb g3 _ B3 ng3
  have C4 := mkb g4 _ B4 ng4
  have hgl := hlt hs
  have hg4 : g' ≠ g4 := fun e => C4.no (.inr e.symm)
  have hP2 : Pts gO lo [⟨.fn ff fa fb, some l, cur', fin', O3⟩] (upd H2 g4 (some (.cells 22 [.sl 1 (ks.map aI ++ [aI y]) (.own g')]))) n2 :=
   hS2.pts.at_ (fun k hk => by rw [upd_ne (fun e : k = g4 => C4.no (.inl (e ▸ hk)))]; exact hH2 k (hpb k hk) (hnt k hk)) (by omega)
  have hrec := ih (ks ++ [y]) cur' 1 (.own g') O3 _ _ n2 (by simp at hkl ⊢; omega) hP2 rfl (fun g hg h => hng (by have e : g = g' := hg; exact e ▸ h)) ⟨by rw [upd_ne hg4, k5]; simp, k3⟩ (.inl rfl)
   (fun h => h.elim hS2.ngO (fun h => k1.elim (fun h2 => noO (.inr (by have e : gO = g' := h; exact e ▸ h2))) (fun h2 => by have e : gO = g' := h; omega)))
   (C1.keep n14) (C2.keep n24) (C3.keep n34) (by rw [hk1]; exact C4.set _)
  simp only [AD, List.append_nil, List.append_assoc, List.singleton_append] at hrec
  refine A9 (r := .tup [_, _]) rfl (by omega) (fun k hk => by have := C4.lt; rw [upd_ne (by omega)]; exact k6 k hk) ⟨_, rfl, ⟨by omega, fun k hk => ?_, fun k hk => ?_, fun k h1 h2 h3 => ?_, ?_⟩, hrec⟩
  ·rcases hk with (hk | hk) | hk
   ·exact (hin k hk).elim (fun h => .inl (.inl (.inl h))) .inr
   ·have e : k = g' := hk
    exact k1.elim (fun h => .inl (.inl (.inr (e ▸ h)))) (fun h => .inr (by omega))
   ·exact .inl (.inr hk)
  ·rcases hk with (hk | hk) | hk
   ·have := hpb k hk; omega
   ·have e : k = g' := hk; omega
   ·have := C1.lt; have := C2.lt; have := C3.lt; have := C4.lt
    rcases hk with rfl | rfl | rfl | rfl <;> omega
  ·rw [upd_ne (fun e => h2 (.inr (.inr (.inr (.inr e))))), hH2 k (by omega) (fun h => h2 (.inl (.inr h))), hfr k h1 (fun h => h2 (.inl (.inl h))) h3]
  ·rw [upd_ne ng4, hH2 gg (by omega) (fun h => nog (.inr h)), ha.giv]; simp [AD]
 | nil =>
  intro ks cur z t O1 O H0 n0 hkl hP hO hdj hT hz noO B1 B2 B3 B4
  have hbel : ∀ g, O g → g < n0 := fun g hg => by
   subst hO
   exact hg.elim (hP.bel g) (hT.lt g)
  refine Raw.of fun n H gg cs hn hag hgg hgO hgv => ?_
  replace B1 := B1.to hn (hag g1 (.inr (.inl rfl)))
  have q1 := B1.at_
  have ng1 : gg ≠ g1 := fun h => hgg (.inr (.inl h))
  replace B2 := B2.to hn (hag g2 (.inr (.inr (.inl rfl))))
  have q2 := B2.at_
  have ng2 : gg ≠ g2 := fun h => hgg (.inr (.inr (.inl h)))
  replace B3 := B3.to hn (hag g3 (.inr (.inr (.inr (.inl rfl)))))
  have q3 := B3.at_
  have ng3 : gg ≠ g3 := fun h => hgg (.inr (.inr (.inr (.inl h))))
  replace B4 := B4.to hn (hag g4 (.inr (.inr (.inr (.inr rfl)))))
  have q4 := B4.at_
  have ng4 : gg ≠ g4 := fun h => hgg (.inr (.inr (.inr (.inr h))))
  have nog : ¬ O gg := fun h => hgg (.inl h)
  replace hbel : ∀ g, O g → g < n := fun g h => Nat.lt_of_lt_of_le (hbel g h) hn
  refine ⟨HJ, ?_⟩
  subst hO
  have hS := fun hs => Sit.start hP hn (fun g hg => hag g (.inl (.inl hg))) (fun h => nog (.inl h)) (fun h => noO (.inl h)) hgv hs
  replace hT := hT.at_ (fun g hg => hag g (.inl (.inr hg))) hn
  have htn : ∀ k, Bt t k → k < n := hT.lt
  have e0 : ([] : Ad) ++ DJ (ks ++ ([] : Ad).map (·.1)) fin (m - 1) = DJ ks fin (m - 1) := by simp
  rw [e0]
  cases ks with
  | nil =>
   rw [PF]
   generalize hR : Cz _ _ _ _ _ _ _ _ _ _ _ = R
   refine A2 Tryz.func138 KY rfl fun hs => ?_
   have hS := hS hs
   have hm2 : (m : Int) - 1 = ((m - 1 : Nat) : Int) := by omega
   repeat' (first | simp -implicitDefEqProofs [CL, CO, CT, CK, CM, CQ, CI, CU, PD, -getElem?_pos, q1, q2, q3, q4, m0', m0, hw, n12, n13, n14, n23, n24, n34, Ne.symm n12, splice, -AA] | simp (disch := omega) only [A6] | (refine hS.hd (fun r n' H' p' hle hr hl hS2 ha => ?_); obtain ⟨x', l', cur', fin', O3⟩ := p'; dsimp only [PtR] at hr; obtain ⟨rfl, rfl, ⟨v, rfl⟩, rfl, rfl⟩ := hr; have hw4 : ∀ (g : Nat) (ob : AObj), Bx (fun g => OU [⟨.fn ff fa fb, some [], cur, cur', O1⟩] g ∨ Bt t g) gO g H n ob → gg ≠ g → H' g = some ob := fun g ob hb hg => (ha.fr g hb.lt (fun h => hb.no (.inl h)) (Ne.symm hg)).trans hb.at_; have q1 := hw4 g1 _ B1 ng1; have q2 := hw4 g2 _ B2 ng2; have q3 := hw4 g3 _ B3 ng3; have q4 := hw4 g4 _ B4 ng4) | (with_reducible first | exact AG | refine EA ?_ | intro _g _hg | refine A5 ?_ ?_ | intro _hc) | omega)
   subst hR
   have hat := (ha.eqc (c' := cur') (by simp [AD])).ext (B := Bt t) (fun g h => htn g h) (fun _ _ => rfl) (fun _ _ => rfl) (fun h => nog (.inr h))
   have hle' : n ≤ n' := hle
   have b1 := B1.lt
   have b2 := B2.lt
   exact A9 (r := .tup [_, _]) rfl (by omega) (fun k hk => by rw [upd_ne (by omega), upd_ne (by omega), upd_ne (by omega), upd_ne (by omega)]; exact hS2.sup k hk) ⟨0, _, rfl, ((hat).ext (B := fun g => g = g1 ∨ g = g2 ∨ g = g3 ∨ g = g4) (fun g h => by have := B1.lt; have := B2.lt; have := B3.lt; have := B4.lt; rcases h with rfl | rfl | rfl | rfl <;> omega) (fun _ _ => rfl) (fun g h => by rw [upd_ne (fun e => h (.inl e))]; rw [upd_ne (fun e => h (.inr (.inl e)))]; rw [upd_ne (fun e => h (.inl e))]; rw [upd_ne (fun e => h (.inr (.inl e)))]) (fun h => h.elim ng1 (fun h => h.elim ng2 (fun h => h.elim ng3 ng4)))), fun h => by cases h⟩
  | cons y ys =>
   have hkm : (y :: ys).map aI = aI y :: ys.map aI := rfl
   have hz1 : z = 1 := hz.elim id (fun h => by cases h.1)
   subst hz1
   have hysl : ys.length + 1 ≤ 5000 := by simpa using hkl
   have hyl : (ys.map aI).length = ys.length := by simp
   have hml : ¬ ((ys.map aI).length : Int) + 1 = 0 := by omega
   have hml2 : ¬ (0 : Int) = ((ys.map aI).length : Int) + 1 := by omega
   have hpos : (0 : Int) < (ys.map aI).length + 1 := by omega
   by_cases m1 : m = 1
   ·subst m1
    have e1 : DJ (y :: ys) fin (1 - 1) = [] := rfl
    rw [e1]
    generalize hR : Cz _ _ _ _ _ _ _ _ _ _ _ = R
    refine A2 Tryz.func138 KY rfl fun hs => ?_
    have hS := hS hs
    simp only [hkm] at B4 q4
    generalize hys : ys.map aI = ysa at *
    repeat' (first | simp -implicitDefEqProofs [CL, CO, CT, CK, CM, CQ, CI, CU, PD, -getElem?_pos, q1, q2, q3, q4, m0', m0, hml, hml2, n12, n13, n14, n23, n24, n34, Ne.symm n12, splice, -AA] | simp (disch := omega) only [A6] | (refine hS.hd (fun r n' H' p' hle hr hl hS2 ha => ?_); obtain ⟨x', l', cur', fin', O3⟩ := p'; dsimp only [PtR] at hr; obtain ⟨rfl, rfl, ⟨v, rfl⟩, rfl, rfl⟩ := hr; have hw4 : ∀ (g : Nat) (ob : AObj), Bx (fun g => OU [⟨.fn ff fa fb, some [], cur, cur', O1⟩] g ∨ Bt t g) gO g H n ob → gg ≠ g → H' g = some ob := fun g ob hb hg => (ha.fr g hb.lt (fun h => hb.no (.inl h)) (Ne.symm hg)).trans hb.at_; have q1 := hw4 g1 _ B1 ng1; have q2 := hw4 g2 _ B2 ng2; have q3 := hw4 g3 _ B3 ng3; have q4 := hw4 g4 _ B4 ng4) | (with_reducible first | exact AG | refine EA ?_ | intro _g _hg | refine A5 ?_ ?_ | intro _hc) | omega)
    subst hR
    have hat := (ha.eqc (c' := cur') (by simp [AD])).ext (B := Bt t) (fun g h => htn g h) (fun _ _ => rfl) (fun _ _ => rfl) (fun h => nog (.inr h))
    have hle' : n ≤ n' := hle
    have b1 := B1.lt
    have b2 := B2.lt
    exact A9 (r := .tup [_, _]) rfl (by omega) (fun k hk => by rw [upd_ne (by omega), upd_ne (by omega)]; exact hS2.sup k hk) ⟨0, _, rfl, ((hat).ext (B := fun g => g = g1 ∨ g = g2 ∨ g = g3 ∨ g = g4) (fun g h => by have := B1.lt; have := B2.lt; have := B3.lt; have := B4.lt; rcases h with rfl | rfl | rfl | rfl <;> omega) (fun _ _ => rfl) (fun g h => by rw [upd_ne (fun e => h (.inl e))]; rw [upd_ne (fun e => h (.inr (.inl e)))]) (fun h => h.elim ng1 (fun h => h.elim ng2 (fun h => h.elim ng3 ng4)))), fun h => by cases h⟩
   ·have e1 : DJ (y :: ys) fin (m - 1) = (y, fin) :: HX (y :: ys) fin (m - 1) 1 := by rw [A4b, KQ (y := y) (by omega) rfl]
    have hm1 : (0 : Int) < ((m - 1 : Nat) : Int) := by omega
    rw [e1]
    generalize hR : Cz _ _ _ _ _ _ _ _ _ _ _ = R
    refine A2 Tryz.func138 KY rfl fun hs => ?_
    have hS := hS hs
    simp only [hkm] at B4 q4
    generalize hys : ys.map aI = ysa at *
    repeat' (first | simp -implicitDefEqProofs [CL, CO, CT, CK, CM, CQ, CI, CU, PD, -getElem?_pos, q1, q2, q3, q4, m0', m0, hw, hm1, hml, hml2, hpos, n12, n13, n14, n23, n24, n34, Ne.symm n12, splice, -AA] | simp (disch := omega) only [A6] | (refine hS.hd (fun r n' H' p' hle hr hl hS2 ha => ?_); obtain ⟨x', l', cur', fin', O3⟩ := p'; dsimp only [PtR] at hr; obtain ⟨rfl, rfl, ⟨v, rfl⟩, rfl, rfl⟩ := hr; have hw4 : ∀ (g : Nat) (ob : AObj), Bx (fun g => OU [⟨.fn ff fa fb, some [], cur, cur', O1⟩] g ∨ Bt t g) gO g H n ob → gg ≠ g → H' g = some ob := fun g ob hb hg => (ha.fr g hb.lt (fun h => hb.no (.inl h)) (Ne.symm hg)).trans hb.at_; have q1 := hw4 g1 _ B1 ng1; have q2 := hw4 g2 _ B2 ng2; have q3 := hw4 g3 _ B3 ng3; have q4 := hw4 g4 _ B4 ng4) | (with_reducible first | exact AG | refine EA ?_ | intro _g _hg | refine A5 ?_ ?_ | intro _hc) | omega)
    subst hR
    have hat := (ha.eqc (c' := cur') (by simp [AD])).ext (B := Bt t) (fun g h => htn g h) (fun _ _ => rfl) (fun _ _ => rfl) (fun h => nog (.inr h))
    have hle' : n ≤ n' := hle
    have b1 := B1.lt
    have b2 := B2.lt
    have hin : ∀ k, OU [⟨.fn ff fa fb, none, cur', cur', O3⟩] k → OU [⟨.fn ff fa fb, some [], cur, cur', O1⟩] k ∨ n ≤ k := ha.sub
    have mkb : ∀ (g : Nat) (ob : AObj), Bx (fun g => OU [⟨.fn ff fa fb, some [], cur, cur', O1⟩] g ∨ Bt t g) gO g H n ob → gg ≠ g → Bx (fun g => OU [⟨.fn ff fa fb, none, cur', cur', O3⟩] g ∨ Bt t g) gO g H' n' ob := fun g ob hb hg =>
     ⟨fun h => h.elim (fun h => (hin g h).elim (fun h => hb.no (.inl h)) (fun h => by have := hb.lt; omega)) (fun h => hb.no (.inr h)), hb.nO, by have := hb.lt; omega, hw4 g ob hb hg⟩
    have C1 := mkb g1 _ B1 ng1
    have C2 := mkb g2 _ B2 ng2
    have C3 := mkb g3 _ B3 ng3
    have C4 := mkb g4 _ B4 ng4
    refine A9 (r := .tup [_, _]) rfl (by omega) (fun k hk => by rw [upd_ne (by omega), upd_ne (by omega), upd_ne (by omega)]; exact hS2.sup k hk) ⟨_, rfl, ((hat).ext (B := fun g => g = g1 ∨ g = g2 ∨ g = g3 ∨ g = g4) (fun g h => by have := B1.lt; have := B2.lt; have := B3.lt; have := B4.lt; rcases h with rfl | rfl | rfl | rfl <;> omega) (fun _ _ => rfl) (fun g h => by rw [upd_ne (fun e => h (.inr (.inl e)))]; rw [upd_ne (fun e => h (.inl e))]; rw [upd_ne (fun e => h (.inr (.inl e)))]) (fun h => h.elim ng1 (fun h => h.elim ng2 (fun h => h.elim ng3 ng4)))), ?_⟩
    refine UI n12 n13 n14 n23 n24 n34 (xs := y :: ys) (px := .fn ff fa fb) (z := 1) (t := t) (by simpa using hysl) _ (m - 1) 1 _ _ n' (Nat.le_refl _) (by omega) (by simp) (fun h => h.elim hS2.ngO (fun h => noO (.inr h))) (fun g h => h.elim (hS2.pts.bel g) (fun h => by have := htn g h; omega)) ?_ ?_ ?_ ?_ (.inl rfl)
    ·exact ((C1.keep n12).set _).keep n12
    ·exact ((C2.set _).keep (Ne.symm n12)).set _
    ·exact ((C3.keep (Ne.symm n23)).keep (Ne.symm n13)).keep (Ne.symm n23)
    ·rw [hkm]; exact ((C4.keep (Ne.symm n24)).keep (Ne.symm n14)).keep (Ne.symm n24)
abbrev OT (p : Pt) (t : Tok) : Nat → Prop := fun g => OU [p] g ∨ Bt t g
structure SitT (gO lo : Nat) (p : Pt) (t : Tok) (k : Nat) (H : A1) (n gg : Nat) (cs : AQ) : Prop where
 sit : Sit gO lo [p] H n gg cs
 tok : TokOk t k H n
 dj : ∀ g, Bt t g → ¬ OU [p] g
 ngt : ¬ Bt t gg
 nOt : ¬ Bt t gO
theorem SitT.bel {gO lo k n gg : Nat} {p : Pt} {t : Tok} {H : A1} {cs : AQ} (h : SitT gO lo p t k H n gg cs) : ∀ g, OT p t g → g < n := fun g hg => hg.elim (h.sit.pts.bel g) (h.tok.lt g)
theorem SitT.call {gO lo k n gg : Nat} {p : Pt} {t : Tok} {H : A1} {cs : AQ} {d : Option Nat} {K : AS → Prop} {en : AJ} (h : SitT gO lo p t k H n gg cs)
  (hk : ∀ r n' H' p', n ≤ n' → PtR p r p' → (AD [p']).length = (AD [p]).length → SitT gO lo p' t k H' n' gg (Ci cs lo (AD [p'])) → Aft lo gg cs (AD [p']) (OT p t) n H n' H' (OT p' t) → K ⟨AC en d r, n', H'⟩) :
  AA Tryz.prog d K en n H [] p.x := by
 refine h.sit.hd (fun r n' H' p' hle hr hl hS ha => ?_)
 have hfr : ∀ g, Bt t g → H' g = H g := fun g hg => ha.fr g (h.tok.lt g hg) (h.dj g hg) (fun e => h.ngt (e ▸ hg))
 refine hk r n' H' p' hle hr hl ⟨hS, h.tok.at_ hfr hle, fun g hg hp => (ha.sub g hp).elim (h.dj g hg) (fun h2 => by have := h.tok.lt g hg; omega), h.ngt, h.nOt⟩ ?_
 exact ha.ext (B := Bt t) (fun g hg => h.tok.lt g hg) (fun _ _ => rfl) (fun _ _ => rfl) h.ngt
theorem SitT.keep {gO lo k n gg g : Nat} {p : Pt} {t : Tok} {H : A1} {cs : AQ} {x : Option AObj} (h : SitT gO lo p t k H n gg cs) (h1 : ¬ OT p t g) (h2 : gO ≠ g) (h3 : gg ≠ g) (h4 : g < n) : SitT gO lo p t k (upd H g x) n gg cs :=
 ⟨h.sit.keep (fun k => h1 (.inl k)) h2 h3 h4, h.tok.at_ (fun k hk => upd_ne (fun e => h1 (.inr (e ▸ hk)))) (Nat.le_refl _), h.dj, h.ngt, h.nOt⟩
structure Rep' (t : Tok) (k' : Nat) (n : Nat) (H : A1) (g' n' : Nat) (H' : A1) : Prop where
 wh : Bt t g' ∨ n ≤ g'
 le : n ≤ n'
 lt : g' < n'
 fr : ∀ k, k < n → ¬ Bt t k → H' k = H k
 at_ : H' g' = some (.row 3 k')
 sup : ∀ k, n' ≤ k → H' k = none
variable {p : Pt} {t : Tok} {cs : AQ} {ob : AObj} {k op : Int} {m : Nat} {O : Nat → Prop} {va vb : List AV}
theorem SitT.app {gO lo k k' n gg n' g' : Nat} {H H' : A1} (h : SitT gO lo p t k H n gg cs) (r : Rep' t k' n H g' n' H') : SitT gO lo p (.own g') k' H' n' gg cs := by
 have hlt := h.sit.giv.lt h.sit.sup
 refine ⟨⟨h.sit.pts.at_ (fun g hg => r.fr g (h.sit.pts.bel g hg) (fun k => h.dj g k hg)) r.le, ⟨(r.fr gO hlt.1 h.nOt).trans h.sit.giv.opn, (r.fr gg hlt.2 h.ngt).trans h.sit.giv.giv, h.sit.giv.fit, h.sit.giv.at_⟩, h.sit.ngg, h.sit.ngO, r.sup⟩, ⟨r.at_, r.lt⟩, fun g hg hp => ?_, fun hg => ?_, fun hg => ?_⟩
 ·have e : g = g' := hg
  subst e
  exact r.wh.elim (fun k => h.dj g k hp) (fun k => by have := h.sit.pts.bel g hp; omega)
 ·have e : gg = g' := hg
  subst e
  exact r.wh.elim h.ngt (fun k => by omega)
 ·have e : gO = g' := hg
  subst e
  exact r.wh.elim h.nOt (fun k => by omega)
theorem Bx.app {gO k' n g n' g' : Nat} {H H' : A1} (b : Bx (OT p t) gO g H n ob) (r : Rep' t k' n H g' n' H') : Bx (OT p (.own g')) gO g H' n' ob := by
 have h1 := b.lt
 have h2 := r.le
 refine ⟨fun hg => hg.elim (fun h => b.no (.inl h)) (fun h => ?_), b.nO, by omega, (r.fr g h1 (fun h => b.no (.inr h))).trans b.at_⟩
 have e : g = g' := h
 subst e
 exact r.wh.elim (fun k => b.no (.inr k)) (fun k => by omega)
theorem Aft.app {lo gg k' n n1 n' g' : Nat} {p p1 : Pt} {t t1 : Tok} {B : Nat → Prop} {cs c : AQ} {H H1 H' : A1} (ha : Aft lo gg cs c (fun g => OT p t g ∨ B g) n H n1 H1 (fun g => OT p1 t1 g ∨ B g)) (r : Rep' t1 k' n1 H1 g' n' H') (hb : ∀ g, OT p1 t1 g → g < n1) (hg : gg < n1) (hgt : ¬ Bt t1 gg) : Aft lo gg cs c (fun g => OT p t g ∨ B g) n H n' H' (fun g => OT p1 (.own g') g ∨ B g) := by
 have h2 := r.le
 have h3 := ha.le
 refine ⟨by omega, fun g hg => ?_, fun g hg => ?_, fun g k1 k2 k3 => ?_, (r.fr gg hg hgt).trans ha.giv⟩
 ·rcases hg with (hg | hg) | hg
  ·exact ha.sub g (.inl (.inl hg))
  ·have e : g = g' := hg
   subst e
   exact r.wh.elim (fun k => ha.sub g (.inl (.inr k))) (fun k => .inr (by omega))
  ·exact ha.sub g (.inr hg)
 ·rcases hg with (hg | hg) | hg
  ·have := hb g (.inl hg); omega
  ·have e : g = g' := hg
   have := r.lt; omega
  ·have := ha.bel g (.inr hg); omega
 ·have h4 : ¬ Bt t1 g := fun k => (ha.sub g (.inl (.inr k))).elim k2 (fun h => by omega)
  rw [r.fr g (by omega) h4]; exact ha.fr g k1 k2 k3
theorem UA : Ae Tryz.prog 137 = true := by kernel_rfl
theorem W6 (f : Int → Int → Int) (N : Nat) (last : List Int) (y : Int) (c : AQ) (r : Ad) : EB f N last ((y, c) :: r) = if last.length + 1 < N then EB f N (last ++ [y]) r else (G0 f ((last ++ [y]).drop (last.length + 1 - N)), c) :: EB f N ((last ++ [y]).drop (last.length + 1 - N)) r := by rw [EB]
abbrev Ht (l : List Int) (z : Nat) (t : Tok) : AObj := .cells 22 [.sl z (l.map aI) t]
def rgL (l : List Int) : Prop := ∀ x ∈ l, 0 ≤ x ∧ x ≤ 9999
theorem Tg {gO lo : Nat} {fin : AQ} {px a b : AV} {g1 g2 g3 : Nat} (hxf : Cp px) (hop : 1 ≤ op ∧ op ≤ 5) (hm : 1 ≤ m ∧ m ≤ 8) (n12 : g1 ≠ g2) (n13 : g1 ≠ g3) : ∀ (N : Nat) (l : Ad) (last : List Int) (cur : AQ) (z : Nat) (t : Tok) (O1 O : Nat → Prop) (H0 : A1) (n0 : Nat), l.length ≤ N → Pts gO lo [⟨px, some l, cur, fin, O1⟩] H0 n0 → OT ⟨px, some l, cur, fin, O1⟩ t = O → (∀ g, Bt t g → ¬ OU [⟨px, some l, cur, fin, O1⟩] g) → TokOk t last.length H0 n0 → (t ≠ .nil → z = 1) → ¬ O gO → last.length ≤ m → rgL last → rgE l →
  Bx O gO g1 H0 n0 (Ht last z t) → Bx O gO g2 H0 n0 (Ah k op m a b) → Bx O gO g3 H0 n0 (Bg px) →
  Raw false gO lo fin (.fn 137 [] [.ptr g1 0, .ptr g2 0, .ptr g3 0]) (EB (CH op) m last l) (AD [⟨px, some l, cur, fin, O1⟩]) (fun g => O g ∨ g = g1 ∨ g = g2 ∨ g = g3) H0 n0 := by
 intro N
 induction N using Nat.strongRecOn with
 | _ N ih =>
  intro l last cur z t O1 O H0 n0 hN hP hO hdj hT hz noO hlm hrl hrg B1 B2 B3
  have hbel : ∀ g, O g → g < n0 := fun g hg => by
   subst hO
   exact hg.elim (hP.bel g) (hT.lt g)
  refine Raw.of fun n H gg cs hn hag hgg hgO hgv => ?_
  replace B1 := B1.to hn (hag g1 (.inr (.inl rfl)))
  have q1 := B1.at_
  have ng1 : gg ≠ g1 := fun h => hgg (.inr (.inl h))
  replace B2 := B2.to hn (hag g2 (.inr (.inr (.inl rfl))))
  have q2 := B2.at_
  have ng2 : gg ≠ g2 := fun h => hgg (.inr (.inr (.inl h)))
  replace B3 := B3.to hn (hag g3 (.inr (.inr (.inr rfl))))
  have q3 := B3.at_
  have ng3 : gg ≠ g3 := fun h => hgg (.inr (.inr (.inr h)))
  have nog : ¬ O gg := fun h => hgg (.inl h)
  replace hbel : ∀ g, O g → g < n := fun g h => Nat.lt_of_lt_of_le (hbel g h) hn
  refine ⟨UA, ?_⟩
  subst hO
  have hS := fun hs => SitT.mk (Sit.start hP hn (fun g hg => hag g (.inl (.inl hg))) (fun h => nog (.inl h)) (fun h => noO (.inl h)) hgv hs) (hT.at_ (fun g hg => hag g (.inl (.inr hg))) hn) hdj (fun h => nog (.inr h)) (fun h => noO (.inr h))
  generalize hW : EB (CH op) m last l = W
  generalize hR : Cz _ _ _ _ _ _ _ _ _ _ _ = R
  refine A2 Tryz.func137 A3t rfl fun hs => ?_
  have hS := hS hs
  repeat' (first | simp -implicitDefEqProofs [P2, Cv, Cx, Cy, Cu, Cw, Ct, D0, Cr, D4, P2, -getElem?_pos, -AA] | simp (disch := omega) only [A6] | (with_reducible first | exact AG | refine EA ?_ | intro _g _hg | refine A5 ?_ ?_ | intro _hc) | omega)
  refine LoopK.go (fun r st => ∃ (l1 : Ad) (last1 : List Int) (cur1 : AQ) (z1 : Nat) (t1 : Tok) (O2 : Nat → Prop) (n1 : Nat) (H1 : A1) (fl : Bool), r = l1.length ∧ st = ⟨[(0, .ptr g1 0), (1, .ptr g2 0), (2, .ptr g3 0), (5, .bool fl)], n1, H1⟩ ∧ n ≤ n1 ∧ SitT gO lo ⟨px, some l1, cur1, fin, O2⟩ t1 last1.length H1 n1 gg (Ci cs lo (AD [⟨px, some l1, cur1, fin, O2⟩])) ∧ (AD [⟨px, some l1, cur1, fin, O2⟩]).length = (AD [⟨px, some l, cur, fin, O1⟩]).length ∧
   Aft lo gg cs (AD [⟨px, some l1, cur1, fin, O2⟩]) (fun g => OT ⟨px, some l, cur, fin, O1⟩ t g ∨ (g = g1 ∨ g = g2 ∨ g = g3)) n H n1 H1 (fun g => OT ⟨px, some l1, cur1, fin, O2⟩ t1 g ∨ (g = g1 ∨ g = g2 ∨ g = g3)) ∧
   Bx (OT ⟨px, some l1, cur1, fin, O2⟩ t1) gO g1 H1 n1 (Ht last1 z1 t1) ∧ Bx (OT ⟨px, some l1, cur1, fin, O2⟩ t1) gO g2 H1 n1 (Ah k op m a b) ∧ Bx (OT ⟨px, some l1, cur1, fin, O2⟩ t1) gO g3 H1 n1 (Bg px) ∧ (t1 ≠ .nil → z1 = 1) ∧ rgL last1 ∧ rgE l1 ∧ l1.length ≤ N ∧
   ((fl = false → last1.length < m) ∧ last1.length ≤ m ∧ EB (CH op) m last1 l1 = W ∨ fl = false ∧ m ≤ last1.length ∧ last1.length ≤ m + 1 ∧ l1.length < N ∧ W = (G0 (CH op) (last1.drop (last1.length - m)), cur1) :: EB (CH op) m (last1.drop (last1.length - m)) l1)) l.length ?_ ?_
  ·refine ⟨l, last, cur, z, t, O1, n, H, true, rfl, rfl, Nat.le_refl _, ?_, rfl, ?_, B1, B2, B3, hz, hrl, hrg, hN, .inl ⟨(fun h => by cases h), hlm, hW⟩⟩
   ·rw [Dx hgv]; exact hS
   ·exact (((Aft.same hgv hbel)).ext (B := fun g => g = g1 ∨ g = g2 ∨ g = g3) (fun g h => by have := B1.lt; have := B2.lt; have := B3.lt; rcases h with rfl | rfl | rfl <;> omega) (fun _ _ => rfl) (fun _ _ => rfl) (fun h => h.elim ng1 (fun h => h.elim ng2 ng3)))
  rintro r st ⟨l1, last1, cur1, z1, t1, O2, n1, H1, fl, rfl, rfl, hn1, hS1, hl1, ha1, B1', B2', B3', hz1, hrl1, hrg1, hN1, hcase⟩ J hJ
  have q1 := B1'.at_
  have q2 := B2'.at_
  have q3 := B3'.at_
  have hxf' := hxf
  obtain ⟨ff, fa, fb, rfl⟩ := hxf
  have hml : (last1.map aI).length = last1.length := by simp
  have hgn := hS1.sit.giv.lt hS1.sit.sup
  rcases hcase with ⟨hfl, hlm1, hWk⟩ | ⟨rfl, hm1, hm2, hlN, hWk⟩
  ·have hask : fl = true ∨ (fl = false ∧ ((last1.length : Int) < m)) := by
    cases fl with
    | true => exact .inl rfl
    | false => exact .inr ⟨rfl, by have := hfl rfl; omega⟩
   cases l1 with
   | nil =>
    rcases hask with rfl | ⟨rfl, hlt⟩
    ·skip
     repeat' (first | simp -implicitDefEqProofs [Cv, Cx, Cy, Cu, Cw, Ct, D0, Cr, D4, P2, -getElem?_pos, q1, q2, q3, splice, -AA] | simp (disch := omega) only [A6] | (refine hS1.call (fun r n' H' p' hle hr hl hS2 ha => ?_); obtain ⟨x', l', cur', fin', O3⟩ := p'; dsimp only [PtR] at hr; obtain ⟨rfl, rfl, ⟨v, rfl⟩, rfl, rfl⟩ := hr) | (with_reducible first | exact AG | refine EA ?_ | intro _g _hg | refine A5 ?_ ?_ | intro _hc) | omega)
     subst hR
     have hat := (Aft.tr hgv ha1 ((ha).ext (B := fun g => g = g1 ∨ g = g2 ∨ g = g3) (fun g h => by have := B1.lt; have := B2.lt; have := B3.lt; rcases h with rfl | rfl | rfl <;> omega) (fun _ _ => rfl) (fun _ _ => rfl) (fun h => h.elim ng1 (fun h => h.elim ng2 ng3))) hl1 (hl.trans hl1)).eqc (c' := cur') (by simp [AD])
     rw [← hWk]
     exact A9 (r := .tup [_, _]) rfl (by have : n1 ≤ n' := hle; omega) hS2.sit.sup ⟨0, _, rfl, hat, fun h => by cases h⟩
    ·skip
     repeat' (first | simp -implicitDefEqProofs [Cv, Cx, Cy, Cu, Cw, Ct, D0, Cr, D4, P2, -getElem?_pos, q1, q2, q3, hlt, hml, splice, -AA] | simp (disch := omega) only [A6] | (refine hS1.call (fun r n' H' p' hle hr hl hS2 ha => ?_); obtain ⟨x', l', cur', fin', O3⟩ := p'; dsimp only [PtR] at hr; obtain ⟨rfl, rfl, ⟨v, rfl⟩, rfl, rfl⟩ := hr) | (with_reducible first | exact AG | refine EA ?_ | intro _g _hg | refine A5 ?_ ?_ | intro _hc) | omega)
     subst hR
     have hat := (Aft.tr hgv ha1 ((ha).ext (B := fun g => g = g1 ∨ g = g2 ∨ g = g3) (fun g h => by have := B1.lt; have := B2.lt; have := B3.lt; rcases h with rfl | rfl | rfl <;> omega) (fun _ _ => rfl) (fun _ _ => rfl) (fun h => h.elim ng1 (fun h => h.elim ng2 ng3))) hl1 (hl.trans hl1)).eqc (c' := cur') (by simp [AD])
     rw [← hWk]
     exact A9 (r := .tup [_, _]) rfl (by have : n1 ≤ n' := hle; omega) hS2.sit.sup ⟨0, _, rfl, hat, fun h => by cases h⟩
   | cons e l1 =>
    obtain ⟨y, c⟩ := e
    have nxt : ∀ (cur' : AQ) (O3 : Nat → Prop) (n2 g' : Nat) (H2 : A1), n1 ≤ n2 → SitT gO lo ⟨.fn ff fa fb, some l1, cur', fin, O3⟩ (.own g') (last1 ++ [y]).length H2 n2 gg (Ci cs lo (AD [⟨.fn ff fa fb, some l1, cur', fin, O3⟩])) → (AD [⟨.fn ff fa fb, some l1, cur', fin, O3⟩]).length = (AD [⟨.fn ff fa fb, some l, cur, fin, O1⟩]).length →
      Aft lo gg cs (AD [⟨.fn ff fa fb, some l1, cur', fin, O3⟩]) (fun g => OT ⟨.fn ff fa fb, some l, cur, fin, O1⟩ t g ∨ (g = g1 ∨ g = g2 ∨ g = g3)) n H n2 H2 (fun g => OT ⟨.fn ff fa fb, some l1, cur', fin, O3⟩ (.own g') g ∨ (g = g1 ∨ g = g2 ∨ g = g3)) →
      Bx (OT ⟨.fn ff fa fb, some l1, cur', fin, O3⟩ (.own g')) gO g1 H2 n2 (Ht (last1 ++ [y]) 1 (.own g')) → Bx (OT ⟨.fn ff fa fb, some l1, cur', fin, O3⟩ (.own g')) gO g2 H2 n2 (Ah k op m a b) → Bx (OT ⟨.fn ff fa fb, some l1, cur', fin, O3⟩ (.own g')) gO g3 H2 n2 (Bg (.fn ff fa fb)) → c = cur' →
      J ⟨[(0, .ptr g1 0), (1, .ptr g2 0), (2, .ptr g3 0), (5, .bool false)], n2, H2⟩ := by
     intro cur' O3 n2 g' H2 h1 h2 h3 h4 h5 h6 h7 h8
     subst h8
     refine hJ l1.length _ (by simp) ⟨l1, last1 ++ [y], c, 1, .own g', O3, n2, H2, false, rfl, rfl, by omega, h2, h3, h4, h5, h6, h7, fun _ => rfl, ?_, hrg1.tl, by simp at hN1; omega, ?_⟩
     ·intro x hx
      rcases List.mem_append.1 hx with hx | hx
      ·exact hrl1 x hx
      ·simp at hx; subst hx; exact hrg1.hd
     ·rw [W6] at hWk
      have e9 : (last1 ++ [y]).length = last1.length + 1 := by simp
      rw [e9]
      split at hWk
      ·rename_i h; exact .inl ⟨fun _ => h, by omega, hWk⟩
      ·exact .inr ⟨rfl, by omega, by omega, by simp at hN1; omega, hWk.symm⟩
    rcases hask with rfl | ⟨rfl, hlt⟩
    ·skip
     repeat' (first | simp -implicitDefEqProofs [Cv, Cx, Cy, Cu, Cw, Ct, D0, Cr, D4, P2, -getElem?_pos, q1, q2, q3,  splice, -AA] | simp (disch := omega) only [A6] | (refine hS1.call (fun r n' H' p' hle hr hl hS2 ha => ?_); obtain ⟨x', l', cur', fin', O3⟩ := p'; dsimp only [PtR] at hr; obtain ⟨rfl, rfl, rfl, rfl, rfl⟩ := hr; have hle' : n1 ≤ n' := hle; have C1 := (⟨fun h => (ha.sub g1 h).elim B1'.no (fun h => by have := B1'.lt; omega), B1'.nO, by have := B1'.lt; omega, (ha.fr g1 B1'.lt B1'.no (Ne.symm ng1)).trans B1'.at_⟩ : Bx _ gO g1 H' n' _); have C2 := (⟨fun h => (ha.sub g2 h).elim B2'.no (fun h => by have := B2'.lt; omega), B2'.nO, by have := B2'.lt; omega, (ha.fr g2 B2'.lt B2'.no (Ne.symm ng2)).trans B2'.at_⟩ : Bx _ gO g2 H' n' _); have C3 := (⟨fun h => (ha.sub g3 h).elim B3'.no (fun h => by have := B3'.lt; omega), B3'.nO, by have := B3'.lt; omega, (ha.fr g3 B3'.lt B3'.no (Ne.symm ng3)).trans B3'.at_⟩ : Bx _ gO g3 H' n' _); have q1 := C1.at_) | (refine JQ (by rw [hml]; exact hS2.tok.at_ (fun k hk => by have := hS2.tok.lt k hk; rw [upd_ne (by omega)]) (by omega)) hz1 (by rw [hml]; omega) (fun k hk => by rw [upd_ne (by omega)]; exact hS2.sit.sup k (by omega)) (fun g' n2 H2 k1 k2 k3 k4 k5 k6 k7 => ?_); have q1 := (k4 g1 (by have := C1.lt; omega) (fun h => C1.no (.inr h))).trans ((upd_ne (by have := C1.lt; omega)).trans q1)) | (with_reducible first | exact AG | refine EA ?_ | intro _g _hg | refine A5 ?_ ?_ | intro _hc) | omega)
     have rep : Rep' t1 (last1 ++ [y]).length n' H' g' n2 H2 := ⟨k1.elim .inl (fun h => .inr (by omega)), by omega, k3, fun k h1 h2 => (k4 k (by omega) h2).trans (upd_ne (by omega)), by rw [k5]; simp, k6⟩
     have hS3 := hS2.app rep
     have D1 := C1.app rep
     have D2 := C2.app rep
     have D3 := C3.app rep
     have hat := ((Aft.tr hgv ha1 ((ha).ext (B := fun g => g = g1 ∨ g = g2 ∨ g = g3) (fun g h => by have := B1.lt; have := B2.lt; have := B3.lt; rcases h with rfl | rfl | rfl <;> omega) (fun _ _ => rfl) (fun _ _ => rfl) (fun h => h.elim ng1 (fun h => h.elim ng2 ng3))) hl1 (hl.trans hl1)).app rep hS2.bel (by omega) hS2.ngt).box (x := some (Ht (last1 ++ [y]) 1 (.own g'))) (.inr (.inl rfl)) ng1
     have hS4 := hS3.keep (x := some (Ht (last1 ++ [y]) 1 (.own g'))) D1.no D1.nO ng1 D1.lt
     rw [C6 (by have := hgv.fit; omega) hl] at hS4
     have e1 : last1.map aI ++ [aI y] = (last1 ++ [y]).map aI := by simp
     rw [e1]
     exact nxt _ _ n2 g' _ (by omega) hS4 (hl.trans hl1) hat (D1.set _) (D2.keep (Ne.symm n12)) (D3.keep (Ne.symm n13)) rfl
    ·skip
     repeat' (first | simp -implicitDefEqProofs [Cv, Cx, Cy, Cu, Cw, Ct, D0, Cr, D4, P2, -getElem?_pos, q1, q2, q3, hlt, hml, splice, -AA] | simp (disch := omega) only [A6] | (refine hS1.call (fun r n' H' p' hle hr hl hS2 ha => ?_); obtain ⟨x', l', cur', fin', O3⟩ := p'; dsimp only [PtR] at hr; obtain ⟨rfl, rfl, rfl, rfl, rfl⟩ := hr; have hle' : n1 ≤ n' := hle; have C1 := (⟨fun h => (ha.sub g1 h).elim B1'.no (fun h => by have := B1'.lt; omega), B1'.nO, by have := B1'.lt; omega, (ha.fr g1 B1'.lt B1'.no (Ne.symm ng1)).trans B1'.at_⟩ : Bx _ gO g1 H' n' _); have C2 := (⟨fun h => (ha.sub g2 h).elim B2'.no (fun h => by have := B2'.lt; omega), B2'.nO, by have := B2'.lt; omega, (ha.fr g2 B2'.lt B2'.no (Ne.symm ng2)).trans B2'.at_⟩ : Bx _ gO g2 H' n' _); have C3 := (⟨fun h => (ha.sub g3 h).elim B3'.no (fun h => by have := B3'.lt; omega), B3'.nO, by have := B3'.lt; omega, (ha.fr g3 B3'.lt B3'.no (Ne.symm ng3)).trans B3'.at_⟩ : Bx _ gO g3 H' n' _); have q1 := C1.at_) | (refine JQ (by rw [hml]; exact hS2.tok.at_ (fun k hk => by have := hS2.tok.lt k hk; rw [upd_ne (by omega)]) (by omega)) hz1 (by rw [hml]; omega) (fun k hk => by rw [upd_ne (by omega)]; exact hS2.sit.sup k (by omega)) (fun g' n2 H2 k1 k2 k3 k4 k5 k6 k7 => ?_); have q1 := (k4 g1 (by have := C1.lt; omega) (fun h => C1.no (.inr h))).trans ((upd_ne (by have := C1.lt; omega)).trans q1)) | (with_reducible first | exact AG | refine EA ?_ | intro _g _hg | refine A5 ?_ ?_ | intro _hc) | omega)
     have rep : Rep' t1 (last1 ++ [y]).length n' H' g' n2 H2 := ⟨k1.elim .inl (fun h => .inr (by omega)), by omega, k3, fun k h1 h2 => (k4 k (by omega) h2).trans (upd_ne (by omega)), by rw [k5]; simp, k6⟩
     have hS3 := hS2.app rep
     have D1 := C1.app rep
     have D2 := C2.app rep
     have D3 := C3.app rep
     have hat := ((Aft.tr hgv ha1 ((ha).ext (B := fun g => g = g1 ∨ g = g2 ∨ g = g3) (fun g h => by have := B1.lt; have := B2.lt; have := B3.lt; rcases h with rfl | rfl | rfl <;> omega) (fun _ _ => rfl) (fun _ _ => rfl) (fun h => h.elim ng1 (fun h => h.elim ng2 ng3))) hl1 (hl.trans hl1)).app rep hS2.bel (by omega) hS2.ngt).box (x := some (Ht (last1 ++ [y]) 1 (.own g'))) (.inr (.inl rfl)) ng1
     have hS4 := hS3.keep (x := some (Ht (last1 ++ [y]) 1 (.own g'))) D1.no D1.nO ng1 D1.lt
     rw [C6 (by have := hgv.fit; omega) hl] at hS4
     have e1 : last1.map aI ++ [aI y] = (last1 ++ [y]).map aI := by simp
     rw [e1]
     exact nxt _ _ n2 g' _ (by omega) hS4 (hl.trans hl1) hat (D1.set _) (D2.keep (Ne.symm n12)) (D3.keep (Ne.symm n13)) rfl
  ·have hlt : ¬ (last1.length : Int) < m := by omega
   have hz1' : z1 = 1 := hz1 (fun h => by
    have := hS1.tok
    rw [h] at this
    have e : last1.length = 0 := this
    omega)
   subst hz1'
   have hsub : (last1.length : Int) - m = ((last1.length - m : Nat) : Int) := by omega
   have hle1 : ((last1.length - m : Nat) : Int) ≤ last1.length := by omega
   have hcl : ((last1.map aI).drop (last1.length - m)).length ≤ 1000000 := by simp; omega
   have hdr : (last1.map aI).drop (last1.length - m) = (last1.drop (last1.length - m)).map aI := by rw [List.map_drop]
   have hdl : (last1.drop (last1.length - m)).length = m := by simp; omega
   have hrd : rgL (last1.drop (last1.length - m)) := fun x hx => hrl1 x (List.mem_of_mem_drop hx)
   repeat' (first | simp -implicitDefEqProofs [Cv, Cx, Cy, Cu, Cw, Ct, D0, Cr, D4, P2, -getElem?_pos, q1, q2, hlt, hml, hsub, hle1, splice, -AA] | simp (disch := omega) only [A6] | (with_reducible first | exact AG | refine EA ?_ | intro _g _hg | refine A5 ?_ ?_ | intro _hc) | omega)
   have e4 : List.take last1.length (last1.map aI) = last1.map aI := List.take_of_length_le (by simp)
   rw [e4, hdr]
   rw [hdr] at hcl
   generalize last1.drop (last1.length - m) = nl at *
   refine CallK.chk ⟨_, YV (nl.map aI) n1 H1 hcl, ?_⟩
   rintro r n3 H3 (hle3 : n1 ≤ n3) hsup3 ⟨hsb, hcl2⟩
   obtain ⟨w, ws, rfl⟩ : ∃ w ws, nl = w :: ws := by
    cases nl with
    | nil => simp at hdl; omega
    | cons w ws => exact ⟨w, ws, rfl⟩
   rcases hcl2 with ⟨h, _⟩ | ⟨g4, h41, h42, rfl, h43⟩
   ·simp at h
   have rep : Rep' t1 (w :: ws).length n1 H1 g4 n3 H3 := ⟨.inr h41, hle3, h42, fun k h1 _ => hsb k h1, by rw [h43]; simp, hsup3⟩
   have hS3 := hS1.app rep
   have D1 := B1'.app rep
   have D2 := B2'.app rep
   have D3 := B3'.app rep
   have hat := (ha1.app rep hS1.bel hgn.2 hS1.ngt).box (x := some (Ht (w :: ws) 1 (.own g4))) (.inr (.inl rfl)) ng1
   have hS4 := hS3.keep (x := some (Ht (w :: ws) 1 (.own g4))) D1.no D1.nO ng1 D1.lt
   have E1 := D1.set (Ht (w :: ws) 1 (.own g4))
   have E2 := D2.keep (x := some (Ht (w :: ws) 1 (.own g4))) (Ne.symm n12)
   have E3 := D3.keep (x := some (Ht (w :: ws) 1 (.own g4))) (Ne.symm n13)
   have q1 := D1.at_
   have q2 := E2.at_
   have hwl : (ws.map aI).length = ws.length := by simp
   have hwm : ws.length + 1 = m := by simpa using hdl
   have hw8 : ((ws.length + 1 : Nat) : Int) = ws.length + 1 := by omega
   have hpos : (1 : Int) ≤ ws.length + 1 := by omega
   have hpos0 : (0 : Int) < ws.length + 1 := by omega
   repeat' (first | simp -implicitDefEqProofs [Cv, Cx, Cy, Cu, Cw, Ct, D0, Cr, D4, P2, -getElem?_pos, q1, hwl, hw8, hpos, hpos0, splice, -AA] | simp (disch := omega) only [A6] | (with_reducible first | exact AG | refine EA ?_ | intro _g _hg | refine A5 ?_ ?_ | intro _hc) | omega)
   have e5 : List.take ws.length (ws.map aI) = ws.map aI := List.take_of_length_le (by simp)
   rw [e5]
   have hfr : ∀ j, AW ((ws.take j).foldl (CH op) w) := fun j => RK (PR hop) _ _ (hrd w List.mem_cons_self) fun x hx => hrd x (List.mem_cons_of_mem _ (List.mem_of_mem_take hx))
   refine LoopK.go (fun r st => ∃ j : Nat, j + r = ws.length ∧ st = ⟨[(1, .ptr g2 0), (8, aI ((ws.take j).foldl (CH op) w)), (42, .sl 1 (ws.map aI) .ro), (43, aI ws.length), (44, aI j)], n3, upd H3 g1 (some (Ht (w :: ws) 1 (.own g4)))⟩) ws.length ⟨0, by omega, rfl⟩ ?_
   rintro r st ⟨j, hj, rfl⟩ J2 hJ2
   by_cases hjl : j < ws.length
   ·obtain ⟨x, hx⟩ : ∃ x, ws[j]? = some x := ⟨_, List.getElem?_eq_getElem hjl⟩
    have hxa := Iu (f := aI) hx
    have hjl' : (j : Int) < ws.length := by omega
    have hxr : AW x := hrd x (List.mem_cons_of_mem _ (List.mem_of_getElem? hx))
    have hap := OL op _ x (by omega) (hfr j) hxr (by omega)
    have e6 : (ws.take (j + 1)).foldl (CH op) w = CH op ((ws.take j).foldl (CH op) w) x := by rw [List.take_succ, hx]; simp
    generalize (ws.take j).foldl (CH op) w = acc at *
    generalize ws.map aI = wsa at *
    repeat' (first | simp -implicitDefEqProofs [Cv, Cx, Cy, Cu, Cw, Ct, D0, Cr, D4, P2, -getElem?_pos, q2, hxa, hjl', splice, -AA] | simp (disch := omega) only [A6] | ((with_reducible refine AO 102 ?_); refine' Aa (hap) ?_) | (with_reducible first | exact AG | refine EA ?_ | intro _g _hg | refine A5 ?_ ?_ | intro _hc) | omega)
    exact hJ2 (r - 1) _ (by omega) ⟨j + 1, by omega, by rw [e6]; rfl⟩
   ·have hjl' : ¬ (j : Int) < ws.length := by omega
    have e6 : (ws.take j).foldl (CH op) w = G0 (CH op) (w :: ws) := by rw [List.take_of_length_le (by omega)]; rfl
    rw [e6]
    repeat' (first | simp -implicitDefEqProofs [Cv, Cx, Cy, Cu, Cw, Ct, D0, Cr, D4, P2, -getElem?_pos, hjl', splice, -AA] | simp (disch := omega) only [A6] | (with_reducible first | exact AG | refine EA ?_ | intro _g _hg | refine A5 ?_ ?_ | intro _hc) | omega)
    subst hR
    rw [hWk]
    have hrec := ih l1.length hlN l1 (w :: ws) cur1 1 (.own g4) O2 _ _ n3 (Nat.le_refl _) hS4.sit.pts rfl hS4.dj hS4.tok (fun _ => rfl) (fun h => h.elim hS4.sit.ngO hS4.nOt) (by simp; omega) hrd hrg1 E1 E2 E3
    simp only [AD, List.append_nil] at hrec
    have hat := hat.eqc (c' := cur1) (by simp [AD])
    exact A9 (r := .tup [_, _]) rfl (by omega) hS4.sit.sup ⟨_, rfl, hat, hrec⟩
def NewS (e : Bool) (gO lo : Nat) (F : Fut) (O : Nat → Prop) (n : Nat) (H : A1) : DD := fun r n' H' => Cp r ∧ n ≤ n' ∧ SameB n H H' ∧ (∀ k, n' ≤ k → H' k = none) ∧ ∃ O' : Nat → Prop, (∀ g, O' g → O g ∨ n ≤ g) ∧ (∀ g, O' g → g < n') ∧ Raw e gO lo F.fin r F.l F.cur O' H' n'
section
variable {gO lo n : Nat} {fin cur : AQ} {px : AV} {l : Ad} {O1 : Nat → Prop} {H : A1}
theorem Bx.new {g m : Nat} {H2 : A1} (hb : ∀ g, O g → g < n) (hO : gO < n) (h1 : n ≤ g) (h2 : g < m) (h3 : H2 g = some ob) : Bx O gO g H2 m ob := ⟨fun h => by have := hb g h; omega, by omega, h2, h3⟩
theorem Pts.newB {ps : List Pt} {n' : Nat} {H' : A1} (h : Pts gO lo ps H n) (hn : n ≤ n') (hs : SameB n H H') : Pts gO lo ps H' n' := h.at_ (fun g hg => hs g (h.bel g hg)) hn
theorem Ce (h : Pts gO lo [⟨px, some l, cur, fin, O1⟩] H n) : Raw true gO lo fin px l cur O1 H n ∧ monL cur l fin ∧ ∀ g, O1 g → g < n := ⟨h.1.1, h.1.2, h.2.1⟩
theorem Y3 {F : Fut} (hr : Raw false gO lo F.fin px F.l F.cur O H n) (hx : Cp px) (hb : ∀ g, O g → g < n) (hnO : ¬ O gO) (hO : gO < n) : ACalls Tryz.prog 71 [px] n H (NewS true gO lo F O n H) := by
 generalize hR : NewS _ _ _ _ _ _ _ = R
 obtain ⟨ff, fa, fb, rfl⟩ := hx
 refine A2 Tryz.func71 A4i rfl fun hs => ?_
 repeat' (first | simp -implicitDefEqProofs [c71, -getElem?_pos, splice, -AA] | simp (disch := omega) only [A6] | (with_reducible first | exact AG | refine Db ?_ | intro _g _hg | refine A5 ?_ ?_ | intro _hc) | omega)
 rename_i g2 hg2
 subst hR
 refine A9 (r := .fn _ [] [.ptr _g 0, .ptr g2 0]) rfl (by omega) (fun k hk => by simp (disch := omega) only [upd_ne]; exact hs k (by omega)) ⟨⟨_, _, _, rfl⟩, by omega, (fun k hk => by simp (disch := omega) only [upd_ne]), (fun k hk => by simp (disch := omega) only [upd_ne]; exact hs k (by omega)), _, ?_, ?_, ZV (by omega) F.l F.cur O _ _ (hr.at_ (fun g hg => by have := hb g hg; simp (disch := omega) only [upd_ne]) (by omega)) hnO (fun g hg => by have := hb g hg; omega) (Bx.new hb hO (by omega) (by omega) (by simp (disch := omega) only [upd_ne, AP] <;> rfl)) (Bx.new hb hO (by omega) (by omega) (by simp (disch := omega) only [upd_ne, AP] <;> rfl))⟩
 ·rintro g (h | h | h)
  ·exact .inl h
  ·exact .inr (by omega)
  ·exact .inr (by omega)
 ·rintro g (h | h | h)
  ·have := hb g h; omega
  ·omega
  ·omega
end
section
variable {gO lo n : Nat} {fin cur : AQ} {px : AV} {l : Ad} {O1 : Nat → Prop} {H : A1}
theorem A2v (hm : m ≤ 5000) (h : Pts gO lo [⟨px, some l, cur, fin, O1⟩] H n) (hx : Cp px) (hnO : ¬ OU [⟨px, some l, cur, fin, O1⟩] gO) (hO : gO < n) : ACalls Tryz.prog 109 [aI m, px] n H (NewS false gO lo ⟨cur, (Da m cur l fin).1, (Da m cur l fin).2⟩ (OU [⟨px, some l, cur, fin, O1⟩]) n H) := by
 generalize hR : NewS _ _ _ _ _ _ _ = R
 obtain ⟨hraw0, hmon, hb1⟩ := Ce h
 have hxf := hx
 have hb := h.bel
 have hc1 : AD [⟨px, some l, cur, fin, O1⟩] = cur := by simp [AD]
 have hOU : O1 = OU [⟨px, some l, cur, fin, O1⟩] := funext fun g => propext ⟨fun h => .inl h, fun h => h.elim id fun h => h.elim⟩
 have hraw : Raw true gO lo fin px l cur (OU [⟨px, some l, cur, fin, O1⟩]) H n := by rw [← hOU]; exact hraw0
 obtain ⟨ff, fa, fb, rfl⟩ := hx
 refine A2 Tryz.func109 A3p rfl fun hs => ?_
 repeat' (first | simp -implicitDefEqProofs [A4g, -getElem?_pos, splice, -AA] | simp (disch := omega) only [A6] | (with_reducible first | exact AG | refine Db ?_ | intro _g _hg | refine A5 ?_ ?_ | intro _hc) | omega)
 rename_i ga hga
 subst hR
 have hrec := ZG (show ga ≠ _g by omega) l cur m _ (upd (upd H ga (some (BW m))) _g (some (Bg (.fn ff fa fb)))) (_g + 1) (hraw.at_ (fun g hg => by have := hb g hg; simp (disch := omega) only [upd_ne]) (by omega)) hm hnO (fun g hg => by have := hb g hg; omega) (Bx.new hb hO (by omega) (by omega) (by simp (disch := omega) only [upd_ne, AP] <;> rfl)) (Bx.new hb hO (by omega) (by omega) (by simp (disch := omega) only [upd_ne, AP] <;> rfl))
 refine A9 (r := .fn _ [] [.ptr ga 0, .ptr _g 0]) rfl (by omega) (fun k hk => by simp (disch := omega) only [upd_ne]; exact hs k (by omega)) ⟨⟨_, _, _, rfl⟩, by omega, (fun k hk => by simp (disch := omega) only [upd_ne]), (fun k hk => by simp (disch := omega) only [upd_ne]; exact hs k (by omega)), fun g => OU [⟨.fn ff fa fb, some l, cur, fin, O1⟩] g ∨ (g = ga ∨ g = _g), ?_, ?_, hrec⟩
 ·rintro g (h | h | h)
  ·exact .inl h
  ·exact .inr (by omega)
  ·exact .inr (by omega)
 ·rintro g (h | h | h)
  ·have := hb g h; omega
  ·omega
  ·omega
theorem A47 (hm : m ≤ 5000) (h : Pts gO lo [⟨px, some l, cur, fin, O1⟩] H n) (hx : Cp px) (hnO : ¬ OU [⟨px, some l, cur, fin, O1⟩] gO) (hO : gO < n) : ACalls Tryz.prog 110 [aI m, px] n H (NewS false gO lo ⟨cur, l.drop m, fin⟩ (OU [⟨px, some l, cur, fin, O1⟩]) n H) := by
 generalize hR : NewS _ _ _ _ _ _ _ = R
 obtain ⟨hraw0, hmon, hb1⟩ := Ce h
 have hxf := hx
 have hb := h.bel
 have hc1 : AD [⟨px, some l, cur, fin, O1⟩] = cur := by simp [AD]
 have hOU : O1 = OU [⟨px, some l, cur, fin, O1⟩] := funext fun g => propext ⟨fun h => .inl h, fun h => h.elim id fun h => h.elim⟩
 have hraw : Raw true gO lo fin px l cur (OU [⟨px, some l, cur, fin, O1⟩]) H n := by rw [← hOU]; exact hraw0
 obtain ⟨ff, fa, fb, rfl⟩ := hx
 refine A2 Tryz.func110 A3j rfl fun hs => ?_
 repeat' (first | simp -implicitDefEqProofs [A4j, -getElem?_pos, splice, -AA] | simp (disch := omega) only [A6] | (with_reducible first | exact AG | refine Db ?_ | intro _g _hg | refine A5 ?_ ?_ | intro _hc) | omega)
 rename_i ga hga
 subst hR
 have hrec := ZD hxf (show ga ≠ _g by omega) _ m l cur O1 _ (upd (upd H ga (some (BW m))) _g (some (Bg (.fn ff fa fb)))) (_g + 1) (Nat.le_refl _) hm (h.newB (by omega) (fun k hk => by simp (disch := omega) only [upd_ne])) rfl hnO (Bx.new hb hO (by omega) (by omega) (by simp (disch := omega) only [upd_ne, AP] <;> rfl)) (Bx.new hb hO (by omega) (by omega) (by simp (disch := omega) only [upd_ne, AP] <;> rfl))
 simp only [AD, List.append_nil] at hrec
 refine A9 (r := .fn _ [] [.ptr ga 0, .ptr _g 0]) rfl (by omega) (fun k hk => by simp (disch := omega) only [upd_ne]; exact hs k (by omega)) ⟨⟨_, _, _, rfl⟩, by omega, (fun k hk => by simp (disch := omega) only [upd_ne]), (fun k hk => by simp (disch := omega) only [upd_ne]; exact hs k (by omega)), fun g => OU [⟨.fn ff fa fb, some l, cur, fin, O1⟩] g ∨ (g = ga ∨ g = _g), ?_, ?_, hrec⟩
 ·rintro g (h | h | h)
  ·exact .inl h
  ·exact .inr (by omega)
  ·exact .inr (by omega)
 ·rintro g (h | h | h)
  ·have := hb g h; omega
  ·omega
  ·omega
theorem A36 {k op m : Int} (hop : 1 ≤ op ∧ op ≤ 3) (hm : AW m) (h3 : op = 3 → 1 ≤ m) (hrg : rgE l) (h : Pts gO lo [⟨px, some l, cur, fin, O1⟩] H n) (hx : Cp px) (hnO : ¬ OU [⟨px, some l, cur, fin, O1⟩] gO) (hO : gO < n) : ACalls Tryz.prog 112 [.agg [aI k, aI op, aI m, .sl 1 va .ro, .sl 5 vb .ro], px] n H (NewS false gO lo ⟨cur, GG (fun x => FE op x m) l, fin⟩ (OU [⟨px, some l, cur, fin, O1⟩]) n H) := by
 generalize hR : NewS _ _ _ _ _ _ _ = R
 obtain ⟨hraw0, hmon, hb1⟩ := Ce h
 have hxf := hx
 have hb := h.bel
 have hc1 : AD [⟨px, some l, cur, fin, O1⟩] = cur := by simp [AD]
 have hOU : O1 = OU [⟨px, some l, cur, fin, O1⟩] := funext fun g => propext ⟨fun h => .inl h, fun h => h.elim id fun h => h.elim⟩
 have hraw : Raw true gO lo fin px l cur (OU [⟨px, some l, cur, fin, O1⟩]) H n := by rw [← hOU]; exact hraw0
 obtain ⟨ff, fa, fb, rfl⟩ := hx
 refine A2 Tryz.func112 A2k rfl fun hs => ?_
 repeat' (first | simp -implicitDefEqProofs [A5s, -getElem?_pos, splice, -AA] | simp (disch := omega) only [A6] | (with_reducible first | exact AG | refine Db ?_ | intro _g _hg | refine A5 ?_ ?_ | intro _hc) | omega)
 rename_i ga hga gb hgb
 subst hR
 have hrec := YJ (k := k) (a := .sl 1 va .ro) (b := .sl 5 vb .ro) hop hm h3 hxf (show _g ≠ gb by omega) (show _g ≠ ga by omega) l cur O1 _ (upd (upd (upd (upd H ga (some (Ah k op m (.sl 1 va .ro) (.sl 5 vb .ro)))) gb (some (Bg (.fn ff fa fb)))) _g (some (GT false))) _g (some (GT false))) (_g + 1) (h.newB (by omega) (fun k hk => by simp (disch := omega) only [upd_ne])) rfl hrg hnO (Bx.new hb hO (by omega) (by omega) (by simp (disch := omega) only [upd_ne, AP] <;> rfl)) (Bx.new hb hO (by omega) (by omega) (by simp (disch := omega) only [upd_ne, AP] <;> rfl)) (Bx.new hb hO (by omega) (by omega) (by simp (disch := omega) only [upd_ne, AP] <;> rfl))
 simp only [AD, List.append_nil] at hrec
 refine A9 (r := .fn _ [] [.ptr _g 0, .ptr gb 0, .ptr ga 0]) rfl (by omega) (fun k hk => by simp (disch := omega) only [upd_ne]; exact hs k (by omega)) ⟨⟨_, _, _, rfl⟩, by omega, (fun k hk => by simp (disch := omega) only [upd_ne]), (fun k hk => by simp (disch := omega) only [upd_ne]; exact hs k (by omega)), fun g => OU [⟨.fn ff fa fb, some l, cur, fin, O1⟩] g ∨ (g = _g ∨ g = gb ∨ g = ga), ?_, ?_, hrec⟩
 ·rintro g (h | h | h | h)
  ·exact .inl h
  ·exact .inr (by omega)
  ·exact .inr (by omega)
  ·exact .inr (by omega)
 ·rintro g (h | h | h | h)
  ·have := hb g h; omega
  ·omega
  ·omega
  ·omega
theorem A32 {k op m : Int} (hop : 1 ≤ op ∧ op ≤ 5) (hm : AW m) (hrg : rgE l) (h : Pts gO lo [⟨px, some l, cur, fin, O1⟩] H n) (hx : Cp px) (hnO : ¬ OU [⟨px, some l, cur, fin, O1⟩] gO) (hO : gO < n) : ACalls Tryz.prog 113 [.agg [aI k, aI op, aI m, .sl 1 va .ro, .sl 5 vb .ro], px] n H (NewS false gO lo ⟨cur, IT (CH op) m l, fin⟩ (OU [⟨px, some l, cur, fin, O1⟩]) n H) := by
 generalize hR : NewS _ _ _ _ _ _ _ = R
 obtain ⟨hraw0, hmon, hb1⟩ := Ce h
 have hxf := hx
 have hb := h.bel
 have hc1 : AD [⟨px, some l, cur, fin, O1⟩] = cur := by simp [AD]
 have hOU : O1 = OU [⟨px, some l, cur, fin, O1⟩] := funext fun g => propext ⟨fun h => .inl h, fun h => h.elim id fun h => h.elim⟩
 have hraw : Raw true gO lo fin px l cur (OU [⟨px, some l, cur, fin, O1⟩]) H n := by rw [← hOU]; exact hraw0
 obtain ⟨ff, fa, fb, rfl⟩ := hx
 refine A2 Tryz.func113 A3d rfl fun hs => ?_
 repeat' (first | simp -implicitDefEqProofs [A5o, -getElem?_pos, splice, -AA] | simp (disch := omega) only [A6] | (with_reducible first | exact AG | refine Db ?_ | intro _g _hg | refine A5 ?_ ?_ | intro _hc) | omega)
 rename_i ga hga gb hgb
 subst hR
 have hrec := Yh (m := m) (k := k) (a := .sl 1 va .ro) (b := .sl 5 vb .ro) hop (show gb ≠ _g by omega) (show ga ≠ _g by omega) l cur m _ (upd (upd (upd (upd H ga (some (Ah k op m (.sl 1 va .ro) (.sl 5 vb .ro)))) gb (some (Bg (.fn ff fa fb)))) _g (some (BW 0))) _g (some (BW m))) (_g + 1) (hraw.at_ (fun g hg => by have := hb g hg; simp (disch := omega) only [upd_ne]) (by omega)) hrg hm hnO (fun g hg => by have := hb g hg; omega) (Bx.new hb hO (by omega) (by omega) (by simp (disch := omega) only [upd_ne, AP] <;> rfl)) (Bx.new hb hO (by omega) (by omega) (by simp (disch := omega) only [upd_ne, AP] <;> rfl)) (Bx.new hb hO (by omega) (by omega) (by simp (disch := omega) only [upd_ne, AP] <;> rfl))
 refine A9 (r := .fn _ [] [.ptr gb 0, .ptr ga 0, .ptr _g 0]) rfl (by omega) (fun k hk => by simp (disch := omega) only [upd_ne]; exact hs k (by omega)) ⟨⟨_, _, _, rfl⟩, by omega, (fun k hk => by simp (disch := omega) only [upd_ne]), (fun k hk => by simp (disch := omega) only [upd_ne]; exact hs k (by omega)), fun g => OU [⟨.fn ff fa fb, some l, cur, fin, O1⟩] g ∨ (g = gb ∨ g = ga ∨ g = _g), ?_, ?_, hrec⟩
 ·rintro g (h | h | h | h)
  ·exact .inl h
  ·exact .inr (by omega)
  ·exact .inr (by omega)
  ·exact .inr (by omega)
 ·rintro g (h | h | h | h)
  ·have := hb g h; omega
  ·omega
  ·omega
  ·omega
theorem YO (hop : 1 ≤ op ∧ op ≤ 5) (hm : 1 ≤ m ∧ m ≤ 8) (hrg : rgE l) (h : Pts gO lo [⟨px, some l, cur, fin, O1⟩] H n) (hx : Cp px) (hnO : ¬ OU [⟨px, some l, cur, fin, O1⟩] gO) (hO : gO < n) : ACalls Tryz.prog 114 [.agg [aI k, aI op, aI (m : Nat), .sl 1 va .ro, .sl 5 vb .ro], px] n H (NewS false gO lo ⟨cur, EB (CH op) m [] l, fin⟩ (OU [⟨px, some l, cur, fin, O1⟩]) n H) := by
 generalize hR : NewS _ _ _ _ _ _ _ = R
 obtain ⟨hraw0, hmon, hb1⟩ := Ce h
 have hxf := hx
 have hb := h.bel
 have hc1 : AD [⟨px, some l, cur, fin, O1⟩] = cur := by simp [AD]
 have hOU : O1 = OU [⟨px, some l, cur, fin, O1⟩] := funext fun g => propext ⟨fun h => .inl h, fun h => h.elim id fun h => h.elim⟩
 have hraw : Raw true gO lo fin px l cur (OU [⟨px, some l, cur, fin, O1⟩]) H n := by rw [← hOU]; exact hraw0
 obtain ⟨ff, fa, fb, rfl⟩ := hx
 have hOT : OT ⟨.fn ff fa fb, some l, cur, fin, O1⟩ .nil = OU [⟨.fn ff fa fb, some l, cur, fin, O1⟩] := funext fun g => propext ⟨fun h => h.elim id fun h => h.elim, .inl⟩
 refine A2 Tryz.func114 A3v rfl fun hs => ?_
 repeat' (first | simp -implicitDefEqProofs [A4l, -getElem?_pos, splice, -AA] | simp (disch := omega) only [A6] | (with_reducible first | exact AG | refine Db ?_ | intro _g _hg | refine A5 ?_ ?_ | intro _hc) | omega)
 rename_i ga hga gb hgb
 subst hR
 have hrec := Tg (k := k) (a := .sl 1 va .ro) (b := .sl 5 vb .ro) hxf hop hm (show _g ≠ ga by omega) (show _g ≠ gb by omega) _ l [] cur 0 .nil O1 _ (upd (upd (upd H ga (some (Ah k op (m : Nat) (.sl 1 va .ro) (.sl 5 vb .ro)))) gb (some (Bg (.fn ff fa fb)))) _g (some (Ht [] 0 .nil))) (_g + 1) (Nat.le_refl _) (h.newB (by omega) (fun k hk => by simp (disch := omega) only [upd_ne])) hOT (fun g h => h.elim) rfl (fun h => absurd rfl h) hnO (by simp) (fun x hx => by cases hx) hrg (Bx.new hb hO (by omega) (by omega) (by simp (disch := omega) only [upd_ne, AP] <;> rfl)) (Bx.new hb hO (by omega) (by omega) (by simp (disch := omega) only [upd_ne, AP] <;> rfl)) (Bx.new hb hO (by omega) (by omega) (by simp (disch := omega) only [upd_ne, AP] <;> rfl))
 simp only [AD, List.append_nil] at hrec
 refine A9 (r := .fn _ [] [.ptr _g 0, .ptr ga 0, .ptr gb 0]) rfl (by omega) (fun k hk => by simp (disch := omega) only [upd_ne]; exact hs k (by omega)) ⟨⟨_, _, _, rfl⟩, by omega, (fun k hk => by simp (disch := omega) only [upd_ne]), (fun k hk => by simp (disch := omega) only [upd_ne]; exact hs k (by omega)), fun g => OU [⟨.fn ff fa fb, some l, cur, fin, O1⟩] g ∨ (g = _g ∨ g = ga ∨ g = gb), ?_, ?_, hrec⟩
 ·rintro g (h | h | h | h)
  ·exact .inl h
  ·exact .inr (by omega)
  ·exact .inr (by omega)
  ·exact .inr (by omega)
 ·rintro g (h | h | h | h)
  ·have := hb g h; omega
  ·omega
  ·omega
  ·omega
end
end Go.Proofs.YtjdccdelcnmocaaGreatDoor
