/- Streams: sources of one part are made: repetitions, and all of them; no condition. -/
import Derived.Test.YtjdccdelcnmocaaGreatDoorMgK
import Derived.Test.YtjdccdelcnmocaaGreatDoorMdO
import Derived.Test.YtjdccdelcnmocaaGreatDoorMdM
set_option linter.all false
set_option maxHeartbeats 2000000
namespace Go.Proofs.YtjdccdelcnmocaaGreatDoor
attribute [local simp] Ng FD FC Lc MV LI Ni FN FF HQ HO Lg MC Nq MZ Ny No NG NY LV LZ M0 MT Ly LJ Tq pe N9 Ld MD Lv N1 Nf Li O7 Mz N4 Mx Mc Ln FU O5 OC Lk Nt NR Na Mr Ma OD Mh LX NT LR Ms MX LN Np N0 Ls LH Lf Ey MY F4 LL Lo OA O0 M9 Nj M4 MF MA MG NF N7 Mt Mi Mo Lw Mq MQ MH Mj N8 Nv Nr Ns Nm FX M1 Nh Mw Lu Mk Md M8 NZ O8 NJ MJ MS Nd M2 Lp NA N5 Mn Lt NQ NX NN MI Nc NW LW NK Mf Mp Nu Ja Ll List.mem_cons guardK EE G9 GK HN LK F3 FL F8 FO FJ FG FQ FY Ez LF ME FV LM MP M7 Lh N3 MM F1 MW NL NV LG LU Lr HS FT FB FS FM Nn M5 FP LQ F9 Lj F6 FA Nz F5 F2 Lq My ND NU NH MB Lm OB Tt KK Ki Hc KI Ju K7 Eb Gt HA MN Gm Gu EZ ED Wm Jx Kn Gq Ji Js E5 Dd BZ B9 CA DW AA ev get put Fc AC EC Mb MK Lx O4 KL NP Eu part B8 HY N2 HB isNil DA DG Dz DK DH NO O6 OF NS M3 Ke LY Mu Nl MR OE Nk Nb LT Nw Mv AV.fits AV.cells ones AV.one EP Bw EN DX Fb Ev Mm Fy GE CW Bd CB F7 GI AP BD Xd HU N6 Me List.getElem?_cons_zero List.getElem?_cons_succ FW FH F0 NB NM NI HW Ml MO NE Lz ML M6 Mg MU Nx O9 LP
section
variable {gO lo n : Nat} {fin cur : AQ} {px : AV} {l : Ad} {O1 : Nat → Prop} {H : A1}
theorem W4 (h : Pts gO lo [⟨px, some l, cur, fin, O1⟩] H n) (hx : Cp px) (hnO : ¬ OU [⟨px, some l, cur, fin, O1⟩] gO) (hO : gO < n) : ACalls Tryz.prog 117 [aI 0, px] n H (NewS false gO lo ⟨cur, [], cur⟩ (OU [⟨px, some l, cur, fin, O1⟩]) n H) := by
 generalize hR : NewS _ _ _ _ _ _ _ = R
 obtain ⟨hraw0, hmon, hb1⟩ := Ce h
 have hxf := hx
 have hb := h.bel
 have hc1 : AD [⟨px, some l, cur, fin, O1⟩] = cur := by simp [AD]
 have hOU : O1 = OU [⟨px, some l, cur, fin, O1⟩] := funext fun g => propext ⟨fun h => .inl h, fun h => h.elim id fun h => h.elim⟩
 have hraw : Raw true gO lo fin px l cur (OU [⟨px, some l, cur, fin, O1⟩]) H n := by rw [← hOU]; exact hraw0
 obtain ⟨ff, fa, fb, rfl⟩ := hx
 refine A2 Tryz.func117 Zh rfl fun hs => ?_
 repeat' (first | simp -implicitDefEqProofs [A2n, -getElem?_pos, splice, -AA] | simp (disch := omega) only [A6] | (with_reducible first | exact AG | refine Db ?_ | intro _g _hg | refine A5 ?_ ?_ | intro _hc) | omega)
 rename_i ga hga gb hgb gc hgc
 subst hR
 have hrec := S8 (gO := gO) (lo := lo) (g1 := ga) (g2 := _g) (g3 := gb) (g4 := gc) (a := BW (-1)) (b := Bg (.fn ff fa fb)) (c := Ht [] 0 .nil) cur _ (upd (upd (upd (upd (upd H ga (some (BW (0)))) gb (some (Bg (.fn ff fa fb)))) gc (some (Ht [] 0 .nil))) _g (some (BW 0))) _g (some (BW (-1)))) (_g + 1) hnO (fun g hg => by have := hb g hg; omega) (Bx.new hb hO (by omega) (by omega) (by simp (disch := omega) only [upd_ne, AP] <;> rfl)) (Bx.new hb hO (by omega) (by omega) (by simp (disch := omega) only [upd_ne, AP] <;> rfl)) (Bx.new hb hO (by omega) (by omega) (by simp (disch := omega) only [upd_ne, AP] <;> rfl)) (Bx.new hb hO (by omega) (by omega) (by simp (disch := omega) only [upd_ne, AP] <;> rfl))
 refine A9 (r := .fn _ [] [.ptr ga 0, .ptr _g 0, .ptr gb 0, .ptr gc 0]) rfl (by omega) (fun k hk => by simp (disch := omega) only [upd_ne]; exact hs k (by omega)) ⟨⟨_, _, _, rfl⟩, by omega, (fun k hk => by simp (disch := omega) only [upd_ne]), (fun k hk => by simp (disch := omega) only [upd_ne]; exact hs k (by omega)), fun g => OU [⟨.fn ff fa fb, some l, cur, fin, O1⟩] g ∨ (g = ga ∨ g = _g ∨ g = gb ∨ g = gc), ?_, ?_, hrec⟩
 ·rintro g (h | h | h | h | h)
  ·exact .inl h
  ·exact .inr (by omega)
  ·exact .inr (by omega)
  ·exact .inr (by omega)
  ·exact .inr (by omega)
 ·rintro g (h | h | h | h | h)
  ·have := hb g h; omega
  ·omega
  ·omega
  ·omega
  ·omega
theorem XQ {m : Nat} (hm : 1 ≤ m ∧ m ≤ 20) (hl : l.length ≤ 5000) (h : Pts gO lo [⟨px, some l, cur, fin, O1⟩] H n) (hx : Cp px) (hnO : ¬ OU [⟨px, some l, cur, fin, O1⟩] gO) (hO : gO < n) : ACalls Tryz.prog 117 [aI m, px] n H (NewS false gO lo ⟨cur, l ++ DJ (l.map (·.1)) fin (m - 1), fin⟩ (OU [⟨px, some l, cur, fin, O1⟩]) n H) := by
 generalize hR : NewS _ _ _ _ _ _ _ = R
 obtain ⟨hraw0, hmon, hb1⟩ := Ce h
 have hxf := hx
 have hb := h.bel
 have hc1 : AD [⟨px, some l, cur, fin, O1⟩] = cur := by simp [AD]
 have hOU : O1 = OU [⟨px, some l, cur, fin, O1⟩] := funext fun g => propext ⟨fun h => .inl h, fun h => h.elim id fun h => h.elim⟩
 have hraw : Raw true gO lo fin px l cur (OU [⟨px, some l, cur, fin, O1⟩]) H n := by rw [← hOU]; exact hraw0
 obtain ⟨ff, fa, fb, rfl⟩ := hx
 have hOT : (fun g => OU [⟨.fn ff fa fb, some l, cur, fin, O1⟩] g ∨ Bt .nil g) = OU [⟨.fn ff fa fb, some l, cur, fin, O1⟩] := funext fun g => propext ⟨fun h => h.elim id fun h => h.elim, .inl⟩
 refine A2 Tryz.func117 Zh rfl fun hs => ?_
 repeat' (first | simp -implicitDefEqProofs [A2n, -getElem?_pos, splice, -AA] | simp (disch := omega) only [A6] | (with_reducible first | exact AG | refine Db ?_ | intro _g _hg | refine A5 ?_ ?_ | intro _hc) | omega)
 rename_i ga hga gb hgb gc hgc
 subst hR
 have hrec := UE hxf (show ga ≠ _g by omega) (show ga ≠ gb by omega) (show ga ≠ gc by omega) (show _g ≠ gb by omega) (show _g ≠ gc by omega) (show gb ≠ gc by omega) hm l [] cur 0 .nil O1 _ (upd (upd (upd (upd (upd H ga (some (BW (m)))) gb (some (Bg (.fn ff fa fb)))) gc (some (Ht [] 0 .nil))) _g (some (BW 0))) _g (some (BW (-1)))) (_g + 1) (by simpa using hl) (h.newB (by omega) (fun k hk => by simp (disch := omega) only [upd_ne])) hOT (fun g h => h.elim) rfl (.inr ⟨rfl, rfl⟩) hnO (Bx.new hb hO (by omega) (by omega) (by simp (disch := omega) only [upd_ne, AP] <;> rfl)) (Bx.new hb hO (by omega) (by omega) (by simp (disch := omega) only [upd_ne, AP] <;> rfl)) (Bx.new hb hO (by omega) (by omega) (by simp (disch := omega) only [upd_ne, AP] <;> rfl)) (Bx.new hb hO (by omega) (by omega) (by simp (disch := omega) only [upd_ne, AP] <;> rfl))
 simp only [AD, List.append_nil] at hrec
 rw [List.nil_append] at hrec
 refine A9 (r := .fn _ [] [.ptr ga 0, .ptr _g 0, .ptr gb 0, .ptr gc 0]) rfl (by omega) (fun k hk => by simp (disch := omega) only [upd_ne]; exact hs k (by omega)) ⟨⟨_, _, _, rfl⟩, by omega, (fun k hk => by simp (disch := omega) only [upd_ne]), (fun k hk => by simp (disch := omega) only [upd_ne]; exact hs k (by omega)), fun g => OU [⟨.fn ff fa fb, some l, cur, fin, O1⟩] g ∨ (g = ga ∨ g = _g ∨ g = gb ∨ g = gc), ?_, ?_, hrec⟩
 ·rintro g (h | h | h | h | h)
  ·exact .inl h
  ·exact .inr (by omega)
  ·exact .inr (by omega)
  ·exact .inr (by omega)
  ·exact .inr (by omega)
 ·rintro g (h | h | h | h | h)
  ·have := hb g h; omega
  ·omega
  ·omega
  ·omega
  ·omega
theorem NewS.up {e : Bool} {F : Fut} {O : Nat → Prop} {n1 n' : Nat} {H1 H' : A1} {r : AV} (h : NewS e gO lo F O n1 H1 r n' H') (hn : n ≤ n1) (hs : SameB n H H1) : NewS e gO lo F O n H r n' H' := by
 obtain ⟨h1, h2, h3, h4, O', h5, h6, h7⟩ := h
 exact ⟨h1, by omega, fun k hk => (h3 k (by omega)).trans (hs k hk), h4, O', fun g hg => (h5 g hg).imp id (fun h => by omega), h6, h7⟩
theorem Wx {op m : Int} {va vb : List AV} (hop : 1 ≤ op ∧ op ≤ 6) (hm : AW m) (h6 : op = 6 → 1 ≤ m) (hrg : rgE l) (h : Pts gO lo [⟨px, some l, cur, fin, O1⟩] H n) (hx : Cp px) (hnO : ¬ OU [⟨px, some l, cur, fin, O1⟩] gO) (hO : gO < n) : ACalls Tryz.prog 77 [.agg [aI 3, aI op, aI m, .sl 1 va .ro, .sl 5 vb .ro], px] n H (NewS false gO lo ⟨cur, l.map fun e => (CH op e.1 m, e.2), fin⟩ (OU [⟨px, some l, cur, fin, O1⟩]) n H) := by
 generalize hR : NewS _ _ _ _ _ _ _ = R
 obtain ⟨hraw0, hmon, hb1⟩ := Ce h
 have hxf := hx
 have hb := h.bel
 have hc1 : AD [⟨px, some l, cur, fin, O1⟩] = cur := by simp [AD]
 have hOU : O1 = OU [⟨px, some l, cur, fin, O1⟩] := funext fun g => propext ⟨fun h => .inl h, fun h => h.elim id fun h => h.elim⟩
 have hraw : Raw true gO lo fin px l cur (OU [⟨px, some l, cur, fin, O1⟩]) H n := by rw [← hOU]; exact hraw0
 obtain ⟨ff, fa, fb, rfl⟩ := hx
 refine A2 Tryz.func77 Hh rfl fun hs => ?_
 repeat' (first | simp -implicitDefEqProofs [Cb, Cm, Cn, Cg, Ck, Cf, Cc, Ch, Cd, Bo, Xc, -getElem?_pos, splice, -AA] | simp (disch := omega) only [A6] | (with_reducible first | exact AG | refine Db ?_ | intro _g _hg | refine A5 ?_ ?_ | intro _hc) | omega)
 rename_i ga hga
 subst hR
 have hrec := A0h (g1 := _g) (g2 := ga) (k := 3) (a := .sl 1 va .ro) (b := .sl 5 vb .ro) hop hm h6 l cur _ (upd (upd H ga (some (Ah 3 op m (.sl 1 va .ro) (.sl 5 vb .ro)))) _g (some (Bg (.fn ff fa fb)))) (_g + 1) (hraw.at_ (fun g hg => by have := hb g hg; simp (disch := omega) only [upd_ne]) (by omega)) hrg hnO (fun g hg => by have := hb g hg; omega) (Bx.new hb hO (by omega) (by omega) (by simp (disch := omega) only [upd_ne, AP] <;> rfl)) (Bx.new hb hO (by omega) (by omega) (by simp (disch := omega) only [upd_ne, AP] <;> rfl))
 refine A9 (r := .fn _ [] [.ptr _g 0, .ptr ga 0]) rfl (by omega) (fun k hk => by simp (disch := omega) only [upd_ne]; exact hs k (by omega)) ⟨⟨_, _, _, rfl⟩, by omega, (fun k hk => by simp (disch := omega) only [upd_ne]), (fun k hk => by simp (disch := omega) only [upd_ne]; exact hs k (by omega)), fun g => OU [⟨.fn ff fa fb, some l, cur, fin, O1⟩] g ∨ (g = _g ∨ g = ga), ?_, ?_, hrec⟩
 ·rintro g (h | h | h)
  ·exact .inl h
  ·exact .inr (by omega)
  ·exact .inr (by omega)
 ·rintro g (h | h | h)
  ·have := hb g h; omega
  ·omega
  ·omega
theorem W9 {op m : Int} {va vb : List AV} (hop : 1 ≤ op ∧ op ≤ 3) (hm : AW m) (h3 : op = 3 → 1 ≤ m) (hrg : rgE l) (h : Pts gO lo [⟨px, some l, cur, fin, O1⟩] H n) (hx : Cp px) (hnO : ¬ OU [⟨px, some l, cur, fin, O1⟩] gO) (hO : gO < n) : ACalls Tryz.prog 77 [.agg [aI 4, aI op, aI m, .sl 1 va .ro, .sl 5 vb .ro], px] n H (NewS false gO lo ⟨cur, l.filter fun e => FE op e.1 m, fin⟩ (OU [⟨px, some l, cur, fin, O1⟩]) n H) := by
 generalize hR : NewS _ _ _ _ _ _ _ = R
 obtain ⟨hraw0, hmon, hb1⟩ := Ce h
 have hxf := hx
 have hb := h.bel
 have hc1 : AD [⟨px, some l, cur, fin, O1⟩] = cur := by simp [AD]
 have hOU : O1 = OU [⟨px, some l, cur, fin, O1⟩] := funext fun g => propext ⟨fun h => .inl h, fun h => h.elim id fun h => h.elim⟩
 have hraw : Raw true gO lo fin px l cur (OU [⟨px, some l, cur, fin, O1⟩]) H n := by rw [← hOU]; exact hraw0
 obtain ⟨ff, fa, fb, rfl⟩ := hx
 refine A2 Tryz.func77 Hh rfl fun hs => ?_
 repeat' (first | simp -implicitDefEqProofs [Cb, Cm, Cn, Cg, Ck, Cf, Cc, Ch, Cd, Bo, Xc, -getElem?_pos, splice, -AA] | simp (disch := omega) only [A6] | (with_reducible first | exact AG | refine Db ?_ | intro _g _hg | refine A5 ?_ ?_ | intro _hc) | omega)
 rename_i ga hga
 subst hR
 have hrec := UD (g1 := _g) (g2 := ga) (k := 4) (a := .sl 1 va .ro) (b := .sl 5 vb .ro) hop hm h3 hxf _ l cur O1 _ (upd (upd H ga (some (Ah 4 op m (.sl 1 va .ro) (.sl 5 vb .ro)))) _g (some (Bg (.fn ff fa fb)))) (_g + 1) (Nat.le_refl _) (h.newB (by omega) (fun k hk => by simp (disch := omega) only [upd_ne])) rfl hrg hnO (Bx.new hb hO (by omega) (by omega) (by simp (disch := omega) only [upd_ne, AP] <;> rfl)) (Bx.new hb hO (by omega) (by omega) (by simp (disch := omega) only [upd_ne, AP] <;> rfl))
 simp only [AD, List.append_nil] at hrec
 refine A9 (r := .fn _ [] [.ptr _g 0, .ptr ga 0]) rfl (by omega) (fun k hk => by simp (disch := omega) only [upd_ne]; exact hs k (by omega)) ⟨⟨_, _, _, rfl⟩, by omega, (fun k hk => by simp (disch := omega) only [upd_ne]), (fun k hk => by simp (disch := omega) only [upd_ne]; exact hs k (by omega)), fun g => OU [⟨.fn ff fa fb, some l, cur, fin, O1⟩] g ∨ (g = _g ∨ g = ga), ?_, ?_, hrec⟩
 ·rintro g (h | h | h)
  ·exact .inl h
  ·exact .inr (by omega)
  ·exact .inr (by omega)
 ·rintro g (h | h | h)
  ·have := hb g h; omega
  ·omega
  ·omega
theorem XY {op m : Int} {va vb : List AV} (hop : 1 ≤ op ∧ op ≤ 3) (hm : AW m) (h3 : op = 3 → 1 ≤ m) (hrg : rgE l) (h : Pts gO lo [⟨px, some l, cur, fin, O1⟩] H n) (hx : Cp px) (hnO : ¬ OU [⟨px, some l, cur, fin, O1⟩] gO) (hO : gO < n) : ACalls Tryz.prog 77 [.agg [aI 7, aI op, aI m, .sl 1 va .ro, .sl 5 vb .ro], px] n H (NewS false gO lo ⟨cur, (Di (fun x => FE op x m) l fin).1, (Di (fun x => FE op x m) l fin).2⟩ (OU [⟨px, some l, cur, fin, O1⟩]) n H) := by
 generalize hR : NewS _ _ _ _ _ _ _ = R
 obtain ⟨hraw0, hmon, hb1⟩ := Ce h
 have hxf := hx
 have hb := h.bel
 have hc1 : AD [⟨px, some l, cur, fin, O1⟩] = cur := by simp [AD]
 have hOU : O1 = OU [⟨px, some l, cur, fin, O1⟩] := funext fun g => propext ⟨fun h => .inl h, fun h => h.elim id fun h => h.elim⟩
 have hraw : Raw true gO lo fin px l cur (OU [⟨px, some l, cur, fin, O1⟩]) H n := by rw [← hOU]; exact hraw0
 obtain ⟨ff, fa, fb, rfl⟩ := hx
 refine A2 Tryz.func77 Hh rfl fun hs => ?_
 repeat' (first | simp -implicitDefEqProofs [Cb, Cm, Cn, Cg, Ck, Cf, Cc, Ch, Cd, Bo, Xc, -getElem?_pos, splice, -AA] | simp (disch := omega) only [A6] | (with_reducible first | exact AG | refine Db ?_ | intro _g _hg | refine A5 ?_ ?_ | intro _hc) | omega)
 rename_i ga hga
 subst hR
 have hrec := WL (g1 := _g) (g2 := ga) (k := 7) (a := .sl 1 va .ro) (b := .sl 5 vb .ro) hop hm h3 l cur _ (upd (upd H ga (some (Ah 7 op m (.sl 1 va .ro) (.sl 5 vb .ro)))) _g (some (Bg (.fn ff fa fb)))) (_g + 1) (hraw.at_ (fun g hg => by have := hb g hg; simp (disch := omega) only [upd_ne]) (by omega)) hrg hnO (fun g hg => by have := hb g hg; omega) (Bx.new hb hO (by omega) (by omega) (by simp (disch := omega) only [upd_ne, AP] <;> rfl)) (Bx.new hb hO (by omega) (by omega) (by simp (disch := omega) only [upd_ne, AP] <;> rfl))
 refine A9 (r := .fn _ [] [.ptr _g 0, .ptr ga 0]) rfl (by omega) (fun k hk => by simp (disch := omega) only [upd_ne]; exact hs k (by omega)) ⟨⟨_, _, _, rfl⟩, by omega, (fun k hk => by simp (disch := omega) only [upd_ne]), (fun k hk => by simp (disch := omega) only [upd_ne]; exact hs k (by omega)), fun g => OU [⟨.fn ff fa fb, some l, cur, fin, O1⟩] g ∨ (g = _g ∨ g = ga), ?_, ?_, hrec⟩
 ·rintro g (h | h | h)
  ·exact .inl h
  ·exact .inr (by omega)
  ·exact .inr (by omega)
 ·rintro g (h | h | h)
  ·have := hb g h; omega
  ·omega
  ·omega
theorem UU {op m : Int} {va vb : List AV} (hrg : rgE l) (h : Pts gO lo [⟨px, some l, cur, fin, O1⟩] H n) (hx : Cp px) (hnO : ¬ OU [⟨px, some l, cur, fin, O1⟩] gO) (hO : gO < n) : ACalls Tryz.prog 77 [.agg [aI 11, aI op, aI m, .sl 1 va .ro, .sl 5 vb .ro], px] n H (NewS false gO lo ⟨cur, GB (-1) l, fin⟩ (OU [⟨px, some l, cur, fin, O1⟩]) n H) := by
 generalize hR : NewS _ _ _ _ _ _ _ = R
 obtain ⟨hraw0, hmon, hb1⟩ := Ce h
 have hxf := hx
 have hb := h.bel
 have hc1 : AD [⟨px, some l, cur, fin, O1⟩] = cur := by simp [AD]
 have hOU : O1 = OU [⟨px, some l, cur, fin, O1⟩] := funext fun g => propext ⟨fun h => .inl h, fun h => h.elim id fun h => h.elim⟩
 have hraw : Raw true gO lo fin px l cur (OU [⟨px, some l, cur, fin, O1⟩]) H n := by rw [← hOU]; exact hraw0
 obtain ⟨ff, fa, fb, rfl⟩ := hx
 refine A2 Tryz.func77 Hh rfl fun hs => ?_
 repeat' (first | simp -implicitDefEqProofs [Cb, Cm, Cn, Cg, Ck, Cf, Cc, Ch, Cd, Bo, Xc, -getElem?_pos, splice, -AA] | simp (disch := omega) only [A6] | (with_reducible first | exact AG | refine Db ?_ | intro _g _hg | refine A5 ?_ ?_ | intro _hc) | omega)
 rename_i ga hga gb hgb
 subst hR
 have hrec := ZT hxf (show gb ≠ _g by omega) _ (-1) l cur O1 _ (upd (upd (upd (upd H ga (some (Ah 11 op m (.sl 1 va .ro) (.sl 5 vb .ro)))) gb (some (Bg (.fn ff fa fb)))) _g (some (BW 0))) _g (some (BW (-1)))) (_g + 1) (Nat.le_refl _) (h.newB (by omega) (fun k hk => by simp (disch := omega) only [upd_ne])) rfl hrg hnO (Bx.new hb hO (by omega) (by omega) (by simp (disch := omega) only [upd_ne, AP] <;> rfl)) (Bx.new hb hO (by omega) (by omega) (by simp (disch := omega) only [upd_ne, AP] <;> rfl))
 simp only [AD, List.append_nil] at hrec
 refine A9 (r := .fn _ [] [.ptr gb 0, .ptr _g 0]) rfl (by omega) (fun k hk => by simp (disch := omega) only [upd_ne]; exact hs k (by omega)) ⟨⟨_, _, _, rfl⟩, by omega, (fun k hk => by simp (disch := omega) only [upd_ne]), (fun k hk => by simp (disch := omega) only [upd_ne]; exact hs k (by omega)), fun g => OU [⟨.fn ff fa fb, some l, cur, fin, O1⟩] g ∨ (g = gb ∨ g = _g), ?_, ?_, hrec⟩
 ·rintro g (h | h | h)
  ·exact .inl h
  ·exact .inr (by omega)
  ·exact .inr (by omega)
 ·rintro g (h | h | h)
  ·have := hb g h; omega
  ·omega
  ·omega
theorem Vn {op m : Int} {va vb : List AV} {j : Nat} (hm : j ≤ 5000) (h : Pts gO lo [⟨px, some l, cur, fin, O1⟩] H n) (hx : Cp px) (hnO : ¬ OU [⟨px, some l, cur, fin, O1⟩] gO) (hO : gO < n) : ACalls Tryz.prog 77 [.agg [aI 5, aI op, aI (j : Nat), .sl 1 va .ro, .sl 5 vb .ro], px] n H (NewS false gO lo ⟨cur, (Da j cur l fin).1, (Da j cur l fin).2⟩ (OU [⟨px, some l, cur, fin, O1⟩]) n H) := by
 generalize hR : NewS _ _ _ _ _ _ _ = R
 have hxf := hx
 have hb := h.bel
 obtain ⟨ff, fa, fb, rfl⟩ := hx
 refine A2 Tryz.func77 Hh rfl fun hs => ?_
 repeat' (first | simp -implicitDefEqProofs [Cb, Cm, Cn, Cg, Ck, Cf, Cc, Ch, Cd, Bo, Xc, -getElem?_pos, splice, -AA] | simp (disch := omega) only [A6] | ((with_reducible refine B0 109 ?_); refine ⟨_, A2v (gO := gO) (lo := lo) hm (h.newB (by dsimp only; omega) (fun k hk => by simp (disch := omega) only [upd_ne])) hxf hnO (by dsimp only; omega), ?_⟩; rintro r n' H' hle hsup hpost) | (with_reducible first | exact AG | refine Db ?_ | intro _g _hg | refine A5 ?_ ?_ | intro _hc) | omega)
 rename_i ga hga
 subst hR
 dsimp only at hle hpost
 have hp2 := hpost.up (n := n) (H := H) (by omega) (fun k hk => by simp (disch := omega) only [upd_ne])
 exact A9 rfl hp2.2.1 hsup hp2
theorem WT {op m : Int} {va vb : List AV} {j : Nat} (hm : j ≤ 5000) (h : Pts gO lo [⟨px, some l, cur, fin, O1⟩] H n) (hx : Cp px) (hnO : ¬ OU [⟨px, some l, cur, fin, O1⟩] gO) (hO : gO < n) : ACalls Tryz.prog 77 [.agg [aI 6, aI op, aI (j : Nat), .sl 1 va .ro, .sl 5 vb .ro], px] n H (NewS false gO lo ⟨cur, l.drop j, fin⟩ (OU [⟨px, some l, cur, fin, O1⟩]) n H) := by
 generalize hR : NewS _ _ _ _ _ _ _ = R
 have hxf := hx
 have hb := h.bel
 obtain ⟨ff, fa, fb, rfl⟩ := hx
 refine A2 Tryz.func77 Hh rfl fun hs => ?_
 repeat' (first | simp -implicitDefEqProofs [Cb, Cm, Cn, Cg, Ck, Cf, Cc, Ch, Cd, Bo, Xc, -getElem?_pos, splice, -AA] | simp (disch := omega) only [A6] | ((with_reducible refine B0 110 ?_); refine ⟨_, A47 (gO := gO) (lo := lo) hm (h.newB (by dsimp only; omega) (fun k hk => by simp (disch := omega) only [upd_ne])) hxf hnO (by dsimp only; omega), ?_⟩; rintro r n' H' hle hsup hpost) | (with_reducible first | exact AG | refine Db ?_ | intro _g _hg | refine A5 ?_ ?_ | intro _hc) | omega)
 rename_i ga hga
 subst hR
 dsimp only at hle hpost
 have hp2 := hpost.up (n := n) (H := H) (by omega) (fun k hk => by simp (disch := omega) only [upd_ne])
 exact A9 rfl hp2.2.1 hsup hp2
theorem Wv {op m : Int} {va vb : List AV} (hop : 1 ≤ op ∧ op ≤ 3) (hm : AW m) (h3 : op = 3 → 1 ≤ m) (hrg : rgE l) (h : Pts gO lo [⟨px, some l, cur, fin, O1⟩] H n) (hx : Cp px) (hnO : ¬ OU [⟨px, some l, cur, fin, O1⟩] gO) (hO : gO < n) : ACalls Tryz.prog 77 [.agg [aI 8, aI op, aI m, .sl 1 va .ro, .sl 5 vb .ro], px] n H (NewS false gO lo ⟨cur, GG (fun x => FE op x m) l, fin⟩ (OU [⟨px, some l, cur, fin, O1⟩]) n H) := by
 generalize hR : NewS _ _ _ _ _ _ _ = R
 have hxf := hx
 have hb := h.bel
 obtain ⟨ff, fa, fb, rfl⟩ := hx
 refine A2 Tryz.func77 Hh rfl fun hs => ?_
 repeat' (first | simp -implicitDefEqProofs [Cb, Cm, Cn, Cg, Ck, Cf, Cc, Ch, Cd, Bo, Xc, -getElem?_pos, splice, -AA] | simp (disch := omega) only [A6] | ((with_reducible refine B0 112 ?_); refine ⟨_, A36 (gO := gO) (lo := lo) (k := 8) (va := va) (vb := vb) hop hm h3 hrg (h.newB (by dsimp only; omega) (fun k hk => by simp (disch := omega) only [upd_ne])) hxf hnO (by dsimp only; omega), ?_⟩; rintro r n' H' hle hsup hpost) | (with_reducible first | exact AG | refine Db ?_ | intro _g _hg | refine A5 ?_ ?_ | intro _hc) | omega)
 rename_i ga hga
 subst hR
 dsimp only at hle hpost
 have hp2 := hpost.up (n := n) (H := H) (by omega) (fun k hk => by simp (disch := omega) only [upd_ne])
 exact A9 rfl hp2.2.1 hsup hp2
theorem Wb {op m : Int} {va vb : List AV} (hop : 1 ≤ op ∧ op ≤ 5) (hm : AW m) (hrg : rgE l) (h : Pts gO lo [⟨px, some l, cur, fin, O1⟩] H n) (hx : Cp px) (hnO : ¬ OU [⟨px, some l, cur, fin, O1⟩] gO) (hO : gO < n) : ACalls Tryz.prog 77 [.agg [aI 9, aI op, aI m, .sl 1 va .ro, .sl 5 vb .ro], px] n H (NewS false gO lo ⟨cur, IT (CH op) m l, fin⟩ (OU [⟨px, some l, cur, fin, O1⟩]) n H) := by
 generalize hR : NewS _ _ _ _ _ _ _ = R
 have hxf := hx
 have hb := h.bel
 obtain ⟨ff, fa, fb, rfl⟩ := hx
 refine A2 Tryz.func77 Hh rfl fun hs => ?_
 repeat' (first | simp -implicitDefEqProofs [Cb, Cm, Cn, Cg, Ck, Cf, Cc, Ch, Cd, Bo, Xc, -getElem?_pos, splice, -AA] | simp (disch := omega) only [A6] | ((with_reducible refine B0 113 ?_); refine ⟨_, A32 (gO := gO) (lo := lo) (k := 9) (va := va) (vb := vb) hop hm hrg (h.newB (by dsimp only; omega) (fun k hk => by simp (disch := omega) only [upd_ne])) hxf hnO (by dsimp only; omega), ?_⟩; rintro r n' H' hle hsup hpost) | (with_reducible first | exact AG | refine Db ?_ | intro _g _hg | refine A5 ?_ ?_ | intro _hc) | omega)
 rename_i ga hga
 subst hR
 dsimp only at hle hpost
 have hp2 := hpost.up (n := n) (H := H) (by omega) (fun k hk => by simp (disch := omega) only [upd_ne])
 exact A9 rfl hp2.2.1 hsup hp2
theorem UQ {op m : Int} {va vb : List AV} {j : Nat} (hop : 1 ≤ op ∧ op ≤ 5) (hm : 1 ≤ j ∧ j ≤ 8) (hrg : rgE l) (h : Pts gO lo [⟨px, some l, cur, fin, O1⟩] H n) (hx : Cp px) (hnO : ¬ OU [⟨px, some l, cur, fin, O1⟩] gO) (hO : gO < n) : ACalls Tryz.prog 77 [.agg [aI 10, aI op, aI (j : Nat), .sl 1 va .ro, .sl 5 vb .ro], px] n H (NewS false gO lo ⟨cur, EB (CH op) j [] l, fin⟩ (OU [⟨px, some l, cur, fin, O1⟩]) n H) := by
 generalize hR : NewS _ _ _ _ _ _ _ = R
 have hxf := hx
 have hb := h.bel
 obtain ⟨ff, fa, fb, rfl⟩ := hx
 refine A2 Tryz.func77 Hh rfl fun hs => ?_
 repeat' (first | simp -implicitDefEqProofs [Cb, Cm, Cn, Cg, Ck, Cf, Cc, Ch, Cd, Bo, Xc, -getElem?_pos, splice, -AA] | simp (disch := omega) only [A6] | ((with_reducible refine B0 114 ?_); refine ⟨_, YO (gO := gO) (lo := lo) (k := 10) (va := va) (vb := vb) hop hm hrg (h.newB (by dsimp only; omega) (fun k hk => by simp (disch := omega) only [upd_ne])) hxf hnO (by dsimp only; omega), ?_⟩; rintro r n' H' hle hsup hpost) | (with_reducible first | exact AG | refine Db ?_ | intro _g _hg | refine A5 ?_ ?_ | intro _hc) | omega)
 rename_i ga hga
 subst hR
 dsimp only at hle hpost
 have hp2 := hpost.up (n := n) (H := H) (by omega) (fun k hk => by simp (disch := omega) only [upd_ne])
 exact A9 rfl hp2.2.1 hsup hp2
theorem SA {op m : Int} {va vb : List AV}  (h : Pts gO lo [⟨px, some l, cur, fin, O1⟩] H n) (hx : Cp px) (hnO : ¬ OU [⟨px, some l, cur, fin, O1⟩] gO) (hO : gO < n) : ACalls Tryz.prog 77 [.agg [aI 12, aI op, aI 0, .sl 1 va .ro, .sl 5 vb .ro], px] n H (NewS false gO lo ⟨cur, [], cur⟩ (OU [⟨px, some l, cur, fin, O1⟩]) n H) := by
 generalize hR : NewS _ _ _ _ _ _ _ = R
 have hxf := hx
 have hb := h.bel
 obtain ⟨ff, fa, fb, rfl⟩ := hx
 refine A2 Tryz.func77 Hh rfl fun hs => ?_
 repeat' (first | simp -implicitDefEqProofs [Cb, Cm, Cn, Cg, Ck, Cf, Cc, Ch, Cd, Bo, Xc, -getElem?_pos, splice, -AA] | simp (disch := omega) only [A6] | ((with_reducible refine B0 117 ?_); refine ⟨_, W4 (gO := gO) (lo := lo) (h.newB (by dsimp only; omega) (fun k hk => by simp (disch := omega) only [upd_ne])) hxf hnO (by dsimp only; omega), ?_⟩; rintro r n' H' hle hsup hpost) | (with_reducible first | exact AG | refine Db ?_ | intro _g _hg | refine A5 ?_ ?_ | intro _hc) | omega)
 rename_i ga hga
 subst hR
 dsimp only at hle hpost
 have hp2 := hpost.up (n := n) (H := H) (by omega) (fun k hk => by simp (disch := omega) only [upd_ne])
 exact A9 rfl hp2.2.1 hsup hp2
theorem Tr {op m : Int} {va vb : List AV} {j : Nat} (hm : 1 ≤ j ∧ j ≤ 20) (hl : l.length ≤ 5000) (h : Pts gO lo [⟨px, some l, cur, fin, O1⟩] H n) (hx : Cp px) (hnO : ¬ OU [⟨px, some l, cur, fin, O1⟩] gO) (hO : gO < n) : ACalls Tryz.prog 77 [.agg [aI 12, aI op, aI (j : Nat), .sl 1 va .ro, .sl 5 vb .ro], px] n H (NewS false gO lo ⟨cur, l ++ DJ (l.map (·.1)) fin (j - 1), fin⟩ (OU [⟨px, some l, cur, fin, O1⟩]) n H) := by
 generalize hR : NewS _ _ _ _ _ _ _ = R
 have hxf := hx
 have hb := h.bel
 obtain ⟨ff, fa, fb, rfl⟩ := hx
 refine A2 Tryz.func77 Hh rfl fun hs => ?_
 repeat' (first | simp -implicitDefEqProofs [Cb, Cm, Cn, Cg, Ck, Cf, Cc, Ch, Cd, Bo, Xc, -getElem?_pos, splice, -AA] | simp (disch := omega) only [A6] | ((with_reducible refine B0 117 ?_); refine ⟨_, XQ (gO := gO) (lo := lo) hm hl (h.newB (by dsimp only; omega) (fun k hk => by simp (disch := omega) only [upd_ne])) hxf hnO (by dsimp only; omega), ?_⟩; rintro r n' H' hle hsup hpost) | (with_reducible first | exact AG | refine Db ?_ | intro _g _hg | refine A5 ?_ ?_ | intro _hc) | omega)
 rename_i ga hga
 subst hR
 dsimp only at hle hpost
 have hp2 := hpost.up (n := n) (H := H) (by omega) (fun k hk => by simp (disch := omega) only [upd_ne])
 exact A9 rfl hp2.2.1 hsup hp2
end
theorem A1q (ps : List Pt) : U0 [] ps = ((BU (ps.map Pt.fut)).l, (BU (ps.map Pt.fut)).fin) := by simp [U0, AD]
section
variable {gO lo n : Nat} {H : A1}
theorem A00 {ps : List Pt} (h : Pts gO lo ps H n) (hall : JM ps) (hnO : ¬ OU ps gO) (hO : gO < n) (h60 : ps.length ≤ 60) : ACalls Tryz.prog 73 [.sl 1 (ps.map Pt.x) .ro] n H (NewS false gO lo (BU (ps.map Pt.fut)) (OU ps) n H) := by
 generalize hR : NewS _ _ _ _ _ _ _ = R
 have hb := h.bel
 refine A2 Tryz.func73 A4k rfl fun hs => ?_
 repeat' (first | simp -implicitDefEqProofs [c73, -getElem?_pos, splice, -AA] | simp (disch := omega) only [A6] | (with_reducible first | exact AG | refine Db ?_ | intro _g _hg | refine A5 ?_ ?_ | intro _hc) | omega)
 subst hR
 have hrec := Wu (g1 := _g) (gO := gO) (lo := lo) _ [] ps _ (upd H _g (some (EU ps))) (_g + 1) (Nat.le_refl _) (h.newB (by omega) (fun k hk => by simp (disch := omega) only [upd_ne])) rfl hall hnO (Bx.new hb hO (by omega) (by omega) (by simp (disch := omega) only [upd_ne, AP] <;> rfl)) h60
 rw [A1q] at hrec
 simp only [List.nil_append] at hrec
 rw [← OG] at hrec
 refine A9 (r := .fn _ [] [.ptr _g 0]) rfl (by omega) (fun k hk => by simp (disch := omega) only [upd_ne]; exact hs k (by omega)) ⟨⟨_, _, _, rfl⟩, by omega, (fun k hk => by simp (disch := omega) only [upd_ne]), (fun k hk => by simp (disch := omega) only [upd_ne]; exact hs k (by omega)), _, ?_, ?_, hrec⟩
 ·rintro g (h | h)
  ·exact .inl h
  ·exact .inr (by omega)
 ·rintro g (h | h)
  ·have := hb g h; omega
  ·omega
theorem A09 (ps : List Pt) : (List.range ps.length).map (ent ps) = (ps.map Pt.fut).zipIdx.map fun x => (x.2, x.1.l, x.1.fin) := by
 refine List.ext_getElem (by simp) fun i h1 h2 => ?_
 simp at h1
 simp [ent, Pt.fut, List.getElem?_eq_getElem h1]
theorem Zz (ps : List Pt) : (List.range ps.length).map (Z3 ps) = ps.map Pt.x := by
 refine List.ext_getElem (by simp) fun i h1 h2 => ?_
 simp at h1
 simp [Z3, List.getElem?_eq_getElem h1]
theorem A0z (ps : List Pt) : VD ps (List.range ps.length) = Rr (ps.map Pt.fut) := by
 unfold VD Rr
 congr 1
 refine List.ext_getElem (by simp) fun i h1 h2 => ?_
 simp at h1
 simp [ent, Pt.fut, List.getElem?_eq_getElem h1]
theorem A17 {ps : List Pt} (h : Pts gO lo ps H n) (hall : JM ps) (hnO : ¬ OU ps gO) (hO : gO < n) (h60 : ps.length ≤ 60) : ACalls Tryz.prog 74 [.sl 1 (ps.map Pt.x) .ro] n H (NewS false gO lo (Dc (ps.map Pt.fut)) (OU ps) n H) := by
 generalize hR : NewS _ _ _ _ _ _ _ = R
 have hb := h.bel
 refine A2 Tryz.func74 A5j rfl fun hs => ?_
 repeat' (first | simp -implicitDefEqProofs [c74, -getElem?_pos, splice, -AA] | simp (disch := omega) only [A6] | (with_reducible first | exact AG | refine Db ?_ | intro _g _hg | refine A5 ?_ ?_ | intro _hc) | omega)
 subst hR
 have hqo : Yp ps (List.range ps.length) := fun i hi => by
  have hi : i < ps.length := by simpa using hi
  obtain ⟨h1, h2⟩ := hall ps[i] (List.getElem_mem hi)
  exact ⟨ps[i], List.getElem?_eq_getElem hi, h1, h2⟩
 have hrec := WF (g1 := _g) (gO := gO) (lo := lo) (Rr (ps.map Pt.fut)) ps (List.range ps.length) .ro _ (upd H _g (some (EU ps))) (_g + 1) (h.newB (by omega) (fun k hk => by simp (disch := omega) only [upd_ne])) rfl List.nodup_range hqo (by rw [A0z]; exact Nat.le_refl _) hnO (Bx.new hb hO (by omega) (by omega) (by rw [Zz]; exact AP _ _ _)) (by simpa using h60)
 have hT : Dc (ps.map Pt.fut) = ⟨AD ps, (E6 (Rr (ps.map Pt.fut)) ((List.range ps.length).map (ent ps)) (ps.map Pt.cur)).1, (E6 (Rr (ps.map Pt.fut)) ((List.range ps.length).map (ent ps)) (ps.map Pt.cur)).2.flatten⟩ := by
  have e : (ps.map Pt.fut).map (·.cur) = ps.map Pt.cur := by rw [List.map_map]; rfl
  rw [Dc, A09, e, GY]
 rw [hT]
 refine A9 (r := .fn _ [] [.ptr _g 0]) rfl (by omega) (fun k hk => by simp (disch := omega) only [upd_ne]; exact hs k (by omega)) ⟨⟨_, _, _, rfl⟩, by omega, (fun k hk => by simp (disch := omega) only [upd_ne]), (fun k hk => by simp (disch := omega) only [upd_ne]; exact hs k (by omega)), _, ?_, ?_, hrec⟩
 ·rintro g (h | h)
  ·exact .inl h
  ·exact .inr (by omega)
 ·rintro g (h | h)
  ·have := hb g h; omega
  ·omega
theorem A5r {op : Int} {xa xb : AV} {la lb : Ad} {ca cb fa fb : AQ} {O1 O2 : Nat → Prop} (hop : 1 ≤ op ∧ op ≤ 5) (h : Pts gO lo [⟨xa, some la, ca, fa, O1⟩, ⟨xb, some lb, cb, fb, O2⟩] H n) (hxa : Cp xa) (hxb : Cp xb) (hra : rgE la) (hrb : rgE lb) (hnO : ¬ OU [⟨xa, some la, ca, fa, O1⟩, ⟨xb, some lb, cb, fb, O2⟩] gO) (hO : gO < n) : ACalls Tryz.prog 75 [aI op, xa, xb] n H (NewS false gO lo ⟨ca ++ cb, (De (CH op) fa fb la cb lb).1, (De (CH op) fa fb la cb lb).2⟩ (OU [⟨xa, some la, ca, fa, O1⟩, ⟨xb, some lb, cb, fb, O2⟩]) n H) := by
 generalize hR : NewS _ _ _ _ _ _ _ = R
 have hb := h.bel
 obtain ⟨f0, a0, w0, rfl⟩ := hxa
 obtain ⟨f1, a1, w1, rfl⟩ := hxb
 refine A2 Tryz.func75 A5a rfl fun hs => ?_
 repeat' (first | simp -implicitDefEqProofs [c75, -getElem?_pos, splice, -AA] | simp (disch := omega) only [A6] | (with_reducible first | exact AG | refine Db ?_ | intro _g _hg | refine A5 ?_ ?_ | intro _hc) | omega)
 rename_i ga hga gb hgb
 subst hR
 have hrec := A13 (g1 := gb) (g2 := _g) (g3 := ga) (gO := gO) (lo := lo) hop la ca cb lb O1 O2 _ (upd (upd (upd H ga (some (BW op))) gb (some (Bg (.fn f0 a0 w0)))) _g (some (Bg (.fn f1 a1 w1)))) (_g + 1) (h.newB (by omega) (fun k hk => by simp (disch := omega) only [upd_ne])) rfl hra hrb hnO (Bx.new hb hO (by omega) (by omega) (by simp (disch := omega) only [upd_ne, AP] <;> rfl)) (Bx.new hb hO (by omega) (by omega) (by simp (disch := omega) only [upd_ne, AP] <;> rfl)) (Bx.new hb hO (by omega) (by omega) (by simp (disch := omega) only [upd_ne, AP] <;> rfl))
 refine A9 (r := .fn _ [] [.ptr gb 0, .ptr _g 0, .ptr ga 0]) rfl (by omega) (fun k hk => by simp (disch := omega) only [upd_ne]; exact hs k (by omega)) ⟨⟨_, _, _, rfl⟩, by omega, (fun k hk => by simp (disch := omega) only [upd_ne]), (fun k hk => by simp (disch := omega) only [upd_ne]; exact hs k (by omega)), _, ?_, ?_, hrec⟩
 ·rintro g (h | h | h | h)
  ·exact .inl h
  ·exact .inr (by omega)
  ·exact .inr (by omega)
  ·exact .inr (by omega)
 ·rintro g (h | h | h | h)
  ·have := hb g h; omega
  ·omega
  ·omega
  ·omega
theorem A18 {xa xb : AV} {la lb : Ad} {ca cb fa fb : AQ} {O1 O2 : Nat → Prop} (h : Pts gO lo [⟨xa, some la, ca, fa, O1⟩, ⟨xb, some lb, cb, fb, O2⟩] H n) (hxa : Cp xa) (hxb : Cp xb) (hnO : ¬ OU [⟨xa, some la, ca, fa, O1⟩, ⟨xb, some lb, cb, fb, O2⟩] gO) (hO : gO < n) : ACalls Tryz.prog 76 [.sl 1 [xa, xb] .ro] n H (NewS false gO lo ⟨ca ++ cb, Bf fa fb la lb, fa ++ fb⟩ (OU [⟨xa, some la, ca, fa, O1⟩, ⟨xb, some lb, cb, fb, O2⟩]) n H) := by
 generalize hR : NewS _ _ _ _ _ _ _ = R
 have hb := h.bel
 refine A2 Tryz.func76 A62 rfl fun hs => ?_
 repeat' (first | simp -implicitDefEqProofs [c76, -getElem?_pos, splice, -AA] | simp (disch := omega) only [A6] | (with_reducible first | exact AG | refine Db ?_ | intro _g _hg | refine A5 ?_ ?_ | intro _hc) | omega)
 rename_i ga hga gb hgb
 subst hR
 have hrec := XG (g1 := ga) (g2 := _g) (g3 := gb) (t := .ro) (gO := gO) (lo := lo) (show ga ≠ _g by omega) (show ga ≠ gb by omega) (show _g ≠ gb by omega) hxa hxb _ ⟨xa, some la, ca, fa, O1⟩ ⟨xb, some lb, cb, fb, O2⟩ false false 0 0 _ (upd (upd (upd H ga (some (HP [xa, xb] .ro))) gb (some (Od 0 0))) _g (some (IV false false))) (_g + 1) (Nat.le_refl _) (h.newB (by omega) (fun k hk => by simp (disch := omega) only [upd_ne])) rfl rfl rfl rfl rfl hnO (Bx.new hb hO (by omega) (by omega) (by simp (disch := omega) only [upd_ne, AP] <;> rfl)) (Bx.new hb hO (by omega) (by omega) (by simp (disch := omega) only [upd_ne, AP] <;> rfl)) (Bx.new hb hO (by omega) (by omega) (by simp (disch := omega) only [upd_ne, AP] <;> rfl))
 simp only [side, AD, List.append_nil, Option.getD_some] at hrec
 refine A9 (r := .fn _ [] [.ptr ga 0, .ptr _g 0, .ptr gb 0]) rfl (by omega) (fun k hk => by simp (disch := omega) only [upd_ne]; exact hs k (by omega)) ⟨⟨_, _, _, rfl⟩, by omega, (fun k hk => by simp (disch := omega) only [upd_ne]), (fun k hk => by simp (disch := omega) only [upd_ne]; exact hs k (by omega)), _, ?_, ?_, hrec⟩
 ·rintro g (h | h | h | h)
  ·exact .inl h
  ·exact .inr (by omega)
  ·exact .inr (by omega)
  ·exact .inr (by omega)
 ·rintro g (h | h | h | h)
  ·have := hb g h; omega
  ·omega
  ·omega
  ·omega
end
def LS (gO : Nat) (cs : AQ) (H : A1) : Option Nat → Prop
 | none => cs = [] ∧ H gO = some (.cells 74 [.sl 0 [] .nil])
 | some gg => H gO = some (.cells 74 [.slg 1 gg cs.length]) ∧ H gg = some (.grow 3 (cs.map aI))
def OpenP (e : Bool) (gO : Nat) (cs : AQ) (q : Option Nat) (F : Fut) (n : Nat) (H : A1) : DD := fun r n' H' => Cp r ∧ n ≤ n' ∧ (∀ k, n' ≤ k → H' k = none) ∧ ∃ gg, LS gO (cs ++ F.cur) H' (some gg) ∧ (q = some gg ∨ n ≤ gg) ∧ gg < n' ∧ (∀ g, g < n → g ≠ gO → q ≠ some g → H' g = H g) ∧
 ∃ O' : Nat → Prop, (∀ g, O' g → n ≤ g ∧ g < n') ∧ ¬ O' gg ∧ Raw e gO cs.length F.fin r F.l F.cur O' H' n'
theorem IJ {gO n n' g ga gc gd z : Nat} {t : Tok} {H H' : A1} {cs : AQ} {q : Option Nat} {xs : List Int} (hx : xs.length ≤ 140737488355328) (hz : z = 1 ∨ xs = []) (hO : gO < n) (hq : q = some g ∨ n ≤ g) (hg : g < n') (hn : n ≤ n') (a1 : n ≤ ga ∧ ga < n' ∧ ga ≠ g) (a2 : n ≤ gc ∧ gc < n' ∧ gc ≠ g) (a3 : n ≤ gd ∧ gd < n' ∧ gd ≠ g)
  (h1 : H' gO = some (.cells 74 [.slg 1 g (cs.length + 1)])) (h2 : H' g = some (.grow 3 ((cs ++ [0]).map aI))) (h3 : H' ga = some (.cells 72 [.ptr gO 0])) (h4 : H' gc = some (BW cs.length)) (h5 : H' gd = some (QY (.sl z (xs.map aI) t))) (fr : ∀ k, k < n → k ≠ gO → q ≠ some k → H' k = H k) (sup : ∀ k, n' ≤ k → H' k = none) :
  OpenP false gO cs q (EK xs) n H (.fn 97 [] [.ptr ga 0, .ptr gc 0, .ptr gd 0]) n' H' := by
 have hrec := ZR (gO := gO) (lo := cs.length) (g1 := ga) (g2 := gc) (g3 := gd) hx hz xs.length 0 (fun _ => False) H' n' (by omega) (fun h => h) (fun g h => h.elim) ⟨fun h => h, by omega, a1.2.1, h3⟩ ⟨fun h => h, by omega, a2.2.1, h4⟩ ⟨fun h => h, by omega, a3.2.1, h5⟩
 rw [List.drop_zero] at hrec
 refine ⟨⟨_, _, _, rfl⟩, hn, sup, g, ⟨by simpa [EK] using h1, h2⟩, hq, hg, fr, _, ?_, ?_, hrec⟩
 ·rintro k (h | rfl | rfl | rfl)
  ·exact h.elim
  ·exact ⟨a1.1, a1.2.1⟩
  ·exact ⟨a2.1, a2.2.1⟩
  ·exact ⟨a3.1, a3.2.1⟩
 ·rintro (h | h | h | h)
  ·exact h
  ·exact a1.2.2 h.symm
  ·exact a2.2.2 h.symm
  ·exact a3.2.2 h.symm
theorem LS.lt {gO n : Nat} {H : A1} {cs : AQ} {q : Option Nat} (h : LS gO cs H q) (hs : ∀ g, n ≤ g → H g = none) : gO < n ∧ ∀ g, q = some g → g < n ∧ gO ≠ g := by
 have k1 : ∀ (g : Nat) (ob : AObj), H g = some ob → g < n := fun g ob h => by
  rcases Nat.lt_or_ge g n with h1 | h1
  ·exact h1
  ·rw [hs g h1] at h; cases h
 match q, h with
 | none, h => exact ⟨k1 _ _ h.2, fun g h => by cases h⟩
 | some gg, h =>
  refine ⟨k1 _ _ h.1, fun g e => ?_⟩
  injection e with e
  subst e
  exact ⟨k1 _ _ h.2, fun e => by have := h.1; rw [e, h.2] at this; cases this⟩
theorem Vt {gO n : Nat} {H : A1} {cs : AQ} {q : Option Nat} {o m : Int} {v : List Int} {p : List St} (hv : v.length ≤ 140737488355328) (hcs : cs.length ≤ 100) (hL : LS gO cs H q) : ACalls Tryz.prog 72 [.ptr gO 0, encS (.mk 1 o m v p)] n H (OpenP false gO cs q (EK v) n H) := by
 generalize hR : OpenP _ _ _ _ _ _ _ = R
 rw [AN]
 generalize AZ p = ep
 refine A2 Tryz.func72 A22 rfl fun hs => ?_
 obtain ⟨hO, hgn⟩ := hL.lt hs
 have hcp : (cs ++ [0]).map aI = cs.map aI ++ [aI 0] := by simp
 cases q with
 | none =>
  obtain ⟨rfl, o1⟩ := hL
  repeat' (first | simp -implicitDefEqProofs [Fl, Fi, Fv, Ft, Fo, c72, -getElem?_pos, o1, splice] | simp (disch := omega) only [A6] | (refine QI (.inl rfl) (A0 _) (by simp) (by simp) (by simp [maxLen]) (fun g hg => ?_)) | (with_reducible first | exact AG | refine Bu ?_ | intro _g _hg | refine A5 ?_ ?_ | intro _hc) | omega)
  ·simp [Au, AV.fits, ones, AV.cells, AV.one]
  rename_i ga hga gb hgb gc hgc ge hge
  subst hR
  refine A9 (r := .fn _ [] [.ptr ga 0, .ptr gc 0, .ptr _g 0]) rfl (by omega) (fun k hk => by simp (disch := omega) only [upd_ne]; exact hs k (by omega)) (IJ (g := g) (xs := v) (z := 1) (t := .ro) hv (.inl rfl) hO (.inr (by omega)) (by omega) (by omega) ⟨by omega, by omega, by omega⟩ ⟨by omega, by omega, by omega⟩ ⟨by omega, by omega, by omega⟩ (by simp (disch := omega) only [upd_ne, AP] <;> rfl) (by simp (disch := omega) only [upd_ne, AP] <;> rfl) (by simp (disch := omega) only [upd_ne, AP] <;> rfl) (by simp (disch := omega) only [upd_ne, AP] <;> rfl) (by simp (disch := omega) only [upd_ne, AP] <;> rfl) (fun k h1 h2 h3 => by simp (disch := omega) only [upd_ne]) (fun k hk => by simp (disch := omega) only [upd_ne]; exact hs k (by omega)))
 | some gg =>
  obtain ⟨o1, o2⟩ := hL
  obtain ⟨hgn, hne⟩ := hgn gg rfl
  repeat' (first | simp -implicitDefEqProofs [Fl, Fi, Fv, Ft, Fo, c72, -getElem?_pos, o1, o2, splice] | simp (disch := omega) only [A6] | (with_reducible refine Xt [gg] ?_) | (refine Pv (.inl rfl) (A0 _) (by simp (disch := omega) only [upd_ne]; exact o2) (by simp) (by simp; omega) (by simp [maxLen]; omega) (fun g n' h1 h2 h3 => ?_)) | (with_reducible first | exact AG | refine Bu ?_ | intro _g _hg | refine A5 ?_ ?_ | intro _hc) | omega)
  ·simp [Au, AV.fits, ones, AV.cells, AV.one]
  rename_i ga hga gb hgb gc hgc ge hge
  subst hR
  refine A9 (r := .fn _ [] [.ptr ga 0, .ptr gc 0, .ptr _g 0]) rfl (by omega) (fun k hk => by simp (disch := omega) only [upd_ne]; exact hs k (by omega)) (IJ (g := g) (xs := v) (z := 1) (t := .ro) hv (.inl rfl) hO (h1.elim (fun h => .inl (by rw [h])) (fun h => .inr (by omega))) (by omega) (by omega) ⟨by omega, by omega, by omega⟩ ⟨by omega, by omega, by omega⟩ ⟨by omega, by omega, by omega⟩ (by simp (disch := omega) only [upd_ne, AP] <;> rfl) (by rw [hcp]; simp (disch := omega) only [upd_ne, AP]) (by simp (disch := omega) only [upd_ne, AP] <;> rfl) (by simp (disch := omega) only [upd_ne, AP] <;> rfl) (by simp (disch := omega) only [upd_ne, AP] <;> rfl) (fun k h1 h2 h3 => by have : k ≠ gg := fun e => h3 (by rw [e]); simp (disch := omega) only [upd_ne]) (fun k hk => by simp (disch := omega) only [upd_ne]; exact hs k (by omega)))
theorem PU {a b c : Int} (hc : 1 ≤ c) (j : Nat) : a + (j : Int) * c < b ↔ j < Eg [a, b, c] := by
 show _ ↔ j < ((b - a + c - 1) / c).toNat
 have h := Int.le_ediv_iff_mul_le (a := (j : Int) + 1) (b := b - a + c - 1) (c := c) (by omega)
 rw [Int.add_mul] at h
 omega
theorem ZY {a b c : Int} {j : Nat} (hj : j < Eg [a, b, c]) : (E7 [a, b, c]).take (j + 1) = (E7 [a, b, c]).take j ++ [a + (j : Int) * c] := by
 rw [List.take_succ]
 congr 1
 simp [E7, hj]
theorem R8 (a b c : Int) : (E7 [a, b, c]).length = Eg [a, b, c] := by simp [E7]
theorem RJ {a b c : Int} (hv : 0 ≤ a ∧ a ≤ 9999 ∧ 0 ≤ b ∧ b ≤ 10000 ∧ 1 ≤ c ∧ c ≤ 9999) : Eg [a, b, c] ≤ 10000 := by
 show ((b - a + c - 1) / c).toNat ≤ 10000
 have h := Int.ediv_lt_of_lt_mul (a := b - a + c - 1) (b := 10001) (c := c) (by omega) (by
  have h1 : (10000 : Int) * 1 ≤ 10000 * c := by omega
  omega)
 omega
theorem TF {n n1 ga gb gc gd : Nat} {H1 : A1} {R : DD} {k o m a b c : Int} {ep : List AV} (hv : 0 ≤ a ∧ a ≤ 9999 ∧ 0 ≤ b ∧ b ≤ 10000 ∧ 1 ≤ c ∧ c ≤ 9999) (qb : H1 gb = some (Ah k o m (.sl 1 [aI a, aI b, aI c] .ro) (.sl 5 ep .ro))) (qd : H1 gd = some (QY (.sl 0 [] .nil))) (lb : gb < n1) (ld : gd < n1) (nbd : gb ≠ gd) (sup : ∀ k, n1 ≤ k → H1 k = none)
  (hk : ∀ (e : AJ) (n2 z : Nat) (t : Tok) (H2 : A1), get e 4 = .fn 97 [] [.ptr ga 0, .ptr gc 0, .ptr gd 0] → n1 ≤ n2 → (∀ k, k < n1 → k ≠ gd → H2 k = H1 k) → H2 gd = some (QY (.sl z ((E7 [a, b, c]).map aI) t)) → z = 1 ∨ E7 [a, b, c] = [] → (∀ k, n2 ≤ k → H2 k = none) → fin R n [.tmp 4] .ret ⟨e, n2, H2⟩) :
  LoopK (fun Q s => aw Tryz.prog c72_L4 Q s) (CD 0 (D6 (aw Tryz.prog c72_k1 (fin R n [.tmp 4])) (fin R n [.tmp 4]))) ⟨[(2, .ptr ga 0), (3, .ptr gb 0), (5, .ptr gc 0), (6, .ptr gd 0), (7, aI a)], n1, H1⟩ := by
 have hbd := RJ hv
 have hln := R8 a b c
 refine LoopK.go (fun r st => ∃ (j n2 z : Nat) (t : Tok) (H2 : A1), j + r = Eg [a, b, c] ∧ st = ⟨[(2, .ptr ga 0), (3, .ptr gb 0), (5, .ptr gc 0), (6, .ptr gd 0), (7, aI (a + (j : Int) * c))], n2, H2⟩ ∧ n1 ≤ n2 ∧ (∀ k, k < n1 → k ≠ gd → H2 k = H1 k) ∧ H2 gd = some (QY (.sl z (((E7 [a, b, c]).take j).map aI) t)) ∧ (t ≠ .nil → z = 1) ∧ TokOk t j H2 n2 ∧ (∀ g, Bt t g → n1 ≤ g) ∧ (∀ k, n2 ≤ k → H2 k = none)) (Eg [a, b, c]) ?_ ?_
 ·exact ⟨0, n1, 0, .nil, H1, by omega, by simp, Nat.le_refl _, fun _ _ _ => rfl, qd, fun h => absurd rfl h, rfl, fun g h => h.elim, sup⟩
 rintro r st ⟨j, n2, z, t, H2, hj, rfl, hn2, hfr, q6, hz, hT, hTn, hsup⟩ J hJ
 have q3 := (hfr gb lb nbd).trans qb
 by_cases hjl : j < Eg [a, b, c]
 ·have hlt := (PU (a := a) (b := b) hv.2.2.2.2.1 j).2 hjl
  have hml : (((E7 [a, b, c]).take j).map aI).length = j := by simp; omega
  have hnx : ((E7 [a, b, c]).take (j + 1)).map aI = ((E7 [a, b, c]).take j).map aI ++ [aI (a + (j : Int) * c)] := by rw [ZY hjl]; simp
  have hw : IntKind.i64.wrap (a + (j : Int) * c + c) = a + ((j + 1 : Nat) : Int) * c := by
   have h0 : 0 ≤ (j : Int) * c := Int.mul_nonneg (by omega) (by omega)
   have e : ((j + 1 : Nat) : Int) * c = (j : Int) * c + c := by rw [Int.natCast_add, Int.add_mul]; simp
   rw [IntWalk.i64_in _ (by omega), e]; omega
  have hpx : 0 ≤ (j : Int) * c := Int.mul_nonneg (by omega) (by omega)
  generalize hx1 : a + ((j + 1 : Nat) : Int) * c = x1 at *
  generalize hx : a + (j : Int) * c = x at *
  generalize hls : ((E7 [a, b, c]).take j).map aI = ls at *
  
  repeat' (first | simp -implicitDefEqProofs [Fl, Fi, Fv, Ft, Fo, c72, -getElem?_pos, q3, q6, hlt, hw, nbd, Ne.symm nbd, splice] | simp (disch := omega) only [A6] | (refine JQ (by rw [hml]; exact hT.at_ (fun k hk => by have := hT.lt k hk; rw [upd_ne (by omega)]) (by omega)) hz (by rw [hml]; omega) (fun k hk => by rw [upd_ne (by omega)]; exact hsup k (by omega)) (fun g' n3 H3 k1 k2 k3 k4 k5 k6 k7 => ?_); have q6 := (k4 gd (by omega) (fun h => by have := hTn gd h; omega)).trans ((upd_ne (by omega)).trans q6); have q3 := (k4 gb (by omega) (fun h => by have := hTn gb h; omega)).trans ((upd_ne (by omega)).trans q3)) | (with_reducible first | exact AG | refine Bu ?_ | intro _g _hg | refine A5 ?_ ?_ | intro _hc) | omega)
  have hg1 : n1 ≤ g' := k1.elim (hTn g') (fun h => by omega)
  exact hJ (r - 1) _ (by omega) ⟨j + 1, n3, 1, .own g', upd H3 gd (some (QY (.sl 1 (ls ++ [aI x]) (.own g')))), by omega, by rw [hx1], by omega, fun k h1 h2 => by rw [upd_ne h2, k4 k (by omega) (fun h => by have := hTn k h; omega), upd_ne (by omega)]; exact hfr k h1 h2, by rw [AP, hnx], fun _ => rfl, ⟨by rw [upd_ne (by omega), k5, hml], k3⟩, fun g hg => by have e : g = g' := hg; omega, fun k h1 => by rw [upd_ne (by omega)]; exact k6 k h1⟩
 ·have hlt : ¬ a + (j : Int) * c < b := fun h => hjl ((PU hv.2.2.2.2.1 j).1 h)
  have hall : (E7 [a, b, c]).take j = E7 [a, b, c] := List.take_of_length_le (by omega)
  rw [hall] at q6
  generalize a + (j : Int) * c = x at *
  
  repeat' (first | simp -implicitDefEqProofs [Fl, Fi, Fv, Ft, Fo, c72, -getElem?_pos, q3, hlt, splice] | simp (disch := omega) only [A6] | (with_reducible first | exact AG | refine Bu ?_ | intro _g _hg | refine A5 ?_ ?_ | intro _hc) | omega)
  refine hk _ n2 z t H2 rfl hn2 hfr q6 ?_ hsup
  by_cases ht : t = .nil
  ·subst ht
   have e : j = 0 := hT
   exact .inr (List.length_eq_zero_iff.1 (by omega))
  ·exact .inl (hz ht)
theorem Yo {gO n : Nat} {H : A1} {cs : AQ} {q : Option Nat} {o m a b c : Int} {p : List St} (hv : 0 ≤ a ∧ a ≤ 9999 ∧ 0 ≤ b ∧ b ≤ 10000 ∧ 1 ≤ c ∧ c ≤ 9999) (hcs : cs.length ≤ 100) (hL : LS gO cs H q) : ACalls Tryz.prog 72 [.ptr gO 0, encS (.mk 2 o m [a, b, c] p)] n H (OpenP false gO cs q (EK (E7 [a, b, c])) n H) := by
 generalize hR : OpenP _ _ _ _ _ _ _ = R
 rw [AN]
 generalize AZ p = ep
 refine A2 Tryz.func72 A22 rfl fun hs => ?_
 obtain ⟨hO, hgn⟩ := hL.lt hs
 have hcp : (cs ++ [0]).map aI = cs.map aI ++ [aI 0] := by simp
 cases q with
 | none =>
  obtain ⟨rfl, o1⟩ := hL
  repeat' (first | simp -implicitDefEqProofs [Fl, Fi, Fv, Ft, Fo, c72, -getElem?_pos, o1, splice] | simp (disch := omega) only [A6] | (refine QI (.inl rfl) (A0 _) (by simp) (by simp) (by simp [maxLen]) (fun g hg => ?_)) | (with_reducible first | exact AG | refine Bu ?_ | intro _g _hg | refine A5 ?_ ?_ | intro _hc) | omega)
  ·simp [Au, AV.fits, ones, AV.cells, AV.one]
  rename_i ga hga gb hgb gc hgc ge hge
  refine TF (n := n) hv (by simp (disch := omega) only [upd_ne, AP] <;> rfl) (by simp (disch := omega) only [upd_ne, AP] <;> rfl) (by omega) (by omega) (by omega) (fun k hk => by simp (disch := omega) only [upd_ne]; exact hs k (by omega)) (fun e n2 z t H2 h1 h2 h3 h4 h5 h6 => ?_)
  subst hR
  have fr2 : ∀ k, k < _g → H2 k = _ := fun k hk => h3 k (by omega) (by omega)
  exact A9 (r := .fn _ [] [.ptr ga 0, .ptr gc 0, .ptr _g 0]) (by simp [Bd, CB, F7, h1]) (by omega) h6 (IJ (g := g) (xs := E7 [a, b, c]) (z := z) (t := t) (by rw [R8]; have := RJ hv; omega) h5 hO (.inr (by omega)) (by omega) (by omega) ⟨by omega, by omega, by omega⟩ ⟨by omega, by omega, by omega⟩ ⟨by omega, by omega, by omega⟩ (by rw [fr2 _ (by omega)]; exact (by simp (disch := omega) only [upd_ne, AP] <;> rfl)) (by rw [fr2 _ (by omega)]; exact (by simp (disch := omega) only [upd_ne, AP] <;> rfl)) (by rw [fr2 _ (by omega)]; exact (by simp (disch := omega) only [upd_ne, AP] <;> rfl)) (by rw [fr2 _ (by omega)]; exact (by simp (disch := omega) only [upd_ne, AP] <;> rfl)) h4 (fun k h1 h2 h3 => by rw [fr2 _ (by omega)]; simp (disch := omega) only [upd_ne]) h6)
 | some gg =>
  obtain ⟨o1, o2⟩ := hL
  obtain ⟨hgn, hne⟩ := hgn gg rfl
  repeat' (first | simp -implicitDefEqProofs [Fl, Fi, Fv, Ft, Fo, c72, -getElem?_pos, o1, o2, splice] | simp (disch := omega) only [A6] | (with_reducible refine Xt [gg] ?_) | (refine Pv (.inl rfl) (A0 _) (by simp (disch := omega) only [upd_ne]; exact o2) (by simp) (by simp; omega) (by simp [maxLen]; omega) (fun g n' h1 h2 h3 => ?_)) | (with_reducible first | exact AG | refine Bu ?_ | intro _g _hg | refine A5 ?_ ?_ | intro _hc) | omega)
  ·simp [Au, AV.fits, ones, AV.cells, AV.one]
  rename_i ga hga gb hgb gc hgc ge hge
  have hwh := h1
  refine TF (n := n) hv (by simp (disch := omega) only [upd_ne, AP] <;> rfl) (by simp (disch := omega) only [upd_ne, AP] <;> rfl) (by omega) (by omega) (by omega) (fun k hk => by simp (disch := omega) only [upd_ne]; exact hs k (by omega)) (fun e n2 z t H2 h1 h2 h3 h4 h5 h6 => ?_)
  subst hR
  have fr2 : ∀ k, k < _g → H2 k = _ := fun k hk => h3 k (by omega) (by omega)
  exact A9 (r := .fn _ [] [.ptr ga 0, .ptr gc 0, .ptr _g 0]) (by simp [Bd, CB, F7, h1]) (by omega) h6 (IJ (g := g) (xs := E7 [a, b, c]) (z := z) (t := t) (by rw [R8]; have := RJ hv; omega) h5 hO (hwh.elim (fun h => .inl (by rw [h])) (fun h => .inr (by omega))) (by omega) (by omega) ⟨by omega, by omega, by omega⟩ ⟨by omega, by omega, by omega⟩ ⟨by omega, by omega, by omega⟩ (by rw [fr2 _ (by omega)]; exact (by simp (disch := omega) only [upd_ne, AP] <;> rfl)) (by rw [fr2 _ (by omega)]; exact (by rw [hcp]; simp (disch := omega) only [upd_ne, AP])) (by rw [fr2 _ (by omega)]; exact (by simp (disch := omega) only [upd_ne, AP] <;> rfl)) (by rw [fr2 _ (by omega)]; exact (by simp (disch := omega) only [upd_ne, AP] <;> rfl)) h4 (fun k h1 h2 h3 => by have : k ≠ gg := fun e => h3 (by rw [e]); rw [fr2 _ (by omega)]; simp (disch := omega) only [upd_ne]) h6)
theorem LS.more {gO n : Nat} {H H' : A1} {cs : AQ} {q : Option Nat} (h : LS gO cs H q) (hs : ∀ g, n ≤ g → H g = none) (hb : SameB n H H') : LS gO cs H' q := by
 obtain ⟨h1, h2⟩ := h.lt hs
 match q, h, h2 with
 | none, h, _ => exact ⟨h.1, (hb gO h1).trans h.2⟩
 | some gg, h, h2 => exact ⟨(hb gO h1).trans h.1, (hb gg (h2 gg rfl).1).trans h.2⟩
theorem OpenP.up {e : Bool} {gO n n1 n' : Nat} {H H1 H' : A1} {cs : AQ} {q : Option Nat} {F : Fut} {r : AV} (h : OpenP e gO cs q F n1 H1 r n' H') (hn : n ≤ n1) (hs : SameB n H H1) (hq : ∀ g, q = some g → g < n) : OpenP e gO cs q F n H r n' H' := by
 obtain ⟨h1, h2, h3, gg, h4, h5, h6, h7, O', h8, h9, h10⟩ := h
 exact ⟨h1, by omega, h3, gg, h4, h5.imp id (fun h => by omega), h6, fun g k1 k2 k3 => (h7 g (by omega) k2 k3).trans (hs g k1), O', fun g hg => ⟨by have := h8 g hg; omega, (h8 g hg).2⟩, h9, h10⟩
theorem OpenP.once {gO n n' n2 : Nat} {H H' H2 : A1} {cs : AQ} {q : Option Nat} {F : Fut} {r2 : AV} {gg : Nat} {O' : Nat → Prop} (hO : gO < n) (h2 : n ≤ n') (h4 : LS gO (cs ++ F.cur) H' (some gg)) (h5 : q = some gg ∨ n ≤ gg) (h6 : gg < n') (h7 : ∀ g, g < n → g ≠ gO → q ≠ some g → H' g = H g) (h8 : ∀ g, O' g → n ≤ g ∧ g < n') (h9 : ¬ O' gg) (k : NewS true gO cs.length F O' n' H' r2 n2 H2) : OpenP true gO cs q F n H r2 n2 H2 := by
 obtain ⟨k1, k2, k3, k4, O2, k5, k6, k7⟩ := k
 refine ⟨k1, by omega, k4, gg, ⟨(k3 gO (by omega)).trans h4.1, (k3 gg h6).trans h4.2⟩, h5, by omega, fun g a1 a2 a3 => (k3 g (by omega)).trans (h7 g a1 a2 a3), O2, fun g hg => ⟨?_, k6 g hg⟩, fun hg => (k5 gg hg).elim h9 (fun h => by omega), k7⟩
 exact (k5 g hg).elim (fun h => (h8 g h).1) (fun h => by omega)
theorem NewS.tr {gO lo n n1 n2 : Nat} {H H1 H2 : A1} {F : Fut} {O O1 : Nat → Prop} {r : AV} (hn : n ≤ n1) (hs : SameB n H H1) (h5 : ∀ g, O1 g → O g ∨ n ≤ g) (k : NewS true gO lo F O1 n1 H1 r n2 H2) : NewS true gO lo F O n H r n2 H2 := by
 obtain ⟨k1, k2, k3, k4, O2, k5, k6, k7⟩ := k
 exact ⟨k1, by omega, fun g hg => (k3 g (by omega)).trans (hs g hg), k4, O2, fun g hg => (k5 g hg).elim (h5 g) (fun h => .inr (by omega)), k6, k7⟩
theorem A1o (s : St) : (AR s).cur.length ≤ Bj s := by
 refine St.ind (Q := fun s => (AR s).cur.length ≤ Bj s) ?_ s
 intro k o n v p ih
 rw [AR, D5, Bj]
 have hsum : ((p.map AR).map fun F => F.cur.length).sum ≤ CX p := by
  induction p with
  | nil => simp [CX]
  | cons x r ihr =>
   have h1 := ih x List.mem_cons_self
   have h2 := ihr fun y hy => ih y (List.mem_cons_of_mem _ hy)
   simp only [List.map_cons, List.sum_cons, CX]; omega
 have hcha : ∀ Fs : List Fut, (BU Fs).cur.length = (Fs.map fun F => F.cur.length).sum := by
  intro Fs
  induction Fs with
  | nil => rfl
  | cons F r ih => simp [BU, ih]
 generalize p.map AR = Fs at *
 unfold DZ
 split
 ·simp [EK]
 ·split
  ·simp [EK]
  ·split
   ·rw [hcha]; omega
   ·split
    ·have e : (Dc Fs).cur.length = (Fs.map fun F => F.cur.length).sum := by simp [Dc, List.length_flatten, Function.comp_def]
     rw [e]; omega
    ·split
     ·rename_i F
      have e : (B6 k o n F).cur = F.cur := by
       unfold B6; (repeat' split) <;> first | rfl | (unfold FR; split <;> rfl)
      rw [e]
      simp only [List.map_cons, List.map_nil, List.sum_cons, List.sum_nil] at hsum
      omega
     ·rename_i F G
      simp only [List.map_cons, List.map_nil, List.sum_cons, List.sum_nil] at hsum
      split <;> simp <;> omega
     ·simp
theorem A1l {gO n : Nat} {H : A1} {cs : AQ} {q : Option Nat} {k o m : Int} {v : List Int} (hL : LS gO cs H q) (main : ∀ n1 H1, LS gO cs H1 q → ACalls Tryz.prog 72 [.ptr gO 0, encS (.mk k o m v [])] n1 H1 (OpenP false gO cs q (AR (.mk k o m v [])) n1 H1)) : ACalls Tryz.prog 43 [.ptr gO 0, encS (.mk k o m v [])] n H (OpenP true gO cs q (AR (.mk k o m v [])) n H) := by
 generalize hR : OpenP _ _ _ _ _ _ _ = R
 rw [AN] at main ⊢
 rw [show AZ [] = [] by simp [AZ]] at main ⊢
 generalize AR (.mk k o m v []) = F at *
 refine A2 Tryz.func43 A2f rfl fun hs => ?_
 obtain ⟨hO, hgn⟩ := hL.lt hs
 repeat' (first | simp -implicitDefEqProofs [Az, As, Av, Ar, Aw, QO, Qq, Kp, Km, c43, -getElem?_pos, splice] | simp (disch := omega) only [A6] | ((with_reducible refine B0 72 ?_); refine ⟨_, main _ _ (hL.more hs (fun k hk => by simp (disch := omega) only [upd_ne])), ?_⟩; rintro r n' H' hle hsup ⟨h1, h2, h3, gg, h4, h5, h6, h7, O', h8, h9, h10⟩) | ((with_reducible refine B0 71 ?_); refine ⟨_, Y3 h10 h1 (fun g hg => (h8 g hg).2) (fun h => by have := (h8 gO h).1; dsimp only at this hle; omega) (by dsimp only at hle ⊢; omega), ?_⟩; rintro r2 n2 H2 hle2 hsup2 hpost) | (with_reducible first | exact AG | refine Bu ?_ | intro _g _hg | refine A5 ?_ ?_ | intro _hc) | omega)
 subst hR
 dsimp only at h2 h5 h7 h8 hle hle2 hpost
 exact A9 rfl (by omega) hsup2 ((OpenP.once (n := _g + 1) (by omega) h2 h4 h5 h6 h7 h8 h9 hpost).up (by omega) (fun k hk => by simp (disch := omega) only [upd_ne]) (fun g hg => (hgn g hg).1))
theorem X7 {gO n : Nat} {H : A1} {cs : AQ} {q : Option Nat} {k o m : Int} {v : List Int} (hk : k = 1 ∨ k = 2) (hn : NodeOk k o m v []) (hv : v.length ≤ 140737488355328) (hcs : cs.length ≤ 100) (hL : LS gO cs H q) : ACalls Tryz.prog 43 [.ptr gO 0, encS (.mk k o m v [])] n H (OpenP true gO cs q (AR (.mk k o m v [])) n H) := by
 refine A1l hL ?_
 intro n1 H1 h1
 rcases hk with rfl | rfl
 ·have e : AR (.mk 1 o m v []) = EK v := by simp [AR, DZ]
  rw [e]
  exact Vt hv hcs h1
 ·obtain ⟨a, b, c, rfl, h2⟩ := JA (hn.rng rfl) hn.vals
  have e : AR (.mk 2 o m [a, b, c] []) = EK (E7 [a, b, c]) := by simp [AR, DZ]
  rw [e]
  exact Yo (by omega) hcs h1
def TokOkS (t : Tok) (k : Nat) (H : A1) (n : Nat) : Prop := match t with
 | .own g => H g = some (.row 76 k) ∧ g < n
 | .nil => k = 0
 | .ro => False
theorem YZ {t t2 : Tok} {xs : List AV} {x : AV} {z : Nat} {d : Option Nat} {K : AS → Prop} {en : AJ} {n : Nat} {H : A1} (h : TokOkS t xs.length H n) (hz : t ≠ .nil → z = 1) (hl : xs.length ≤ 1000000) (hs : ∀ g, n ≤ g → H g = none)
  (hk : ∀ g' n' H', (Bt t g' ∨ n ≤ g') → n ≤ n' → g' < n' → (∀ k, k < n → ¬ Bt t k → H' k = H k) → H' g' = some (.row 76 (xs.length + 1)) → (∀ k, n' ≤ k → H' k = none) → (∀ k, Bt t k → k ≠ g' → H' k = none) → K ⟨AC en d (.sl 1 (xs ++ [x]) (.own g')), n', H'⟩) :
  appKS 76 1 8 d K ⟨en, n, H⟩ (.sl z xs t) (.sl 1 [x] t2) := by
 match t, h with
 | .nil, h =>
  have h0 : xs = [] := List.length_eq_zero_iff.1 h
  subst h0
  refine RR (by simp) (by simp) (by simp [maxLen]) fun g hg => ?_
  exact hk g (g + 1) _ (.inr hg) (by omega) (by omega) (fun k h1 _ => by rw [upd_ne (by omega)]) (AP _ _ _) (fun k h1 => by rw [upd_ne (by omega)]; exact hs k (by omega)) (fun k h1 => h1.elim)
 | .own g0, h =>
  obtain ⟨h1, h2⟩ := h
  have hz := hz (by simp)
  subst hz
  refine GL h1 (by simp; omega) (by simp [maxLen]; omega) fun g n' h3 h4 h5 => ?_
  refine hk g n' _ (h3.elim (fun h => .inl h) .inr) h4 h5 (fun k k1 k2 => ?_) (AP _ _ _) (fun k k1 => ?_) (fun k k1 k2 => ?_)
  ·have : k ≠ g0 := k2
   rw [upd_ne (by rcases h3 with h3 | h3 <;> omega), upd_ne this]
  ·rw [upd_ne (by omega), upd_ne (by omega)]; exact hs k (by omega)
  ·have e : k = g0 := k1
   subst e
   rw [upd_ne k2, AP]
theorem TokOkS.at_ {t : Tok} {k n n1 : Nat} {H H1 : A1} (h : TokOkS t k H n) (hH : ∀ g, Bt t g → H1 g = H g) (hn : n ≤ n1) : TokOkS t k H1 n1 := by
 match t, h with
 | .nil, h => exact h
 | .own g, h => exact ⟨(hH g rfl).trans h.1, by have := h.2; omega⟩
theorem TokOkS.lt {t : Tok} {k n : Nat} {H : A1} (h : TokOkS t k H n) : ∀ g, Bt t g → g < n := by
 match t, h with
 | .nil, h => exact fun g hg => hg.elim
 | .own k, h => intro g hg; have e : g = k := hg; subst e; exact h.2
structure Opnd (gO : Nat) (cs : AQ) (q : Option Nat) (n : Nat) (H : A1) (ps : List Pt) (q1 : Option Nat) (n1 : Nat) (H1 : A1) : Prop where
 ls : LS gO (cs ++ AD ps) H1 q1
 qn : ∀ g, q1 = some g → (q = some g ∨ n ≤ g) ∧ ¬ OU ps g
 sm : ps = [] ∨ ∃ g, q1 = some g
 pts : Pts gO cs.length ps H1 n1
 nw : ∀ g, OU ps g → n ≤ g
 all : JM ps
 fr : ∀ g, g < n → g ≠ gO → q ≠ some g → H1 g = H g
 sup : ∀ k, n1 ≤ k → H1 k = none
 le : n ≤ n1
 lO : gO < n
variable {F : Fut} {r : AV} {t : Tok} {R R' : DD} {f0 f1 j : Nat} {a0 w0 a1 w1 : List AV} {la lb : Ad} {ca cb fa fb : AQ}
theorem Pts.snoc : ∀ {ps : List Pt} {p : Pt} {gO lo n : Nat} {H : A1}, Pts gO lo ps H n → PtOk gO (lo + (AD ps).length) p H n → (∀ g, p.O g → g < n) → (∀ g, OU ps g → ¬ p.O g) → Pts gO lo (ps ++ [p]) H n
 | [], p, gO, lo, n, H, _, h1, h2, _ => ⟨by simpa [AD] using h1, h2, fun g _ h => h.elim, trivial⟩
 | x :: ps, p, gO, lo, n, H, h, h1, h2, h3 => by
  refine ⟨h.1, h.2.1, fun g hg hu => ?_, h.2.2.2.snoc (by simpa [AD, Nat.add_assoc] using h1) h2 fun g hg => h3 g (.inr hg)⟩
  rcases (Ed ps [p] g).1 hu with h4 | h4 | h4
  ·exact h.2.2.1 g hg h4
  ·exact h3 g (.inl hg) h4
  ·exact h4
theorem Opnd.step {gO n n1 n2 : Nat} {cs : AQ} {q q1 : Option Nat} {H H1 H2 : A1} {ps : List Pt} (h : Opnd gO cs q n H ps q1 n1 H1) (k : OpenP true gO (cs ++ AD ps) q1 F n1 H1 r n2 H2) (hm : Jk F) : ∃ (O' : Nat → Prop) (gg : Nat), Opnd gO cs q n H (ps ++ [⟨r, some F.l, F.cur, F.fin, O'⟩]) (some gg) n2 H2 ∧ (∀ g, O' g → n1 ≤ g) ∧ (∀ g, g < n1 → g ≠ gO → q1 ≠ some g → H2 g = H1 g) := by
 obtain ⟨k1, k2, k3, gg, k4, k5, k6, k7, O', k8, k9, k10⟩ := k
 have hou : ∀ g, OU (ps ++ [⟨r, some F.l, F.cur, F.fin, O'⟩]) g ↔ OU ps g ∨ O' g := fun g => by rw [Ed]; simp [OU]
 have hb := h.pts.bel
 have hle := h.le
 have hlO := h.lO
 refine ⟨O', gg, ⟨?_, ?_, .inr ⟨gg, rfl⟩, ?_, ?_, ?_, ?_, k3, by omega, hlO⟩, fun g hg => (k8 g hg).1, k7⟩
 ·rw [Et]; simpa [AD, List.append_assoc] using k4
 ·intro g hg
  injection hg with hg
  subst hg
  refine ⟨?_, fun hu => ?_⟩
  ·rcases k5 with k5 | k5
   ·exact (h.qn gg k5).1
   ·exact .inr (by omega)
  ·rcases (hou gg).1 hu with hu | hu
   ·rcases k5 with k5 | k5
    ·exact (h.qn gg k5).2 hu
    ·have := hb gg hu; omega
   ·exact k9 hu
 ·refine Pts.snoc (h.pts.at_ (fun g hg => k7 g (hb g hg) (fun e => by have := h.nw g hg; omega) (fun e => (h.qn g e).2 hg)) k2) ?_ (fun g hg => (k8 g hg).2) (fun g hg hO => by have := hb g hg; have := k8 g hO; omega)
  exact ⟨by simpa [List.length_append] using k10, hm.1⟩
 ·intro g hg
  rcases (hou g).1 hg with hg | hg
  ·exact h.nw g hg
  ·have := k8 g hg; omega
 ·intro p hp
  rcases List.mem_append.1 hp with hp | hp
  ·exact h.all p hp
  ·simp at hp; subst hp; exact ⟨⟨_, rfl⟩, k1⟩
 ·intro g a1 a2 a3
  rw [k7 g (by omega) a2 (fun e => (h.qn g e).1.elim a3 (fun h => by omega))]
  exact h.fr g a1 a2 a3
theorem Opnd.more {gO n n1 n2 : Nat} {cs : AQ} {q q1 : Option Nat} {H H1 H2 : A1} {ps : List Pt} (h : Opnd gO cs q n H ps q1 n1 H1) (ht : ∀ g, Bt t g → n ≤ g ∧ ¬ OU ps g ∧ q1 ≠ some g) (hn : n1 ≤ n2) (hH : ∀ k, k < n1 → ¬ Bt t k → H2 k = H1 k) (hs : ∀ k, n2 ≤ k → H2 k = none) : Opnd gO cs q n H ps q1 n2 H2 := by
 have hle := h.le
 have hlO := h.lO
 refine ⟨?_, h.qn, h.sm, h.pts.at_ (fun g hg => hH g (h.pts.bel g hg) fun k => (ht g k).2.1 hg) hn, h.nw, h.all, fun g a1 a2 a3 => ?_, hs, by omega, hlO⟩
 ·have hlt := h.ls.lt h.sup
  have hgO : H2 gO = H1 gO := hH gO hlt.1 fun k => by have := (ht gO k).1; omega
  have h1 := h.ls
  match q1, h1, hlt, ht with
  | none, h1, _, _ => exact ⟨h1.1, hgO.trans h1.2⟩
  | some gg, h1, hlt, ht => exact ⟨hgO.trans h1.1, (hH gg (hlt.2 gg rfl).1 fun k => (ht gg k).2.2 rfl).trans h1.2⟩
 ·rw [hH g (by omega) fun k => by have := (ht g k).1; omega]
  exact h.fr g a1 a2 a3
theorem Opnd.fin_ {gO n n1 n2 : Nat} {cs : AQ} {q q1 : Option Nat} {H H1 H2 : A1} {ps : List Pt} (h : Opnd gO cs q n H ps q1 n1 H1) (hp : ps ≠ []) (hc : F.cur = AD ps) (k : NewS true gO cs.length F (OU ps) n1 H1 r n2 H2) : OpenP true gO cs q F n H r n2 H2 := by
 obtain ⟨gg, hg⟩ := h.sm.resolve_left hp
 subst hg
 have hlt := h.ls.lt h.sup
 obtain ⟨k1, k2, k3, k4, O2, k5, k6, k7⟩ := k
 have h1 := h.le
 have hgl := (hlt.2 gg rfl).1
 refine ⟨k1, by omega, k4, gg, ?_, (h.qn gg rfl).1, by omega, fun g a1 a2 a3 => (k3 g (by omega)).trans (h.fr g a1 a2 a3), O2, fun g hg => ⟨(k5 g hg).elim (h.nw g) (fun h => by omega), k6 g hg⟩, fun hg => (k5 gg hg).elim (h.qn gg rfl).2 (fun h => by omega), k7⟩
 rw [hc]
 exact ⟨(k3 gO hlt.1).trans h.ls.1, (k3 gg hgl).trans h.ls.2⟩
theorem TokOkS.neq {k n g gO : Nat} {H : A1} {cs : AQ} {q : Option Nat} (h : TokOkS t k H n) (hg : Bt t g) (hL : LS gO cs H q) : q ≠ some g := by
 intro e
 subst e
 have h2 := hL.2
 match t, h, hg with
 | .own j, h, hg =>
  have e2 : g = j := hg
  subst e2
  rw [h.1] at h2
  cases h2
theorem JU : ∀ a b : List St, CX (a ++ b) = CX a + CX b
 | [], b => by simp [CX]
 | y :: a, b => by have := JU a b; simp [CX, this]; omega
abbrev LA (s : St) : Prop := ∀ (gO n : Nat) (H : A1) (cs : AQ) (q : Option Nat), cs.length + Bj s ≤ 100 → LS gO cs H q → ACalls Tryz.prog 43 [.ptr gO 0, encS s] n H (OpenP true gO cs q (AR s) n H)
theorem Ue {gO n gs : Nat} {H : A1} {cs : AQ} {q : Option Nat} {k o m : Int} {v : List Int} {p : List St} (hp0 : p ≠ []) (hp60 : p.length ≤ 60) (hsz : cs.length + CX p ≤ 99) (hx : ∀ x ∈ p, LA x) (hL : LS gO cs H q) (hs : ∀ g, n ≤ g → H g = none) (hgs : gs < n) (hgO : gO ≠ gs) (hq : q ≠ some gs) (qs : H gs = some (Ah k o m (.sl 1 (v.map aI) .ro) (.sl 5 (AZ p) .ro))) (nR : Nat)
  (hk : ∀ (ps : List Pt) (q1 : Option Nat) (n1 : Nat) (H1 : A1) (g5 : Nat), Opnd gO cs q n H ps q1 n1 H1 → ps.map Pt.fut = p.map AR → H1 gs = some (Ah k o m (.sl 1 (v.map aI) .ro) (.sl 5 (AZ p) .ro)) → aw Tryz.prog c43_k5 (fin R nR [.tmp 4]) ⟨[(3, .ptr gs 0), (5, .sl 1 (ps.map Pt.x) (.own g5))], n1, H1⟩) :
  LoopK (fun Q s => aw Tryz.prog c43_L8 Q s) (CD 0 (D6 (aw Tryz.prog c43_k5 (fin R nR [.tmp 4])) (fin R nR [.tmp 4]))) ⟨[(0, .ptr gO 0), (3, .ptr gs 0), (5, .sl 0 [] .nil), (17, .sl 5 (AZ p) .ro), (18, aI p.length), (19, aI 0)], n, H⟩ := by
 have hpl := Bn p
 refine LoopK.go (fun r st => ∃ (j : Nat) (ps : List Pt) (q1 : Option Nat) (n1 z : Nat) (t : Tok) (H1 : A1), j + r = p.length ∧ st = ⟨[(0, .ptr gO 0), (3, .ptr gs 0), (5, .sl z (ps.map Pt.x) t), (17, .sl 5 (AZ p) .ro), (18, aI p.length), (19, aI j)], n1, H1⟩ ∧ Opnd gO cs q n H ps q1 n1 H1 ∧ ps.map Pt.fut = (p.take j).map AR ∧ (AD ps).length ≤ CX (p.take j) ∧ (t ≠ .nil → z = 1) ∧ TokOkS t ps.length H1 n1 ∧ (∀ g, Bt t g → n ≤ g ∧ ¬ OU ps g)) p.length ?_ ?_
 ·refine ⟨0, [], q, n, 0, .nil, H, by omega, rfl, ⟨by simpa [AD] using hL, fun g hg => ⟨.inl hg, fun h => h⟩, .inl rfl, trivial, fun g hg => hg.elim, (fun p hp => by cases hp), fun _ _ _ _ => rfl, hs, Nat.le_refl _, (hL.lt hs).1⟩, rfl, by simp [AD], fun h => absurd rfl h, rfl, fun g hg => hg.elim⟩
 rintro r0 st ⟨j, ps, q1, n1, z, t, H1, hj, rfl, hO, hF, hcl, hz, hT, hTn⟩ J hJ
 have hle := hO.le
 have q3 : H1 gs = _ := (hO.fr gs hgs (Ne.symm hgO) hq).trans qs
 by_cases hjl : j < p.length
 ·obtain ⟨x, hxj⟩ : ∃ x, p[j]? = some x := ⟨_, List.getElem?_eq_getElem hjl⟩
  have hjl' : (j : Int) < p.length := by omega
  have hxe := GN hxj
  have hxf := C0 x
  have hop := hx x (List.mem_of_getElem? hxj)
  have htk : p.take (j + 1) = p.take j ++ [x] := by rw [List.take_succ, hxj]; rfl
  have hsizt : CX (p.take j) + Bj x ≤ CX p := by
   have h2 := JU (p.take (j + 1)) (p.drop (j + 1))
   rw [List.take_append_drop, htk, JU] at h2
   simp only [CX] at h2
   omega
  have hmon := Rk x
  have hcx := A1o x
  have hlen : ps.length = j := by have := congrArg List.length hF; simp at this; omega
  have hml : (ps.map Pt.x).length = ps.length := by simp
  obtain ⟨k', o', m', v', p'⟩ := x
  rw [AN] at hxe hxf
  have hop2 : ∀ (n : Nat) (H : A1), LS gO (cs ++ AD ps) H q1 → ACalls Tryz.prog 43 [.ptr gO 0, .agg [aI k', aI o', aI m', .sl 1 (v'.map aI) .ro, .sl 5 (AZ p') .ro]] n H (OpenP true gO (cs ++ AD ps) q1 (AR (.mk k' o' m' v' p')) n H) := fun n H h => by
   have := hop gO n H (cs ++ AD ps) q1 (by rw [List.length_append]; omega) h
   rwa [AN] at this
  generalize hFe : AR (.mk k' o' m' v' p') = F at *
  generalize AZ p = ep at *
  generalize AZ p' = ep' at *
  generalize v'.map aI = ev' at *
  
  repeat' (first | simp -implicitDefEqProofs [Az, As, Av, Ar, Aw, QO, Qq, Kp, Km, c43, -getElem?_pos, q3, hjl', hxe, splice] | simp (disch := omega) only [A6] | ((with_reducible refine B0 43 ?_); refine ⟨_, hop2 _ _ (hO.ls.more hO.sup (fun k hk => by simp (disch := omega) only [upd_ne])), ?_⟩; rintro r n2 H2 hle2 hsup2 hpost; dsimp only at hle2 hpost; have hpo := hpost.up (n := n1) (H := H1) (by omega) (fun k hk => by simp (disch := omega) only [upd_ne]) (fun g hg => ((hO.ls.lt hO.sup).2 g hg).1); obtain ⟨O', gg, hO2, hOn, hfr2⟩ := hO.step hpo hmon; have hT2 : TokOkS t ps.length H2 n2 := hT.at_ (fun g hg => hfr2 g (hT.lt g hg) (fun e => by have := (hTn g hg).1; have := hO.lO; omega) (hT.neq hg hO.ls)) (by omega)) | (refine YZ (by rw [hml]; exact hT2.at_ (fun k hk => by have := hT2.lt k hk; rw [upd_ne (by omega)]) (by omega)) hz (by rw [hml]; omega) (fun k hk => by rw [upd_ne (by omega)]; exact hsup2 k (by omega)) (fun g' n3 H3 k1 k2 k3 k4 k5 k6 k7 => ?_)) | (with_reducible first | exact AG | refine Bu ?_ | intro _g _hg | refine A5 ?_ ?_ | intro _hc) | omega)
  ·obtain ⟨f1, f2, f3, rfl⟩ := hpo.1
   simp [Au, AV.fits, ones, AV.cells, AV.one]
  have hou : ∀ g, OU (ps ++ [⟨r, some F.l, F.cur, F.fin, O'⟩]) g ↔ OU ps g ∨ O' g := fun g => by rw [Ed]; simp [OU]
  have htk2 : ∀ g, Bt t g → n ≤ g ∧ ¬ OU (ps ++ [⟨r, some F.l, F.cur, F.fin, O'⟩]) g ∧ some gg ≠ some g := fun g hg =>
   ⟨(hTn g hg).1, fun h => ((hou g).1 h).elim (hTn g hg).2 (fun h => by have := hOn g h; have := hT.lt g hg; omega), hT2.neq hg hO2.ls⟩
  have hO3 := hO2.more (n2 := n3) (H2 := H3) htk2 (by omega) (fun k h1 h2 => (k4 k (by omega) h2).trans (upd_ne (by omega))) k6
  refine hJ (r0 - 1) _ (by omega) ⟨j + 1, ps ++ [⟨r, some F.l, F.cur, F.fin, O'⟩], some gg, n3, 1, .own g', H3, by omega, by simp, hO3, ?_, ?_, fun _ => rfl, ⟨by rw [k5]; simp, k3⟩, ?_⟩
  ·rw [htk, List.map_append, List.map_append, hF, List.map_singleton, List.map_singleton, hFe]; rfl
  ·rw [htk, JU, Et, List.length_append]; simp only [AD, List.append_nil, CX]; omega
  ·intro g hg
   have e : g = g' := hg
   subst e
   rcases k1 with k1 | k1
   ·exact ⟨(htk2 g k1).1, (htk2 g k1).2.1⟩
   ·exact ⟨by omega, fun h => by have := hO2.pts.bel g h; omega⟩
 ·have hjl' : ¬ (j : Int) < p.length := by omega
  have hlen : ps.length = j := by have := congrArg List.length hF; simp at this; omega
  have htk : p.take j = p := List.take_of_length_le (by omega)
  rw [htk] at hF
  have hpos : 0 < p.length := List.length_pos_iff.2 hp0
  match t, hT, hz with
  | .nil, hT, _ => exact absurd hT (by show ¬ ps.length = 0; omega)
  | .ro, hT, _ => exact hT.elim
  | .own g5, hT, hz =>
   have hz := hz (by simp)
   subst hz
   have hk2 := hk ps q1 n1 H1 g5 hO hF q3
   
   simp -implicitDefEqProofs [Kp, -getElem?_pos, hjl']
   exact hk2
theorem Opnd.nO {gO n n1 : Nat} {cs : AQ} {q q1 : Option Nat} {H H1 : A1} {ps : List Pt} (h : Opnd gO cs q n H ps q1 n1 H1) : ¬ OU ps gO := fun hu => by have := h.nw gO hu; have := h.lO; omega
theorem U3 {l : List AV} {g : Nat} : AK [.sl 1 l (.own g)] [.sl 1 l .ro] := ⟨_, _, rfl, ⟨1, l, .ro, rfl, .inl rfl, .inl rfl, A0 l⟩, rfl⟩
theorem ACalls.imp {f : Nat} {args : List AV} {n : Nat} {H : A1} (h : ACalls Tryz.prog f args n H R) (k : ∀ r n' H', n ≤ n' → R r n' H' → R' r n' H') : ACalls Tryz.prog f args n H R' :=
 fun hs w0 G w vs hl hr hv => (h hs w0 G w vs hl hr hv).mono fun e w' ⟨v, r, G', n', H', e1, e2, e3, e4, e5, e6⟩ => ⟨v, r, G', n', H', e1, k r n' H' e5 e2, e3, e4, e5, e6⟩
theorem Dm {gO lo n1 n2 : Nat} {O : Nat → Prop} {H1 H2 : A1} (hN : NewS false gO lo F O n1 H1 r n2 H2) (h1 : ¬ O gO) (h2 : gO < n1) : ACalls Tryz.prog 71 [r] n2 H2 (NewS true gO lo F O n1 H1) := by
 obtain ⟨m1, m2, m3, m4, O2, m5, m6, m7⟩ := hN
 exact (Y3 m7 m1 m6 (fun h => (m5 gO h).elim h1 (fun h => by omega)) (by omega)).imp fun r2 n3 H3 h3 hp => NewS.tr m2 m3 m5 hp
section
variable {gO n n1 gs g5 : Nat} {cs : AQ} {q q1 : Option Nat} {H H1 : A1} {ps : List Pt} {k o m : Int} {v : List Int} {p : List St}
theorem Zg (h60 : ps.length ≤ 60) (hO : Opnd gO cs q n H ps q1 n1 H1) (hps : ps ≠ []) (q3 : H1 gs = some (Ah 13 o m (.sl 1 (v.map aI) .ro) (.sl 5 (AZ p) .ro))) : aw Tryz.prog c43_k5 (fin (OpenP true gO cs q (BU (ps.map Pt.fut)) n H) n [.tmp 4]) ⟨[(3, .ptr gs 0), (5, .sl 1 (ps.map Pt.x) (.own g5))], n1, H1⟩ := by
 generalize hR : OpenP _ _ _ _ _ _ _ = R
 have hlO : gO < n1 := by have := hO.lO; have := hO.le; omega
 have hcc := OG ps
 
 repeat' (first | simp -implicitDefEqProofs [Aw, Ar, Av, As, Az, -getElem?_pos, q3,  splice] | simp (disch := omega) only [A6] | ((with_reducible refine B0 73 ?_); refine ⟨_, (A00 hO.pts hO.all hO.nO hlO h60).sim U3, ?_⟩; rintro r n2 H2 hle2 hsup2 hpost) | ((with_reducible refine B0 71 ?_); refine ⟨_, Dm hpost hO.nO hlO, ?_⟩; rintro r2 n3 H3 hle3 hsup3 hp2) | (with_reducible first | exact AG | refine Bu ?_ | intro _g _hg | refine A5 ?_ ?_ | intro _hc) | omega)
 subst hR
 have hle := hO.le
 have ho := hO.fin_ hps (by first | rfl | assumption) hp2
 exact A9 rfl ho.2.1 hsup3 ho
theorem YW (h60 : ps.length ≤ 60) (hO : Opnd gO cs q n H ps q1 n1 H1) (hps : ps ≠ []) (q3 : H1 gs = some (Ah 14 o m (.sl 1 (v.map aI) .ro) (.sl 5 (AZ p) .ro))) : aw Tryz.prog c43_k5 (fin (OpenP true gO cs q (Dc (ps.map Pt.fut)) n H) n [.tmp 4]) ⟨[(3, .ptr gs 0), (5, .sl 1 (ps.map Pt.x) (.own g5))], n1, H1⟩ := by
 generalize hR : OpenP _ _ _ _ _ _ _ = R
 have hlO : gO < n1 := by have := hO.lO; have := hO.le; omega
 have hcc : (Dc (ps.map Pt.fut)).cur = AD ps := by simp [Dc, GY, Pt.fut, Function.comp_def]
 
 repeat' (first | simp -implicitDefEqProofs [Aw, Ar, Av, As, Az, -getElem?_pos, q3,  splice] | simp (disch := omega) only [A6] | ((with_reducible refine B0 74 ?_); refine ⟨_, (A17 hO.pts hO.all hO.nO hlO h60).sim U3, ?_⟩; rintro r n2 H2 hle2 hsup2 hpost) | ((with_reducible refine B0 71 ?_); refine ⟨_, Dm hpost hO.nO hlO, ?_⟩; rintro r2 n3 H3 hle3 hsup3 hp2) | (with_reducible first | exact AG | refine Bu ?_ | intro _g _hg | refine A5 ?_ ?_ | intro _hc) | omega)
 subst hR
 have hle := hO.le
 have ho := hO.fin_ hps (by first | rfl | assumption) hp2
 exact A9 rfl ho.2.1 hsup3 ho
theorem ZQ {O1 O2 : Nat → Prop} (hop : 1 ≤ o ∧ o ≤ 5) (hra : rgE la) (hrb : rgE lb) (hO : Opnd gO cs q n H [⟨.fn f0 a0 w0, some la, ca, fa, O1⟩, ⟨.fn f1 a1 w1, some lb, cb, fb, O2⟩] q1 n1 H1)  (q3 : H1 gs = some (Ah 15 o m (.sl 1 (v.map aI) .ro) (.sl 5 (AZ p) .ro))) : aw Tryz.prog c43_k5 (fin (OpenP true gO cs q ⟨ca ++ cb, (De (CH o) fa fb la cb lb).1, (De (CH o) fa fb la cb lb).2⟩ n H) n [.tmp 4]) ⟨[(3, .ptr gs 0), (5, .sl 1 [.fn f0 a0 w0, .fn f1 a1 w1] (.own g5))], n1, H1⟩ := by
 generalize hR : OpenP _ _ _ _ _ _ _ = R
 have hlO : gO < n1 := by have := hO.lO; have := hO.le; omega
 
 repeat' (first | simp -implicitDefEqProofs [Aw, Ar, Av, As, Az, -getElem?_pos, q3,  splice] | simp (disch := omega) only [A6] | ((with_reducible refine B0 75 ?_); refine ⟨_, A5r hop hO.pts ⟨_, _, _, rfl⟩ ⟨_, _, _, rfl⟩ hra hrb hO.nO hlO, ?_⟩; rintro r n2 H2 hle2 hsup2 hpost) | ((with_reducible refine B0 71 ?_); refine ⟨_, Dm hpost hO.nO hlO, ?_⟩; rintro r2 n3 H3 hle3 hsup3 hp2) | (with_reducible first | exact AG | refine Bu ?_ | intro _g _hg | refine A5 ?_ ?_ | intro _hc) | omega)
 subst hR
 have hle := hO.le
 have ho := hO.fin_ (by simp) (by simp [AD]) hp2
 exact A9 rfl ho.2.1 hsup3 ho
theorem ZL {O1 O2 : Nat → Prop}  (hO : Opnd gO cs q n H [⟨.fn f0 a0 w0, some la, ca, fa, O1⟩, ⟨.fn f1 a1 w1, some lb, cb, fb, O2⟩] q1 n1 H1)  (q3 : H1 gs = some (Ah 16 o m (.sl 1 (v.map aI) .ro) (.sl 5 (AZ p) .ro))) : aw Tryz.prog c43_k5 (fin (OpenP true gO cs q ⟨ca ++ cb, Bf fa fb la lb, fa ++ fb⟩ n H) n [.tmp 4]) ⟨[(3, .ptr gs 0), (5, .sl 1 [.fn f0 a0 w0, .fn f1 a1 w1] (.own g5))], n1, H1⟩ := by
 generalize hR : OpenP _ _ _ _ _ _ _ = R
 have hlO : gO < n1 := by have := hO.lO; have := hO.le; omega
 
 repeat' (first | simp -implicitDefEqProofs [Aw, Ar, Av, As, Az, -getElem?_pos, q3,  splice] | simp (disch := omega) only [A6] | ((with_reducible refine B0 76 ?_); refine ⟨_, (A18 hO.pts ⟨_, _, _, rfl⟩ ⟨_, _, _, rfl⟩ hO.nO hlO).sim U3, ?_⟩; rintro r n2 H2 hle2 hsup2 hpost) | ((with_reducible refine B0 71 ?_); refine ⟨_, Dm hpost hO.nO hlO, ?_⟩; rintro r2 n3 H3 hle3 hsup3 hp2) | (with_reducible first | exact AG | refine Bu ?_ | intro _g _hg | refine A5 ?_ ?_ | intro _hc) | omega)
 subst hR
 have hle := hO.le
 have ho := hO.fin_ (by simp) (by simp [AD]) hp2
 exact A9 rfl ho.2.1 hsup3 ho
theorem A1a {l : Ad} {cur fe : AQ} {O1 : Nat → Prop} (hop : 1 ≤ o ∧ o ≤ 6) (hm : AW m) (h6 : o = 6 → 1 ≤ m) (hrg : rgE l) (hO : Opnd gO cs q n H [⟨.fn f0 a0 w0, some l, cur, fe, O1⟩] q1 n1 H1)  (q3 : H1 gs = some (Ah 3 o m (.sl 1 (v.map aI) .ro) (.sl 5 (AZ p) .ro))) : aw Tryz.prog c43_k5 (fin (OpenP true gO cs q ⟨cur, l.map fun e => (CH o e.1 m, e.2), fe⟩ n H) n [.tmp 4]) ⟨[(3, .ptr gs 0), (5, .sl 1 [.fn f0 a0 w0] (.own g5))], n1, H1⟩ := by
 generalize hR : OpenP _ _ _ _ _ _ _ = R
 have hlO : gO < n1 := by have := hO.lO; have := hO.le; omega
 
 repeat' (first | simp -implicitDefEqProofs [Aw, Ar, Av, As, Az, -getElem?_pos, q3,  splice] | simp (disch := omega) only [A6] | ((with_reducible refine B0 77 ?_); refine ⟨_, Wx hop hm h6 hrg hO.pts ⟨_, _, _, rfl⟩ hO.nO hlO, ?_⟩; rintro r n2 H2 hle2 hsup2 hpost) | ((with_reducible refine B0 71 ?_); refine ⟨_, Dm hpost hO.nO hlO, ?_⟩; rintro r2 n3 H3 hle3 hsup3 hp2) | (with_reducible first | exact AG | refine Bu ?_ | intro _g _hg | refine A5 ?_ ?_ | intro _hc) | omega)
 subst hR
 have hle := hO.le
 have ho := hO.fin_ (by simp) (by simp [AD]) hp2
 exact A9 rfl ho.2.1 hsup3 ho
theorem A1n {l : Ad} {cur fe : AQ} {O1 : Nat → Prop} (hop : 1 ≤ o ∧ o ≤ 3) (hm : AW m) (h3 : o = 3 → 1 ≤ m) (hrg : rgE l) (hO : Opnd gO cs q n H [⟨.fn f0 a0 w0, some l, cur, fe, O1⟩] q1 n1 H1)  (q3 : H1 gs = some (Ah 4 o m (.sl 1 (v.map aI) .ro) (.sl 5 (AZ p) .ro))) : aw Tryz.prog c43_k5 (fin (OpenP true gO cs q ⟨cur, l.filter fun e => FE o e.1 m, fe⟩ n H) n [.tmp 4]) ⟨[(3, .ptr gs 0), (5, .sl 1 [.fn f0 a0 w0] (.own g5))], n1, H1⟩ := by
 generalize hR : OpenP _ _ _ _ _ _ _ = R
 have hlO : gO < n1 := by have := hO.lO; have := hO.le; omega
 
 repeat' (first | simp -implicitDefEqProofs [Aw, Ar, Av, As, Az, -getElem?_pos, q3,  splice] | simp (disch := omega) only [A6] | ((with_reducible refine B0 77 ?_); refine ⟨_, W9 hop hm h3 hrg hO.pts ⟨_, _, _, rfl⟩ hO.nO hlO, ?_⟩; rintro r n2 H2 hle2 hsup2 hpost) | ((with_reducible refine B0 71 ?_); refine ⟨_, Dm hpost hO.nO hlO, ?_⟩; rintro r2 n3 H3 hle3 hsup3 hp2) | (with_reducible first | exact AG | refine Bu ?_ | intro _g _hg | refine A5 ?_ ?_ | intro _hc) | omega)
 subst hR
 have hle := hO.le
 have ho := hO.fin_ (by simp) (by simp [AD]) hp2
 exact A9 rfl ho.2.1 hsup3 ho
theorem Zv {l : Ad} {cur fe : AQ} {O1 : Nat → Prop} (hm : j ≤ 5000) (hO : Opnd gO cs q n H [⟨.fn f0 a0 w0, some l, cur, fe, O1⟩] q1 n1 H1)  (q3 : H1 gs = some (Ah 5 o (j : Nat) (.sl 1 (v.map aI) .ro) (.sl 5 (AZ p) .ro))) : aw Tryz.prog c43_k5 (fin (OpenP true gO cs q ⟨cur, (Da j cur l fe).1, (Da j cur l fe).2⟩ n H) n [.tmp 4]) ⟨[(3, .ptr gs 0), (5, .sl 1 [.fn f0 a0 w0] (.own g5))], n1, H1⟩ := by
 generalize hR : OpenP _ _ _ _ _ _ _ = R
 have hlO : gO < n1 := by have := hO.lO; have := hO.le; omega
 
 repeat' (first | simp -implicitDefEqProofs [Aw, Ar, Av, As, Az, -getElem?_pos, q3,  splice] | simp (disch := omega) only [A6] | ((with_reducible refine B0 77 ?_); refine ⟨_, Vn (m := 0) hm hO.pts ⟨_, _, _, rfl⟩ hO.nO hlO, ?_⟩; rintro r n2 H2 hle2 hsup2 hpost) | ((with_reducible refine B0 71 ?_); refine ⟨_, Dm hpost hO.nO hlO, ?_⟩; rintro r2 n3 H3 hle3 hsup3 hp2) | (with_reducible first | exact AG | refine Bu ?_ | intro _g _hg | refine A5 ?_ ?_ | intro _hc) | omega)
 subst hR
 have hle := hO.le
 have ho := hO.fin_ (by simp) (by simp [AD]) hp2
 exact A9 rfl ho.2.1 hsup3 ho
theorem A0l {l : Ad} {cur fe : AQ} {O1 : Nat → Prop} (hm : j ≤ 5000) (hO : Opnd gO cs q n H [⟨.fn f0 a0 w0, some l, cur, fe, O1⟩] q1 n1 H1)  (q3 : H1 gs = some (Ah 6 o (j : Nat) (.sl 1 (v.map aI) .ro) (.sl 5 (AZ p) .ro))) : aw Tryz.prog c43_k5 (fin (OpenP true gO cs q ⟨cur, l.drop j, fe⟩ n H) n [.tmp 4]) ⟨[(3, .ptr gs 0), (5, .sl 1 [.fn f0 a0 w0] (.own g5))], n1, H1⟩ := by
 generalize hR : OpenP _ _ _ _ _ _ _ = R
 have hlO : gO < n1 := by have := hO.lO; have := hO.le; omega
 
 repeat' (first | simp -implicitDefEqProofs [Aw, Ar, Av, As, Az, -getElem?_pos, q3,  splice] | simp (disch := omega) only [A6] | ((with_reducible refine B0 77 ?_); refine ⟨_, WT (m := 0) hm hO.pts ⟨_, _, _, rfl⟩ hO.nO hlO, ?_⟩; rintro r n2 H2 hle2 hsup2 hpost) | ((with_reducible refine B0 71 ?_); refine ⟨_, Dm hpost hO.nO hlO, ?_⟩; rintro r2 n3 H3 hle3 hsup3 hp2) | (with_reducible first | exact AG | refine Bu ?_ | intro _g _hg | refine A5 ?_ ?_ | intro _hc) | omega)
 subst hR
 have hle := hO.le
 have ho := hO.fin_ (by simp) (by simp [AD]) hp2
 exact A9 rfl ho.2.1 hsup3 ho
theorem A07 {l : Ad} {cur fe : AQ} {O1 : Nat → Prop} (hop : 1 ≤ o ∧ o ≤ 3) (hm : AW m) (h3 : o = 3 → 1 ≤ m) (hrg : rgE l) (hO : Opnd gO cs q n H [⟨.fn f0 a0 w0, some l, cur, fe, O1⟩] q1 n1 H1)  (q3 : H1 gs = some (Ah 7 o m (.sl 1 (v.map aI) .ro) (.sl 5 (AZ p) .ro))) : aw Tryz.prog c43_k5 (fin (OpenP true gO cs q ⟨cur, (Di (fun x => FE o x m) l fe).1, (Di (fun x => FE o x m) l fe).2⟩ n H) n [.tmp 4]) ⟨[(3, .ptr gs 0), (5, .sl 1 [.fn f0 a0 w0] (.own g5))], n1, H1⟩ := by
 generalize hR : OpenP _ _ _ _ _ _ _ = R
 have hlO : gO < n1 := by have := hO.lO; have := hO.le; omega
 
 repeat' (first | simp -implicitDefEqProofs [Aw, Ar, Av, As, Az, -getElem?_pos, q3,  splice] | simp (disch := omega) only [A6] | ((with_reducible refine B0 77 ?_); refine ⟨_, XY hop hm h3 hrg hO.pts ⟨_, _, _, rfl⟩ hO.nO hlO, ?_⟩; rintro r n2 H2 hle2 hsup2 hpost) | ((with_reducible refine B0 71 ?_); refine ⟨_, Dm hpost hO.nO hlO, ?_⟩; rintro r2 n3 H3 hle3 hsup3 hp2) | (with_reducible first | exact AG | refine Bu ?_ | intro _g _hg | refine A5 ?_ ?_ | intro _hc) | omega)
 subst hR
 have hle := hO.le
 have ho := hO.fin_ (by simp) (by simp [AD]) hp2
 exact A9 rfl ho.2.1 hsup3 ho
theorem A0y {l : Ad} {cur fe : AQ} {O1 : Nat → Prop} (hop : 1 ≤ o ∧ o ≤ 3) (hm : AW m) (h3 : o = 3 → 1 ≤ m) (hrg : rgE l) (hO : Opnd gO cs q n H [⟨.fn f0 a0 w0, some l, cur, fe, O1⟩] q1 n1 H1)  (q3 : H1 gs = some (Ah 8 o m (.sl 1 (v.map aI) .ro) (.sl 5 (AZ p) .ro))) : aw Tryz.prog c43_k5 (fin (OpenP true gO cs q ⟨cur, GG (fun x => FE o x m) l, fe⟩ n H) n [.tmp 4]) ⟨[(3, .ptr gs 0), (5, .sl 1 [.fn f0 a0 w0] (.own g5))], n1, H1⟩ := by
 generalize hR : OpenP _ _ _ _ _ _ _ = R
 have hlO : gO < n1 := by have := hO.lO; have := hO.le; omega
 
 repeat' (first | simp -implicitDefEqProofs [Aw, Ar, Av, As, Az, -getElem?_pos, q3,  splice] | simp (disch := omega) only [A6] | ((with_reducible refine B0 77 ?_); refine ⟨_, Wv hop hm h3 hrg hO.pts ⟨_, _, _, rfl⟩ hO.nO hlO, ?_⟩; rintro r n2 H2 hle2 hsup2 hpost) | ((with_reducible refine B0 71 ?_); refine ⟨_, Dm hpost hO.nO hlO, ?_⟩; rintro r2 n3 H3 hle3 hsup3 hp2) | (with_reducible first | exact AG | refine Bu ?_ | intro _g _hg | refine A5 ?_ ?_ | intro _hc) | omega)
 subst hR
 have hle := hO.le
 have ho := hO.fin_ (by simp) (by simp [AD]) hp2
 exact A9 rfl ho.2.1 hsup3 ho
theorem A19 {l : Ad} {cur fe : AQ} {O1 : Nat → Prop} (hop : 1 ≤ o ∧ o ≤ 5) (hm : AW m) (hrg : rgE l) (hO : Opnd gO cs q n H [⟨.fn f0 a0 w0, some l, cur, fe, O1⟩] q1 n1 H1)  (q3 : H1 gs = some (Ah 9 o m (.sl 1 (v.map aI) .ro) (.sl 5 (AZ p) .ro))) : aw Tryz.prog c43_k5 (fin (OpenP true gO cs q ⟨cur, IT (CH o) m l, fe⟩ n H) n [.tmp 4]) ⟨[(3, .ptr gs 0), (5, .sl 1 [.fn f0 a0 w0] (.own g5))], n1, H1⟩ := by
 generalize hR : OpenP _ _ _ _ _ _ _ = R
 have hlO : gO < n1 := by have := hO.lO; have := hO.le; omega
 
 repeat' (first | simp -implicitDefEqProofs [Aw, Ar, Av, As, Az, -getElem?_pos, q3,  splice] | simp (disch := omega) only [A6] | ((with_reducible refine B0 77 ?_); refine ⟨_, Wb hop hm hrg hO.pts ⟨_, _, _, rfl⟩ hO.nO hlO, ?_⟩; rintro r n2 H2 hle2 hsup2 hpost) | ((with_reducible refine B0 71 ?_); refine ⟨_, Dm hpost hO.nO hlO, ?_⟩; rintro r2 n3 H3 hle3 hsup3 hp2) | (with_reducible first | exact AG | refine Bu ?_ | intro _g _hg | refine A5 ?_ ?_ | intro _hc) | omega)
 subst hR
 have hle := hO.le
 have ho := hO.fin_ (by simp) (by simp [AD]) hp2
 exact A9 rfl ho.2.1 hsup3 ho
theorem Z6 {l : Ad} {cur fe : AQ} {O1 : Nat → Prop} (hop : 1 ≤ o ∧ o ≤ 5) (hm : 1 ≤ j ∧ j ≤ 8) (hrg : rgE l) (hO : Opnd gO cs q n H [⟨.fn f0 a0 w0, some l, cur, fe, O1⟩] q1 n1 H1)  (q3 : H1 gs = some (Ah 10 o (j : Nat) (.sl 1 (v.map aI) .ro) (.sl 5 (AZ p) .ro))) : aw Tryz.prog c43_k5 (fin (OpenP true gO cs q ⟨cur, EB (CH o) j [] l, fe⟩ n H) n [.tmp 4]) ⟨[(3, .ptr gs 0), (5, .sl 1 [.fn f0 a0 w0] (.own g5))], n1, H1⟩ := by
 generalize hR : OpenP _ _ _ _ _ _ _ = R
 have hlO : gO < n1 := by have := hO.lO; have := hO.le; omega
 
 repeat' (first | simp -implicitDefEqProofs [Aw, Ar, Av, As, Az, -getElem?_pos, q3,  splice] | simp (disch := omega) only [A6] | ((with_reducible refine B0 77 ?_); refine ⟨_, UQ (m := 0) hop hm hrg hO.pts ⟨_, _, _, rfl⟩ hO.nO hlO, ?_⟩; rintro r n2 H2 hle2 hsup2 hpost) | ((with_reducible refine B0 71 ?_); refine ⟨_, Dm hpost hO.nO hlO, ?_⟩; rintro r2 n3 H3 hle3 hsup3 hp2) | (with_reducible first | exact AG | refine Bu ?_ | intro _g _hg | refine A5 ?_ ?_ | intro _hc) | omega)
 subst hR
 have hle := hO.le
 have ho := hO.fin_ (by simp) (by simp [AD]) hp2
 exact A9 rfl ho.2.1 hsup3 ho
theorem Xq {l : Ad} {cur fe : AQ} {O1 : Nat → Prop} (hrg : rgE l) (hO : Opnd gO cs q n H [⟨.fn f0 a0 w0, some l, cur, fe, O1⟩] q1 n1 H1)  (q3 : H1 gs = some (Ah 11 o m (.sl 1 (v.map aI) .ro) (.sl 5 (AZ p) .ro))) : aw Tryz.prog c43_k5 (fin (OpenP true gO cs q ⟨cur, GB (-1) l, fe⟩ n H) n [.tmp 4]) ⟨[(3, .ptr gs 0), (5, .sl 1 [.fn f0 a0 w0] (.own g5))], n1, H1⟩ := by
 generalize hR : OpenP _ _ _ _ _ _ _ = R
 have hlO : gO < n1 := by have := hO.lO; have := hO.le; omega
 
 repeat' (first | simp -implicitDefEqProofs [Aw, Ar, Av, As, Az, -getElem?_pos, q3,  splice] | simp (disch := omega) only [A6] | ((with_reducible refine B0 77 ?_); refine ⟨_, UU hrg hO.pts ⟨_, _, _, rfl⟩ hO.nO hlO, ?_⟩; rintro r n2 H2 hle2 hsup2 hpost) | ((with_reducible refine B0 71 ?_); refine ⟨_, Dm hpost hO.nO hlO, ?_⟩; rintro r2 n3 H3 hle3 hsup3 hp2) | (with_reducible first | exact AG | refine Bu ?_ | intro _g _hg | refine A5 ?_ ?_ | intro _hc) | omega)
 subst hR
 have hle := hO.le
 have ho := hO.fin_ (by simp) (by simp [AD]) hp2
 exact A9 rfl ho.2.1 hsup3 ho
theorem WB {l : Ad} {cur fe : AQ} {O1 : Nat → Prop}  (hO : Opnd gO cs q n H [⟨.fn f0 a0 w0, some l, cur, fe, O1⟩] q1 n1 H1)  (q3 : H1 gs = some (Ah 12 o 0 (.sl 1 (v.map aI) .ro) (.sl 5 (AZ p) .ro))) : aw Tryz.prog c43_k5 (fin (OpenP true gO cs q ⟨cur, [], cur⟩ n H) n [.tmp 4]) ⟨[(3, .ptr gs 0), (5, .sl 1 [.fn f0 a0 w0] (.own g5))], n1, H1⟩ := by
 generalize hR : OpenP _ _ _ _ _ _ _ = R
 have hlO : gO < n1 := by have := hO.lO; have := hO.le; omega
 
 repeat' (first | simp -implicitDefEqProofs [Aw, Ar, Av, As, Az, -getElem?_pos, q3,  splice] | simp (disch := omega) only [A6] | ((with_reducible refine B0 77 ?_); refine ⟨_, SA (m := 0) hO.pts ⟨_, _, _, rfl⟩ hO.nO hlO, ?_⟩; rintro r n2 H2 hle2 hsup2 hpost) | ((with_reducible refine B0 71 ?_); refine ⟨_, Dm hpost hO.nO hlO, ?_⟩; rintro r2 n3 H3 hle3 hsup3 hp2) | (with_reducible first | exact AG | refine Bu ?_ | intro _g _hg | refine A5 ?_ ?_ | intro _hc) | omega)
 subst hR
 have hle := hO.le
 have ho := hO.fin_ (by simp) (by simp [AD]) hp2
 exact A9 rfl ho.2.1 hsup3 ho
theorem YB {l : Ad} {cur fe : AQ} {O1 : Nat → Prop} (hm : 1 ≤ j ∧ j ≤ 20) (hl : l.length ≤ 5000) (hO : Opnd gO cs q n H [⟨.fn f0 a0 w0, some l, cur, fe, O1⟩] q1 n1 H1)  (q3 : H1 gs = some (Ah 12 o (j : Nat) (.sl 1 (v.map aI) .ro) (.sl 5 (AZ p) .ro))) : aw Tryz.prog c43_k5 (fin (OpenP true gO cs q ⟨cur, l ++ DJ (l.map (·.1)) fe (j - 1), fe⟩ n H) n [.tmp 4]) ⟨[(3, .ptr gs 0), (5, .sl 1 [.fn f0 a0 w0] (.own g5))], n1, H1⟩ := by
 generalize hR : OpenP _ _ _ _ _ _ _ = R
 have hlO : gO < n1 := by have := hO.lO; have := hO.le; omega
 
 repeat' (first | simp -implicitDefEqProofs [Aw, Ar, Av, As, Az, -getElem?_pos, q3,  splice] | simp (disch := omega) only [A6] | ((with_reducible refine B0 77 ?_); refine ⟨_, Tr (m := 0) hm hl hO.pts ⟨_, _, _, rfl⟩ hO.nO hlO, ?_⟩; rintro r n2 H2 hle2 hsup2 hpost) | ((with_reducible refine B0 71 ?_); refine ⟨_, Dm hpost hO.nO hlO, ?_⟩; rintro r2 n3 H3 hle3 hsup3 hp2) | (with_reducible first | exact AG | refine Bu ?_ | intro _g _hg | refine A5 ?_ ?_ | intro _hc) | omega)
 subst hR
 have hle := hO.le
 have ho := hO.fin_ (by simp) (by simp [AD]) hp2
 exact A9 rfl ho.2.1 hsup3 ho
end
theorem A1j {s : St} (h : smS s) : Ac s ≤ 5000 := by cases s; exact h.1
theorem Ym {p : Pt} (h : p.fut = F) (ha : (∃ l, p.l = some l) ∧ Cp p.x) : ∃ f a b O, p = ⟨.fn f a b, some F.l, F.cur, F.fin, O⟩ := by
 obtain ⟨x, l, cur, fe, O⟩ := p
 obtain ⟨⟨l, rfl⟩, f, a, b, rfl⟩ := ha
 subst h
 exact ⟨f, a, b, O, rfl⟩
theorem Vr {gO n n1 gs g5 : Nat} {cs : AQ} {q q1 : Option Nat} {H H1 : A1} {ps : List Pt} {k o m : Int} {v : List Int} {p : List St} (hN : NodeOk k o m v p) (hok : okP p) (hsm : smP p) (h1 : k ≠ 1) (h2 : k ≠ 2) (h60 : p.length ≤ 60) (hF : ps.map Pt.fut = p.map AR) (hO : Opnd gO cs q n H ps q1 n1 H1) (hps : ps ≠ []) (q3 : H1 gs = some (Ah k o m (.sl 1 (v.map aI) .ro) (.sl 5 (AZ p) .ro))) :
  aw Tryz.prog c43_k5 (fin (OpenP true gO cs q (AR (.mk k o m v p)) n H) n [.tmp 4]) ⟨[(3, .ptr gs 0), (5, .sl 1 (ps.map Pt.x) (.own g5))], n1, H1⟩ := by
 have hpl : ps.length = p.length := by have := congrArg List.length hF; simpa using this
 by_cases h13 : k = 13
 ·subst h13
  have e : AR (.mk 13 o m v p) = BU (ps.map Pt.fut) := by rw [AR, D5, ← hF]; simp [DZ]
  rw [e]; exact Zg (by omega) hO hps q3
 by_cases h14 : k = 14
 ·subst h14
  have e : AR (.mk 14 o m v p) = Dc (ps.map Pt.fut) := by rw [AR, D5, ← hF]; simp [DZ]
  rw [e]; exact YW (by omega) hO hps q3
 by_cases h15 : k = 15 ∨ k = 16
 ·obtain ⟨x, y, rfl⟩ : ∃ x y, p = [x, y] := by
   match p, hN.two h15 with
   | [x, y], _ => exact ⟨x, y, rfl⟩
  obtain ⟨pa, pb, rfl⟩ : ∃ pa pb, ps = [pa, pb] := by
   match ps, hpl with
   | [pa, pb], _ => exact ⟨pa, pb, rfl⟩
  simp only [List.map_cons, List.map_nil, List.cons.injEq, and_true] at hF
  obtain ⟨f0, a0, w0, O1, rfl⟩ := Ym hF.1 (hO.all pa (by simp))
  obtain ⟨f1, a1, w1, O2, rfl⟩ := Ym hF.2 (hO.all pb (by simp))
  have bx := IN x hok.1
  have by_ := IN y hok.2.1
  rcases h15 with rfl | rfl
  ·have e : AR (.mk 15 o m v [x, y]) = ⟨(AR x).cur ++ (AR y).cur, (De (CH o) (AR x).fin (AR y).fin (AR x).l (AR y).cur (AR y).l).1, (De (CH o) (AR x).fin (AR y).fin (AR x).l (AR y).cur (AR y).l).2⟩ := by simp [AR, BA, DZ]
   rw [e]
   have hfn := hN.fn (by decide)
   exact ZQ (by omega) bx.2 by_.2 hO q3
  ·have e : AR (.mk 16 o m v [x, y]) = ⟨(AR x).cur ++ (AR y).cur, Bf (AR x).fin (AR y).fin (AR x).l (AR y).l, (AR x).fin ++ (AR y).fin⟩ := by simp [AR, BA, DZ]
   rw [e]
   exact ZL hO q3
 have hk1 := hN.k1
 have hk2 := hN.k2
 obtain ⟨x, rfl⟩ : ∃ x, p = [x] := by
  match p, hN.one h1 h2 h13 h14 (by omega) (by omega) with
  | [x], _ => exact ⟨x, rfl⟩
 obtain ⟨pa, rfl⟩ : ∃ pa, ps = [pa] := by
  match ps, hpl with
  | [pa], _ => exact ⟨pa, rfl⟩
 simp only [List.map_cons, List.map_nil, List.cons.injEq, and_true] at hF
 obtain ⟨f0, a0, w0, O1, rfl⟩ := Ym hF (hO.all pa (by simp))
 have bx := IN x hok.1
 have hb5 := A1j hsm.1
 have e : AR (.mk k o m v [x]) = B6 k o m (AR x) := by simp [AR, BA, DZ, h1, h2, h13, h14]
 rw [e]
 generalize AR x = F at *
 have hfn := hN.fn
 have hcd := hN.cnd
 have hnm := hN.num
 by_cases k3 : k = 3
 ·subst k3
  have h1 := hfn (by decide); have h2 := hnm (by decide)
  simp only [Io, Iv, Cj] at h2
  rw [show B6 3 o m F = ⟨F.cur, F.l.map fun e => (CH o e.1 m, e.2), F.fin⟩ by simp [B6]]
  exact A1a (o := o) (m := m) (by omega) (show AW m by unfold AW; grind) (by grind) bx.2 hO q3
 by_cases k4 : k = 4
 ·subst k4
  have h1 := hcd (by decide); have h2 := hnm (by decide)
  simp only [Io, Iv, Cj] at h2
  rw [show B6 4 o m F = ⟨F.cur, F.l.filter fun e => FE o e.1 m, F.fin⟩ by simp [B6]]
  exact A1n (o := o) (m := m) (by omega) (show AW m by unfold AW; grind) (by grind) bx.2 hO q3
 by_cases k5 : k = 5
 ·subst k5
  have h2 := hnm (by decide)
  simp only [Io, Iv, Cj] at h2
  obtain ⟨j, rfl⟩ : ∃ j : Nat, m = j := ⟨m.toNat, by grind⟩
  rw [show B6 5 o j F = ⟨F.cur, (Da j F.cur F.l F.fin).1, (Da j F.cur F.l F.fin).2⟩ by simp [B6]]
  exact Zv (j := j) (by grind) hO q3
 by_cases k6 : k = 6
 ·subst k6
  have h2 := hnm (by decide)
  simp only [Io, Iv, Cj] at h2
  obtain ⟨j, rfl⟩ : ∃ j : Nat, m = j := ⟨m.toNat, by grind⟩
  rw [show B6 6 o j F = ⟨F.cur, F.l.drop j, F.fin⟩ by simp [B6]]
  exact A0l (j := j) (by grind) hO q3
 by_cases k7 : k = 7
 ·subst k7
  have h1 := hcd (by decide); have h2 := hnm (by decide)
  simp only [Io, Iv, Cj] at h2
  rw [show B6 7 o m F = ⟨F.cur, (Di (fun x => FE o x m) F.l F.fin).1, (Di (fun x => FE o x m) F.l F.fin).2⟩ by simp [B6]]
  exact A07 (o := o) (m := m) (by omega) (show AW m by unfold AW; grind) (by grind) bx.2 hO q3
 by_cases k8 : k = 8
 ·subst k8
  have h1 := hcd (by decide); have h2 := hnm (by decide)
  simp only [Io, Iv, Cj] at h2
  rw [show B6 8 o m F = ⟨F.cur, GG (fun x => FE o x m) F.l, F.fin⟩ by simp [B6]]
  exact A0y (o := o) (m := m) (by omega) (show AW m by unfold AW; grind) (by grind) bx.2 hO q3
 by_cases k9 : k = 9
 ·subst k9
  have h1 := hfn (by decide); have h2 := hnm (by decide)
  simp only [Io, Iv, Cj] at h2
  rw [show B6 9 o m F = ⟨F.cur, IT (CH o) m F.l, F.fin⟩ by simp [B6]]
  exact A19 (o := o) (m := m) (by omega) (show AW m by unfold AW; grind) bx.2 hO q3
 by_cases k10 : k = 10
 ·subst k10
  have h1 := hfn (by decide); have h2 := hnm (by decide)
  simp only [Io, Iv, Cj] at h2
  obtain ⟨j, rfl⟩ : ∃ j : Nat, m = j := ⟨m.toNat, by grind⟩
  rw [show B6 10 o j F = ⟨F.cur, EB (CH o) j [] F.l, F.fin⟩ by simp [B6]]
  exact Z6 (o := o) (j := j) (by omega) (by grind) bx.2 hO q3
 by_cases k11 : k = 11
 ·subst k11
  rw [show B6 11 o m F = ⟨F.cur, GB (-1) F.l, F.fin⟩ by simp [B6]]
  exact Xq (o := o) (m := m) bx.2 hO q3
 have k12 : k = 12 := by omega
 subst k12
 have h2 := hnm (by decide)
 simp only [Io, Iv, Cj] at h2
 obtain ⟨j, rfl⟩ : ∃ j : Nat, m = j := ⟨m.toNat, by grind⟩
 by_cases j0 : j = 0
 ·subst j0
  rw [show B6 12 o (0 : Nat) F = ⟨F.cur, [], F.cur⟩ by simp [B6, FR]]
  exact WB (o := o) hO q3
 ·rw [show B6 12 o j F = ⟨F.cur, F.l ++ DJ (F.l.map (·.1)) F.fin (j - 1), F.fin⟩ by simp [B6, FR, j0]]
  exact YB (o := o) (j := j) (by grind) (by omega) hO q3
theorem A0m {n n0 : Nat} {res : List ARes} {e : AExit} {s : AS} (hn : n ≤ n0) (hR : ∀ r n' H', n0 ≤ n' → R r n' H' → R' r n' H') (h : fin R n0 res e s) : fin R' n res e s := by
 cases e with
 | normal => obtain ⟨r, n', H', h1, h2, h3, h4, h5, h6⟩ := h; exact ⟨r, n', H', h1, by omega, h3, h4, h5, hR _ _ _ h2 h6⟩
 | ret => obtain ⟨r, n', H', h1, h2, h3, h4, h5, h6⟩ := h; exact ⟨r, n', H', h1, by omega, h3, h4, h5, hR _ _ _ h2 h6⟩
 | exit id => exact h
abbrev A2a (k o m : Int) (v : List Int) (p : List St) : Prop := ∀ {gO n n1 gs g5 : Nat} {cs : AQ} {q q1 : Option Nat} {H H1 : A1} {ps : List Pt}, ps.map Pt.fut = p.map AR → Opnd gO cs q n H ps q1 n1 H1 → ps ≠ [] → H1 gs = some (Ah k o m (.sl 1 (v.map aI) .ro) (.sl 5 (AZ p) .ro)) → aw Tryz.prog c43_k5 (fin (OpenP true gO cs q (AR (.mk k o m v p)) n H) n [.tmp 4]) ⟨[(3, .ptr gs 0), (5, .sl 1 (ps.map Pt.x) (.own g5))], n1, H1⟩
theorem Z1 {k o m : Int} {v : List Int} {p : List St} (hd : A2a k o m v p) (hp0 : p ≠ []) (hsz : 1 + CX p ≤ 60) (hx : ∀ x ∈ p, LA x) : LA (.mk k o m v p) := by
 intro gO n H cs q hcs hL
 simp only [Bj] at hcs
 have h60 : p.length ≤ 60 := by have := EI p; omega
 have hpl := Bn p
 have hl0 : ¬ p.length = 0 := fun e => hp0 (List.length_eq_zero_iff.1 e)
 have hl0' : ¬ (p.length : Int) = 0 := by omega
 unfold A2a at hd
 generalize hR : OpenP _ _ _ _ _ _ _ = R
 rw [AN]
 refine A2 Tryz.func43 A2f rfl fun hs => ?_
 obtain ⟨hO, hgn⟩ := hL.lt hs
 repeat' (first | simp -implicitDefEqProofs [c43, Km, -getElem?_pos, hpl, hl0, hl0', splice] | simp (disch := omega) only [A6] | (with_reducible first | exact AG | refine Bu ?_ | intro _g _hg | refine A5 ?_ ?_ | intro _hc) | omega)
 refine Ue (gO := gO) (n := _g + 1) (gs := _g) (cs := cs) (q := q) (k := k) (o := o) (m := m) (v := v) hp0 h60 (by omega) hx (hL.more hs (fun k hk => by simp (disch := omega) only [upd_ne])) (fun k hk => by simp (disch := omega) only [upd_ne]; exact hs k (by omega)) (by omega) (by omega) (fun e => by have := hgn _ e; omega) (by simp (disch := omega) only [upd_ne, AP] <;> rfl) n ?_
 intro ps q1 n1 H1 g5 hO2 hF q3
 subst hR
 have hps : ps ≠ [] := by
  intro e
  subst e
  have := congrArg List.length hF
  simp at this
  exact hp0 (List.length_eq_zero_iff.1 this.symm)
 refine II (hd hF hO2 hps q3) fun e st he => A0m (by omega) (fun r n' H' _ h => h.up (by omega) (fun k hk => by simp (disch := omega) only [upd_ne]) fun g hg => (hgn g hg).1) he
theorem A3b (s : St) : EG s → T8 s → smS s → Bj s ≤ 60 → LA s := by
 refine St.ind (Q := fun s => EG s → T8 s → smS s → Bj s ≤ 60 → LA s) ?_ s
 intro k o m v p ih hfit hok hsm hsz
 obtain ⟨hv, hp, hpp⟩ := hfit
 obtain ⟨hn, hop⟩ := hok
 have hN := Hk hn
 simp only [Bj] at hsz
 by_cases hlf : k = 1 ∨ k = 2
 ·have hp0 := hN.leaf hlf
  subst hp0
  exact fun gO n H cs q hcs hL => X7 hlf hN hv (by omega) hL
 have hp0 : p ≠ [] := by
  intro e
  subst e
  by_cases h13 : k = 13 ∨ k = 14
  ·exact hN.many h13 rfl
  ·by_cases h15 : k = 15 ∨ k = 16
   ·have := hN.two h15; simp at this
   ·have := hN.one (by omega) (by omega) (by omega) (by omega) (by omega) (by omega); simp at this
 have h60 : p.length ≤ 60 := by have := EI p; omega
 exact Z1 (fun hF hO hps q3 => Vr hN hop hsm.2 (by omega) (by omega) h60 hF hO hps q3) hp0 (by omega) fun x hx => ih x hx (EF hpp x hx) (GM hop x hx) (Rc hsm.2 x hx) (by have := Fz x hx; omega)
end Go.Proofs.YtjdccdelcnmocaaGreatDoor
