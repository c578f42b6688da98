/- Streams: sources of one part are made: repetitions, and all of them; no condition. -/
import Derived.Test.YtjdccdelcnmocaaGreatDoorMgJ
import Derived.Test.YtjdccdelcnmocaaGreatDoorMdN
import Derived.Test.YtjdccdelcnmocaaGreatDoorMdL
set_option linter.all false
set_option linter.unusedSimpArgs false
set_option linter.unusedVariables false
set_option maxHeartbeats 2000000
namespace Go.Proofs.YtjdccdelcnmocaaGreatDoor
attribute [local simp] Nr F6 Ej Lh Ke MA LY F0 Eg HW HP NA KJ Mo MQ Ml MY LL L9 N3 KY MH MN Nf Nu T7 pe Ki LQ Kx Ng Kw LB Lq Nv LZ NX Nn LI LF FP Mq Ku Mb Kp N6 MX KD Mg Mh M7 Kg Kl KZ NM LC Lc K9 LN NY NC N7 FB M6 Ei Lt N5 Nc Mx N9 KQ LJ Nt KX NQ MM NU MS L4 Nq MW Lx LE Md LD Mt L3 Ka NO Kf Eu NG Mr MD Lv LR NS NL Mv KO Kb KA NI Ma KH Lr KF N1 Mw LW NK M1 Mp LH Mj L8 LX MR MG Nh N2 LG NN List.mem_cons guardK Df Fh GG HG LO Ek EW FD FE Ep Eb F1 EY FM Mz Me Ew KT KP Nm Mn NF Kz Em Mf Ni N8 Ns KK Kj H8 Ef F8 Ex Ev M5 LU En Ms FI M3 F2 Ey MU Er FJ NP MP Lw LP L1 LT N0 Lm T8 Ji Jj ID Jk Jo Jd EL Gi Ge Ky Gm Gc EK Dd UH JV Jg GZ K4 K2 EI EJ Bv Bb Ck DF AI ev get put I1 AO Dv Lu Ko Lo MZ Nk KI FU part Bo I4 Lf I7 isNil D9 DC FT DW Cu L0 ME My MJ LV K0 MK Km KG Na KN NV Ld NZ MC K8 AV.fits AV.cells ones AV.one FZ D6 FV EV Gp Ff M4 Hg HJ D8 Bm CA EZ Hz AK Bl Vy HI MO M9 List.getElem?_cons_zero List.getElem?_cons_succ El EX FC Nb Lj Mc IJ L6 LM Kv Lp Mk L5 N4 MV KL Kt M2
section
variable {gO lo n : Nat} {fin cur : AZ} {px : AV} {l : As} {O1 : Nat → Prop} {H : A2}
theorem VP (h : Pts gO lo [⟨px, some l, cur, fin, O1⟩] H n) (hx : Cj px) (hnO : ¬ OU [⟨px, some l, cur, fin, O1⟩] gO) (hO : gO < n) : ACalls Tryz.prog 117 [aI 0, px] n H (NewS false gO lo ⟨cur, [], cur⟩ (OU [⟨px, some l, cur, fin, O1⟩]) n H) := by
 generalize hR : NewS _ _ _ _ _ _ _ = R
 obtain ⟨hraw0, hmon, hb1⟩ := Ca h
 have hxf := hx
 have hb := h.bel
 have hc1 : AM [⟨px, some l, cur, fin, O1⟩] = cur := by simp [AM]
 have hOU : O1 = OU [⟨px, some l, cur, fin, O1⟩] := funext fun g => propext ⟨fun h => .inl h, fun h => h.elim id fun h => h.elim⟩
 have hraw : Raw true gO lo fin px l cur (OU [⟨px, some l, cur, fin, O1⟩]) H n := by rw [← hOU]; exact hraw0
 obtain ⟨ff, fa, fb, rfl⟩ := hx
 refine A8 Tryz.func117 YN rfl fun hs => ?_
 repeat' (first | (simp -implicitDefEqProofs [c117, -getElem?_pos, splice, -AI]) | (simp (disch := omega) only [AB]) | (with_reducible first | refine A5 ?_ ?_ ?_ | exact A7 | assumption | refine A0 ?_ | refine KM.of ?_ | refine AA ?_ | refine A1 ?_ | refine A3 ?_ | intro _g _hg | refine A9 ?_ ?_ | intro _hc) | omega)
 rename_i ga hga gb hgb gc hgc
 subst hR
 have hrec := S9 (gO := gO) (lo := lo) (g1 := ga) (g2 := _g) (g3 := gb) (g4 := gc) (a := Bc (-1)) (b := Bn (.fn ff fa fb)) (c := I3 [] 0 .nil) cur _ (upd (upd (upd (upd (upd H ga (some (Bc (0)))) gb (some (Bn (.fn ff fa fb)))) gc (some (I3 [] 0 .nil))) _g (some (Bc 0))) _g (some (Bc (-1)))) (_g + 1) hnO (fun g hg => by have := hb g hg; omega) (Bx.new hb hO (by omega) (by omega) (by simp (disch := omega) only [upd_ne, AK] <;> rfl)) (Bx.new hb hO (by omega) (by omega) (by simp (disch := omega) only [upd_ne, AK] <;> rfl)) (Bx.new hb hO (by omega) (by omega) (by simp (disch := omega) only [upd_ne, AK] <;> rfl)) (Bx.new hb hO (by omega) (by omega) (by simp (disch := omega) only [upd_ne, AK] <;> rfl))
 refine AH (r := .fn _ [] [.ptr ga 0, .ptr _g 0, .ptr gb 0, .ptr gc 0]) rfl (by omega) (fun k hk => by simp (disch := omega) only [upd_ne]; exact hs k (by omega)) ⟨⟨_, _, _, rfl⟩, by omega, (fun k hk => by simp (disch := omega) only [upd_ne]), (fun k hk => by simp (disch := omega) only [upd_ne]; exact hs k (by omega)), fun g => OU [⟨.fn ff fa fb, some l, cur, fin, O1⟩] g ∨ (g = ga ∨ g = _g ∨ g = gb ∨ g = gc), ?_, ?_, hrec⟩
 ·rintro g (h | h | h | h | h)
  ·exact .inl h
  ·exact .inr (by omega)
  ·exact .inr (by omega)
  ·exact .inr (by omega)
  ·exact .inr (by omega)
 ·rintro g (h | h | h | h | h)
  ·have := hb g h; omega
  ·omega
  ·omega
  ·omega
  ·omega
theorem WU {m : Nat} (hm : 1 ≤ m ∧ m ≤ 20) (hl : l.length ≤ 5000) (h : Pts gO lo [⟨px, some l, cur, fin, O1⟩] H n) (hx : Cj px) (hnO : ¬ OU [⟨px, some l, cur, fin, O1⟩] gO) (hO : gO < n) : ACalls Tryz.prog 117 [aI m, px] n H (NewS false gO lo ⟨cur, l ++ Fd (l.map (·.1)) fin (m - 1), fin⟩ (OU [⟨px, some l, cur, fin, O1⟩]) n H) := by
 generalize hR : NewS _ _ _ _ _ _ _ = R
 obtain ⟨hraw0, hmon, hb1⟩ := Ca h
 have hxf := hx
 have hb := h.bel
 have hc1 : AM [⟨px, some l, cur, fin, O1⟩] = cur := by simp [AM]
 have hOU : O1 = OU [⟨px, some l, cur, fin, O1⟩] := funext fun g => propext ⟨fun h => .inl h, fun h => h.elim id fun h => h.elim⟩
 have hraw : Raw true gO lo fin px l cur (OU [⟨px, some l, cur, fin, O1⟩]) H n := by rw [← hOU]; exact hraw0
 obtain ⟨ff, fa, fb, rfl⟩ := hx
 have hOT : (fun g => OU [⟨.fn ff fa fb, some l, cur, fin, O1⟩] g ∨ Bd .nil g) = OU [⟨.fn ff fa fb, some l, cur, fin, O1⟩] := funext fun g => propext ⟨fun h => h.elim id fun h => h.elim, .inl⟩
 refine A8 Tryz.func117 YN rfl fun hs => ?_
 repeat' (first | (simp -implicitDefEqProofs [c117, -getElem?_pos, splice, -AI]) | (simp (disch := omega) only [AB]) | (with_reducible first | refine A5 ?_ ?_ ?_ | exact A7 | assumption | refine A0 ?_ | refine KM.of ?_ | refine AA ?_ | refine A1 ?_ | refine A3 ?_ | intro _g _hg | refine A9 ?_ ?_ | intro _hc) | omega)
 rename_i ga hga gb hgb gc hgc
 subst hR
 have hrec := UF hxf (show ga ≠ _g by omega) (show ga ≠ gb by omega) (show ga ≠ gc by omega) (show _g ≠ gb by omega) (show _g ≠ gc by omega) (show gb ≠ gc by omega) hm l [] cur 0 .nil O1 _ (upd (upd (upd (upd (upd H ga (some (Bc (m)))) gb (some (Bn (.fn ff fa fb)))) gc (some (I3 [] 0 .nil))) _g (some (Bc 0))) _g (some (Bc (-1)))) (_g + 1) (by simpa using hl) (h.newB (by omega) (fun k hk => by simp (disch := omega) only [upd_ne])) hOT (fun g h => h.elim) rfl (.inr ⟨rfl, rfl⟩) hnO (Bx.new hb hO (by omega) (by omega) (by simp (disch := omega) only [upd_ne, AK] <;> rfl)) (Bx.new hb hO (by omega) (by omega) (by simp (disch := omega) only [upd_ne, AK] <;> rfl)) (Bx.new hb hO (by omega) (by omega) (by simp (disch := omega) only [upd_ne, AK] <;> rfl)) (Bx.new hb hO (by omega) (by omega) (by simp (disch := omega) only [upd_ne, AK] <;> rfl))
 simp only [AM, List.append_nil] at hrec
 rw [List.nil_append] at hrec
 refine AH (r := .fn _ [] [.ptr ga 0, .ptr _g 0, .ptr gb 0, .ptr gc 0]) rfl (by omega) (fun k hk => by simp (disch := omega) only [upd_ne]; exact hs k (by omega)) ⟨⟨_, _, _, rfl⟩, by omega, (fun k hk => by simp (disch := omega) only [upd_ne]), (fun k hk => by simp (disch := omega) only [upd_ne]; exact hs k (by omega)), fun g => OU [⟨.fn ff fa fb, some l, cur, fin, O1⟩] g ∨ (g = ga ∨ g = _g ∨ g = gb ∨ g = gc), ?_, ?_, hrec⟩
 ·rintro g (h | h | h | h | h)
  ·exact .inl h
  ·exact .inr (by omega)
  ·exact .inr (by omega)
  ·exact .inr (by omega)
  ·exact .inr (by omega)
 ·rintro g (h | h | h | h | h)
  ·have := hb g h; omega
  ·omega
  ·omega
  ·omega
  ·omega
theorem NewS.up {e : Bool} {F : Fut} {O : Nat → Prop} {n1 n' : Nat} {H1 H' : A2} {r : AV} (h : NewS e gO lo F O n1 H1 r n' H') (hn : n ≤ n1) (hs : SameB n H H1) : NewS e gO lo F O n H r n' H' := by
 obtain ⟨h1, h2, h3, h4, O', h5, h6, h7⟩ := h
 exact ⟨h1, by omega, fun k hk => (h3 k (by omega)).trans (hs k hk), h4, O', fun g hg => (h5 g hg).imp id (fun h => by omega), h6, h7⟩
theorem Vj {op m : Int} {va vb : List AV} (hop : 1 ≤ op ∧ op ≤ 6) (hm : Az m) (h6 : op = 6 → 1 ≤ m) (hrg : rgE l) (h : Pts gO lo [⟨px, some l, cur, fin, O1⟩] H n) (hx : Cj px) (hnO : ¬ OU [⟨px, some l, cur, fin, O1⟩] gO) (hO : gO < n) : ACalls Tryz.prog 77 [.agg [aI 3, aI op, aI m, .sl 1 va .ro, .sl 5 vb .ro], px] n H (NewS false gO lo ⟨cur, l.map fun e => (EU op e.1 m, e.2), fin⟩ (OU [⟨px, some l, cur, fin, O1⟩]) n H) := by
 generalize hR : NewS _ _ _ _ _ _ _ = R
 obtain ⟨hraw0, hmon, hb1⟩ := Ca h
 have hxf := hx
 have hb := h.bel
 have hc1 : AM [⟨px, some l, cur, fin, O1⟩] = cur := by simp [AM]
 have hOU : O1 = OU [⟨px, some l, cur, fin, O1⟩] := funext fun g => propext ⟨fun h => .inl h, fun h => h.elim id fun h => h.elim⟩
 have hraw : Raw true gO lo fin px l cur (OU [⟨px, some l, cur, fin, O1⟩]) H n := by rw [← hOU]; exact hraw0
 obtain ⟨ff, fa, fb, rfl⟩ := hx
 refine A8 Tryz.func77 IF rfl fun hs => ?_
 repeat' (first | (simp -implicitDefEqProofs [CT, Ci, CV, CZ, Cd, CW, Cf, Cg, CS, Bu, c77, -getElem?_pos, splice, -AI]) | (simp (disch := omega) only [AB]) | (with_reducible first | refine A5 ?_ ?_ ?_ | exact A7 | assumption | refine A0 ?_ | refine KM.of ?_ | refine AA ?_ | refine A1 ?_ | refine A3 ?_ | intro _g _hg | refine A9 ?_ ?_ | intro _hc) | omega)
 rename_i ga hga
 subst hR
 have hrec := Yn (g1 := _g) (g2 := ga) (k := 3) (a := .sl 1 va .ro) (b := .sl 5 vb .ro) hop hm h6 l cur _ (upd (upd H ga (some (AY 3 op m (.sl 1 va .ro) (.sl 5 vb .ro)))) _g (some (Bn (.fn ff fa fb)))) (_g + 1) (hraw.at_ (fun g hg => by have := hb g hg; simp (disch := omega) only [upd_ne]) (by omega)) hrg hnO (fun g hg => by have := hb g hg; omega) (Bx.new hb hO (by omega) (by omega) (by simp (disch := omega) only [upd_ne, AK] <;> rfl)) (Bx.new hb hO (by omega) (by omega) (by simp (disch := omega) only [upd_ne, AK] <;> rfl))
 refine AH (r := .fn _ [] [.ptr _g 0, .ptr ga 0]) rfl (by omega) (fun k hk => by simp (disch := omega) only [upd_ne]; exact hs k (by omega)) ⟨⟨_, _, _, rfl⟩, by omega, (fun k hk => by simp (disch := omega) only [upd_ne]), (fun k hk => by simp (disch := omega) only [upd_ne]; exact hs k (by omega)), fun g => OU [⟨.fn ff fa fb, some l, cur, fin, O1⟩] g ∨ (g = _g ∨ g = ga), ?_, ?_, hrec⟩
 ·rintro g (h | h | h)
  ·exact .inl h
  ·exact .inr (by omega)
  ·exact .inr (by omega)
 ·rintro g (h | h | h)
  ·have := hb g h; omega
  ·omega
  ·omega
theorem WT {op m : Int} {va vb : List AV} (hop : 1 ≤ op ∧ op ≤ 3) (hm : Az m) (h3 : op = 3 → 1 ≤ m) (hrg : rgE l) (h : Pts gO lo [⟨px, some l, cur, fin, O1⟩] H n) (hx : Cj px) (hnO : ¬ OU [⟨px, some l, cur, fin, O1⟩] gO) (hO : gO < n) : ACalls Tryz.prog 77 [.agg [aI 4, aI op, aI m, .sl 1 va .ro, .sl 5 vb .ro], px] n H (NewS false gO lo ⟨cur, l.filter fun e => HS op e.1 m, fin⟩ (OU [⟨px, some l, cur, fin, O1⟩]) n H) := by
 generalize hR : NewS _ _ _ _ _ _ _ = R
 obtain ⟨hraw0, hmon, hb1⟩ := Ca h
 have hxf := hx
 have hb := h.bel
 have hc1 : AM [⟨px, some l, cur, fin, O1⟩] = cur := by simp [AM]
 have hOU : O1 = OU [⟨px, some l, cur, fin, O1⟩] := funext fun g => propext ⟨fun h => .inl h, fun h => h.elim id fun h => h.elim⟩
 have hraw : Raw true gO lo fin px l cur (OU [⟨px, some l, cur, fin, O1⟩]) H n := by rw [← hOU]; exact hraw0
 obtain ⟨ff, fa, fb, rfl⟩ := hx
 refine A8 Tryz.func77 IF rfl fun hs => ?_
 repeat' (first | (simp -implicitDefEqProofs [CT, Ci, CV, CZ, Cd, CW, Cf, Cg, CS, Bu, c77, -getElem?_pos, splice, -AI]) | (simp (disch := omega) only [AB]) | (with_reducible first | refine A5 ?_ ?_ ?_ | exact A7 | assumption | refine A0 ?_ | refine KM.of ?_ | refine AA ?_ | refine A1 ?_ | refine A3 ?_ | intro _g _hg | refine A9 ?_ ?_ | intro _hc) | omega)
 rename_i ga hga
 subst hR
 have hrec := U0 (g1 := _g) (g2 := ga) (k := 4) (a := .sl 1 va .ro) (b := .sl 5 vb .ro) hop hm h3 hxf _ l cur O1 _ (upd (upd H ga (some (AY 4 op m (.sl 1 va .ro) (.sl 5 vb .ro)))) _g (some (Bn (.fn ff fa fb)))) (_g + 1) (Nat.le_refl _) (h.newB (by omega) (fun k hk => by simp (disch := omega) only [upd_ne])) rfl hrg hnO (Bx.new hb hO (by omega) (by omega) (by simp (disch := omega) only [upd_ne, AK] <;> rfl)) (Bx.new hb hO (by omega) (by omega) (by simp (disch := omega) only [upd_ne, AK] <;> rfl))
 simp only [AM, List.append_nil] at hrec
 refine AH (r := .fn _ [] [.ptr _g 0, .ptr ga 0]) rfl (by omega) (fun k hk => by simp (disch := omega) only [upd_ne]; exact hs k (by omega)) ⟨⟨_, _, _, rfl⟩, by omega, (fun k hk => by simp (disch := omega) only [upd_ne]), (fun k hk => by simp (disch := omega) only [upd_ne]; exact hs k (by omega)), fun g => OU [⟨.fn ff fa fb, some l, cur, fin, O1⟩] g ∨ (g = _g ∨ g = ga), ?_, ?_, hrec⟩
 ·rintro g (h | h | h)
  ·exact .inl h
  ·exact .inr (by omega)
  ·exact .inr (by omega)
 ·rintro g (h | h | h)
  ·have := hb g h; omega
  ·omega
  ·omega
theorem W0 {op m : Int} {va vb : List AV} (hop : 1 ≤ op ∧ op ≤ 3) (hm : Az m) (h3 : op = 3 → 1 ≤ m) (hrg : rgE l) (h : Pts gO lo [⟨px, some l, cur, fin, O1⟩] H n) (hx : Cj px) (hnO : ¬ OU [⟨px, some l, cur, fin, O1⟩] gO) (hO : gO < n) : ACalls Tryz.prog 77 [.agg [aI 7, aI op, aI m, .sl 1 va .ro, .sl 5 vb .ro], px] n H (NewS false gO lo ⟨cur, (Fi (fun x => HS op x m) l fin).1, (Fi (fun x => HS op x m) l fin).2⟩ (OU [⟨px, some l, cur, fin, O1⟩]) n H) := by
 generalize hR : NewS _ _ _ _ _ _ _ = R
 obtain ⟨hraw0, hmon, hb1⟩ := Ca h
 have hxf := hx
 have hb := h.bel
 have hc1 : AM [⟨px, some l, cur, fin, O1⟩] = cur := by simp [AM]
 have hOU : O1 = OU [⟨px, some l, cur, fin, O1⟩] := funext fun g => propext ⟨fun h => .inl h, fun h => h.elim id fun h => h.elim⟩
 have hraw : Raw true gO lo fin px l cur (OU [⟨px, some l, cur, fin, O1⟩]) H n := by rw [← hOU]; exact hraw0
 obtain ⟨ff, fa, fb, rfl⟩ := hx
 refine A8 Tryz.func77 IF rfl fun hs => ?_
 repeat' (first | (simp -implicitDefEqProofs [CT, Ci, CV, CZ, Cd, CW, Cf, Cg, CS, Bu, c77, -getElem?_pos, splice, -AI]) | (simp (disch := omega) only [AB]) | (with_reducible first | refine A5 ?_ ?_ ?_ | exact A7 | assumption | refine A0 ?_ | refine KM.of ?_ | refine AA ?_ | refine A1 ?_ | refine A3 ?_ | intro _g _hg | refine A9 ?_ ?_ | intro _hc) | omega)
 rename_i ga hga
 subst hR
 have hrec := WR (g1 := _g) (g2 := ga) (k := 7) (a := .sl 1 va .ro) (b := .sl 5 vb .ro) hop hm h3 l cur _ (upd (upd H ga (some (AY 7 op m (.sl 1 va .ro) (.sl 5 vb .ro)))) _g (some (Bn (.fn ff fa fb)))) (_g + 1) (hraw.at_ (fun g hg => by have := hb g hg; simp (disch := omega) only [upd_ne]) (by omega)) hrg hnO (fun g hg => by have := hb g hg; omega) (Bx.new hb hO (by omega) (by omega) (by simp (disch := omega) only [upd_ne, AK] <;> rfl)) (Bx.new hb hO (by omega) (by omega) (by simp (disch := omega) only [upd_ne, AK] <;> rfl))
 refine AH (r := .fn _ [] [.ptr _g 0, .ptr ga 0]) rfl (by omega) (fun k hk => by simp (disch := omega) only [upd_ne]; exact hs k (by omega)) ⟨⟨_, _, _, rfl⟩, by omega, (fun k hk => by simp (disch := omega) only [upd_ne]), (fun k hk => by simp (disch := omega) only [upd_ne]; exact hs k (by omega)), fun g => OU [⟨.fn ff fa fb, some l, cur, fin, O1⟩] g ∨ (g = _g ∨ g = ga), ?_, ?_, hrec⟩
 ·rintro g (h | h | h)
  ·exact .inl h
  ·exact .inr (by omega)
  ·exact .inr (by omega)
 ·rintro g (h | h | h)
  ·have := hb g h; omega
  ·omega
  ·omega
theorem UC {op m : Int} {va vb : List AV} (hrg : rgE l) (h : Pts gO lo [⟨px, some l, cur, fin, O1⟩] H n) (hx : Cj px) (hnO : ¬ OU [⟨px, some l, cur, fin, O1⟩] gO) (hO : gO < n) : ACalls Tryz.prog 77 [.agg [aI 11, aI op, aI m, .sl 1 va .ro, .sl 5 vb .ro], px] n H (NewS false gO lo ⟨cur, Iy (-1) l, fin⟩ (OU [⟨px, some l, cur, fin, O1⟩]) n H) := by
 generalize hR : NewS _ _ _ _ _ _ _ = R
 obtain ⟨hraw0, hmon, hb1⟩ := Ca h
 have hxf := hx
 have hb := h.bel
 have hc1 : AM [⟨px, some l, cur, fin, O1⟩] = cur := by simp [AM]
 have hOU : O1 = OU [⟨px, some l, cur, fin, O1⟩] := funext fun g => propext ⟨fun h => .inl h, fun h => h.elim id fun h => h.elim⟩
 have hraw : Raw true gO lo fin px l cur (OU [⟨px, some l, cur, fin, O1⟩]) H n := by rw [← hOU]; exact hraw0
 obtain ⟨ff, fa, fb, rfl⟩ := hx
 refine A8 Tryz.func77 IF rfl fun hs => ?_
 repeat' (first | (simp -implicitDefEqProofs [CT, Ci, CV, CZ, Cd, CW, Cf, Cg, CS, Bu, c77, -getElem?_pos, splice, -AI]) | (simp (disch := omega) only [AB]) | (with_reducible first | refine A5 ?_ ?_ ?_ | exact A7 | assumption | refine A0 ?_ | refine KM.of ?_ | refine AA ?_ | refine A1 ?_ | refine A3 ?_ | intro _g _hg | refine A9 ?_ ?_ | intro _hc) | omega)
 rename_i ga hga gb hgb
 subst hR
 have hrec := Xx hxf (show gb ≠ _g by omega) _ (-1) l cur O1 _ (upd (upd (upd (upd H ga (some (AY 11 op m (.sl 1 va .ro) (.sl 5 vb .ro)))) gb (some (Bn (.fn ff fa fb)))) _g (some (Bc 0))) _g (some (Bc (-1)))) (_g + 1) (Nat.le_refl _) (h.newB (by omega) (fun k hk => by simp (disch := omega) only [upd_ne])) rfl hrg hnO (Bx.new hb hO (by omega) (by omega) (by simp (disch := omega) only [upd_ne, AK] <;> rfl)) (Bx.new hb hO (by omega) (by omega) (by simp (disch := omega) only [upd_ne, AK] <;> rfl))
 simp only [AM, List.append_nil] at hrec
 refine AH (r := .fn _ [] [.ptr gb 0, .ptr _g 0]) rfl (by omega) (fun k hk => by simp (disch := omega) only [upd_ne]; exact hs k (by omega)) ⟨⟨_, _, _, rfl⟩, by omega, (fun k hk => by simp (disch := omega) only [upd_ne]), (fun k hk => by simp (disch := omega) only [upd_ne]; exact hs k (by omega)), fun g => OU [⟨.fn ff fa fb, some l, cur, fin, O1⟩] g ∨ (g = gb ∨ g = _g), ?_, ?_, hrec⟩
 ·rintro g (h | h | h)
  ·exact .inl h
  ·exact .inr (by omega)
  ·exact .inr (by omega)
 ·rintro g (h | h | h)
  ·have := hb g h; omega
  ·omega
  ·omega
theorem Vq {op m : Int} {va vb : List AV} {j : Nat} (hm : j ≤ 5000) (h : Pts gO lo [⟨px, some l, cur, fin, O1⟩] H n) (hx : Cj px) (hnO : ¬ OU [⟨px, some l, cur, fin, O1⟩] gO) (hO : gO < n) : ACalls Tryz.prog 77 [.agg [aI 5, aI op, aI (j : Nat), .sl 1 va .ro, .sl 5 vb .ro], px] n H (NewS false gO lo ⟨cur, (ET j cur l fin).1, (ET j cur l fin).2⟩ (OU [⟨px, some l, cur, fin, O1⟩]) n H) := by
 generalize hR : NewS _ _ _ _ _ _ _ = R
 have hxf := hx
 have hb := h.bel
 obtain ⟨ff, fa, fb, rfl⟩ := hx
 refine A8 Tryz.func77 IF rfl fun hs => ?_
 repeat' (first | (simp -implicitDefEqProofs [CT, Ci, CV, CZ, Cd, CW, Cf, Cg, CS, Bu, c77, -getElem?_pos, splice, -AI]) | (simp (disch := omega) only [AB]) | ((with_reducible refine Ae 109 ?_); refine ⟨_, A1g (gO := gO) (lo := lo) hm (h.newB (by dsimp only; omega) (fun k hk => by simp (disch := omega) only [upd_ne])) hxf hnO (by dsimp only; omega), ?_⟩; rintro r n' H' hle hsup hpost) | (with_reducible first | refine A5 ?_ ?_ ?_ | exact A7 | assumption | refine A0 ?_ | refine KM.of ?_ | refine AA ?_ | refine A1 ?_ | refine A3 ?_ | intro _g _hg | refine A9 ?_ ?_ | intro _hc) | omega)
 rename_i ga hga
 subst hR
 dsimp only at hle hpost
 have hp2 := hpost.up (n := n) (H := H) (by omega) (fun k hk => by simp (disch := omega) only [upd_ne])
 exact AH rfl hp2.2.1 hsup hp2
theorem W2 {op m : Int} {va vb : List AV} {j : Nat} (hm : j ≤ 5000) (h : Pts gO lo [⟨px, some l, cur, fin, O1⟩] H n) (hx : Cj px) (hnO : ¬ OU [⟨px, some l, cur, fin, O1⟩] gO) (hO : gO < n) : ACalls Tryz.prog 77 [.agg [aI 6, aI op, aI (j : Nat), .sl 1 va .ro, .sl 5 vb .ro], px] n H (NewS false gO lo ⟨cur, l.drop j, fin⟩ (OU [⟨px, some l, cur, fin, O1⟩]) n H) := by
 generalize hR : NewS _ _ _ _ _ _ _ = R
 have hxf := hx
 have hb := h.bel
 obtain ⟨ff, fa, fb, rfl⟩ := hx
 refine A8 Tryz.func77 IF rfl fun hs => ?_
 repeat' (first | (simp -implicitDefEqProofs [CT, Ci, CV, CZ, Cd, CW, Cf, Cg, CS, Bu, c77, -getElem?_pos, splice, -AI]) | (simp (disch := omega) only [AB]) | ((with_reducible refine Ae 110 ?_); refine ⟨_, A0v (gO := gO) (lo := lo) hm (h.newB (by dsimp only; omega) (fun k hk => by simp (disch := omega) only [upd_ne])) hxf hnO (by dsimp only; omega), ?_⟩; rintro r n' H' hle hsup hpost) | (with_reducible first | refine A5 ?_ ?_ ?_ | exact A7 | assumption | refine A0 ?_ | refine KM.of ?_ | refine AA ?_ | refine A1 ?_ | refine A3 ?_ | intro _g _hg | refine A9 ?_ ?_ | intro _hc) | omega)
 rename_i ga hga
 subst hR
 dsimp only at hle hpost
 have hp2 := hpost.up (n := n) (H := H) (by omega) (fun k hk => by simp (disch := omega) only [upd_ne])
 exact AH rfl hp2.2.1 hsup hp2
theorem WI {op m : Int} {va vb : List AV} (hop : 1 ≤ op ∧ op ≤ 3) (hm : Az m) (h3 : op = 3 → 1 ≤ m) (hrg : rgE l) (h : Pts gO lo [⟨px, some l, cur, fin, O1⟩] H n) (hx : Cj px) (hnO : ¬ OU [⟨px, some l, cur, fin, O1⟩] gO) (hO : gO < n) : ACalls Tryz.prog 77 [.agg [aI 8, aI op, aI m, .sl 1 va .ro, .sl 5 vb .ro], px] n H (NewS false gO lo ⟨cur, JK (fun x => HS op x m) l, fin⟩ (OU [⟨px, some l, cur, fin, O1⟩]) n H) := by
 generalize hR : NewS _ _ _ _ _ _ _ = R
 have hxf := hx
 have hb := h.bel
 obtain ⟨ff, fa, fb, rfl⟩ := hx
 refine A8 Tryz.func77 IF rfl fun hs => ?_
 repeat' (first | (simp -implicitDefEqProofs [CT, Ci, CV, CZ, Cd, CW, Cf, Cg, CS, Bu, c77, -getElem?_pos, splice, -AI]) | (simp (disch := omega) only [AB]) | ((with_reducible refine Ae 112 ?_); refine ⟨_, A1w (gO := gO) (lo := lo) (k := 8) (va := va) (vb := vb) hop hm h3 hrg (h.newB (by dsimp only; omega) (fun k hk => by simp (disch := omega) only [upd_ne])) hxf hnO (by dsimp only; omega), ?_⟩; rintro r n' H' hle hsup hpost) | (with_reducible first | refine A5 ?_ ?_ ?_ | exact A7 | assumption | refine A0 ?_ | refine KM.of ?_ | refine AA ?_ | refine A1 ?_ | refine A3 ?_ | intro _g _hg | refine A9 ?_ ?_ | intro _hc) | omega)
 rename_i ga hga
 subst hR
 dsimp only at hle hpost
 have hp2 := hpost.up (n := n) (H := H) (by omega) (fun k hk => by simp (disch := omega) only [upd_ne])
 exact AH rfl hp2.2.1 hsup hp2
theorem VV {op m : Int} {va vb : List AV} (hop : 1 ≤ op ∧ op ≤ 5) (hm : Az m) (hrg : rgE l) (h : Pts gO lo [⟨px, some l, cur, fin, O1⟩] H n) (hx : Cj px) (hnO : ¬ OU [⟨px, some l, cur, fin, O1⟩] gO) (hO : gO < n) : ACalls Tryz.prog 77 [.agg [aI 9, aI op, aI m, .sl 1 va .ro, .sl 5 vb .ro], px] n H (NewS false gO lo ⟨cur, OY (EU op) m l, fin⟩ (OU [⟨px, some l, cur, fin, O1⟩]) n H) := by
 generalize hR : NewS _ _ _ _ _ _ _ = R
 have hxf := hx
 have hb := h.bel
 obtain ⟨ff, fa, fb, rfl⟩ := hx
 refine A8 Tryz.func77 IF rfl fun hs => ?_
 repeat' (first | (simp -implicitDefEqProofs [CT, Ci, CV, CZ, Cd, CW, Cf, Cg, CS, Bu, c77, -getElem?_pos, splice, -AI]) | (simp (disch := omega) only [AB]) | ((with_reducible refine Ae 113 ?_); refine ⟨_, A2x (gO := gO) (lo := lo) (k := 9) (va := va) (vb := vb) hop hm hrg (h.newB (by dsimp only; omega) (fun k hk => by simp (disch := omega) only [upd_ne])) hxf hnO (by dsimp only; omega), ?_⟩; rintro r n' H' hle hsup hpost) | (with_reducible first | refine A5 ?_ ?_ ?_ | exact A7 | assumption | refine A0 ?_ | refine KM.of ?_ | refine AA ?_ | refine A1 ?_ | refine A3 ?_ | intro _g _hg | refine A9 ?_ ?_ | intro _hc) | omega)
 rename_i ga hga
 subst hR
 dsimp only at hle hpost
 have hp2 := hpost.up (n := n) (H := H) (by omega) (fun k hk => by simp (disch := omega) only [upd_ne])
 exact AH rfl hp2.2.1 hsup hp2
theorem TS {op m : Int} {va vb : List AV} {j : Nat} (hop : 1 ≤ op ∧ op ≤ 5) (hm : 1 ≤ j ∧ j ≤ 8) (hrg : rgE l) (h : Pts gO lo [⟨px, some l, cur, fin, O1⟩] H n) (hx : Cj px) (hnO : ¬ OU [⟨px, some l, cur, fin, O1⟩] gO) (hO : gO < n) : ACalls Tryz.prog 77 [.agg [aI 10, aI op, aI (j : Nat), .sl 1 va .ro, .sl 5 vb .ro], px] n H (NewS false gO lo ⟨cur, GU (EU op) j [] l, fin⟩ (OU [⟨px, some l, cur, fin, O1⟩]) n H) := by
 generalize hR : NewS _ _ _ _ _ _ _ = R
 have hxf := hx
 have hb := h.bel
 obtain ⟨ff, fa, fb, rfl⟩ := hx
 refine A8 Tryz.func77 IF rfl fun hs => ?_
 repeat' (first | (simp -implicitDefEqProofs [CT, Ci, CV, CZ, Cd, CW, Cf, Cg, CS, Bu, c77, -getElem?_pos, splice, -AI]) | (simp (disch := omega) only [AB]) | ((with_reducible refine Ae 114 ?_); refine ⟨_, XQ (gO := gO) (lo := lo) (k := 10) (va := va) (vb := vb) hop hm hrg (h.newB (by dsimp only; omega) (fun k hk => by simp (disch := omega) only [upd_ne])) hxf hnO (by dsimp only; omega), ?_⟩; rintro r n' H' hle hsup hpost) | (with_reducible first | refine A5 ?_ ?_ ?_ | exact A7 | assumption | refine A0 ?_ | refine KM.of ?_ | refine AA ?_ | refine A1 ?_ | refine A3 ?_ | intro _g _hg | refine A9 ?_ ?_ | intro _hc) | omega)
 rename_i ga hga
 subst hR
 dsimp only at hle hpost
 have hp2 := hpost.up (n := n) (H := H) (by omega) (fun k hk => by simp (disch := omega) only [upd_ne])
 exact AH rfl hp2.2.1 hsup hp2
theorem SJ {op m : Int} {va vb : List AV}  (h : Pts gO lo [⟨px, some l, cur, fin, O1⟩] H n) (hx : Cj px) (hnO : ¬ OU [⟨px, some l, cur, fin, O1⟩] gO) (hO : gO < n) : ACalls Tryz.prog 77 [.agg [aI 12, aI op, aI 0, .sl 1 va .ro, .sl 5 vb .ro], px] n H (NewS false gO lo ⟨cur, [], cur⟩ (OU [⟨px, some l, cur, fin, O1⟩]) n H) := by
 generalize hR : NewS _ _ _ _ _ _ _ = R
 have hxf := hx
 have hb := h.bel
 obtain ⟨ff, fa, fb, rfl⟩ := hx
 refine A8 Tryz.func77 IF rfl fun hs => ?_
 repeat' (first | (simp -implicitDefEqProofs [CT, Ci, CV, CZ, Cd, CW, Cf, Cg, CS, Bu, c77, -getElem?_pos, splice, -AI]) | (simp (disch := omega) only [AB]) | ((with_reducible refine Ae 117 ?_); refine ⟨_, VP (gO := gO) (lo := lo) (h.newB (by dsimp only; omega) (fun k hk => by simp (disch := omega) only [upd_ne])) hxf hnO (by dsimp only; omega), ?_⟩; rintro r n' H' hle hsup hpost) | (with_reducible first | refine A5 ?_ ?_ ?_ | exact A7 | assumption | refine A0 ?_ | refine KM.of ?_ | refine AA ?_ | refine A1 ?_ | refine A3 ?_ | intro _g _hg | refine A9 ?_ ?_ | intro _hc) | omega)
 rename_i ga hga
 subst hR
 dsimp only at hle hpost
 have hp2 := hpost.up (n := n) (H := H) (by omega) (fun k hk => by simp (disch := omega) only [upd_ne])
 exact AH rfl hp2.2.1 hsup hp2
theorem Tp {op m : Int} {va vb : List AV} {j : Nat} (hm : 1 ≤ j ∧ j ≤ 20) (hl : l.length ≤ 5000) (h : Pts gO lo [⟨px, some l, cur, fin, O1⟩] H n) (hx : Cj px) (hnO : ¬ OU [⟨px, some l, cur, fin, O1⟩] gO) (hO : gO < n) : ACalls Tryz.prog 77 [.agg [aI 12, aI op, aI (j : Nat), .sl 1 va .ro, .sl 5 vb .ro], px] n H (NewS false gO lo ⟨cur, l ++ Fd (l.map (·.1)) fin (j - 1), fin⟩ (OU [⟨px, some l, cur, fin, O1⟩]) n H) := by
 generalize hR : NewS _ _ _ _ _ _ _ = R
 have hxf := hx
 have hb := h.bel
 obtain ⟨ff, fa, fb, rfl⟩ := hx
 refine A8 Tryz.func77 IF rfl fun hs => ?_
 repeat' (first | (simp -implicitDefEqProofs [CT, Ci, CV, CZ, Cd, CW, Cf, Cg, CS, Bu, c77, -getElem?_pos, splice, -AI]) | (simp (disch := omega) only [AB]) | ((with_reducible refine Ae 117 ?_); refine ⟨_, WU (gO := gO) (lo := lo) hm hl (h.newB (by dsimp only; omega) (fun k hk => by simp (disch := omega) only [upd_ne])) hxf hnO (by dsimp only; omega), ?_⟩; rintro r n' H' hle hsup hpost) | (with_reducible first | refine A5 ?_ ?_ ?_ | exact A7 | assumption | refine A0 ?_ | refine KM.of ?_ | refine AA ?_ | refine A1 ?_ | refine A3 ?_ | intro _g _hg | refine A9 ?_ ?_ | intro _hc) | omega)
 rename_i ga hga
 subst hR
 dsimp only at hle hpost
 have hp2 := hpost.up (n := n) (H := H) (by omega) (fun k hk => by simp (disch := omega) only [upd_ne])
 exact AH rfl hp2.2.1 hsup hp2
end
theorem Ys (ps : List Pt) : U3 [] ps = ((Fb (ps.map Pt.fut)).l, (Fb (ps.map Pt.fut)).fin) := by simp [U3, AM]
section
variable {gO lo n : Nat} {H : A2}
theorem ZK {ps : List Pt} (h : Pts gO lo ps H n) (hall : Jr ps) (hnO : ¬ OU ps gO) (hO : gO < n) (h60 : ps.length ≤ 60) : ACalls Tryz.prog 73 [.sl 1 (ps.map Pt.x) .ro] n H (NewS false gO lo (Fb (ps.map Pt.fut)) (OU ps) n H) := by
 generalize hR : NewS _ _ _ _ _ _ _ = R
 have hb := h.bel
 refine A8 Tryz.func73 A3x rfl fun hs => ?_
 repeat' (first | (simp -implicitDefEqProofs [c73, -getElem?_pos, splice, -AI]) | (simp (disch := omega) only [AB]) | (with_reducible first | refine A5 ?_ ?_ ?_ | exact A7 | assumption | refine A0 ?_ | refine KM.of ?_ | refine AA ?_ | refine A1 ?_ | refine A3 ?_ | intro _g _hg | refine A9 ?_ ?_ | intro _hc) | omega)
 subst hR
 have hrec := VY (g1 := _g) (gO := gO) (lo := lo) _ [] ps _ (upd H _g (some (Ez ps))) (_g + 1) (Nat.le_refl _) (h.newB (by omega) (fun k hk => by simp (disch := omega) only [upd_ne])) rfl hall hnO (Bx.new hb hO (by omega) (by omega) (by simp (disch := omega) only [upd_ne, AK] <;> rfl)) h60
 rw [Ys] at hrec
 simp only [List.nil_append] at hrec
 rw [← OQ] at hrec
 refine AH (r := .fn _ [] [.ptr _g 0]) rfl (by omega) (fun k hk => by simp (disch := omega) only [upd_ne]; exact hs k (by omega)) ⟨⟨_, _, _, rfl⟩, by omega, (fun k hk => by simp (disch := omega) only [upd_ne]), (fun k hk => by simp (disch := omega) only [upd_ne]; exact hs k (by omega)), _, ?_, ?_, hrec⟩
 ·rintro g (h | h)
  ·exact .inl h
  ·exact .inr (by omega)
 ·rintro g (h | h)
  ·have := hb g h; omega
  ·omega
theorem ZC (ps : List Pt) : (List.range ps.length).map (ent ps) = (ps.map Pt.fut).zipIdx.map fun x => (x.2, x.1.l, x.1.fin) := by
 refine List.ext_getElem (by simp) fun i h1 h2 => ?_
 simp at h1
 simp [ent, Pt.fut, List.getElem?_eq_getElem h1]
theorem A09 (ps : List Pt) : (List.range ps.length).map (X6 ps) = ps.map Pt.x := by
 refine List.ext_getElem (by simp) fun i h1 h2 => ?_
 simp at h1
 simp [X6, List.getElem?_eq_getElem h1]
theorem Zm (ps : List Pt) : Uu ps (List.range ps.length) = Tj (ps.map Pt.fut) := by
 unfold Uu Tj
 congr 1
 refine List.ext_getElem (by simp) fun i h1 h2 => ?_
 simp at h1
 simp [ent, Pt.fut, List.getElem?_eq_getElem h1]
theorem A08 {ps : List Pt} (h : Pts gO lo ps H n) (hall : Jr ps) (hnO : ¬ OU ps gO) (hO : gO < n) (h60 : ps.length ≤ 60) : ACalls Tryz.prog 74 [.sl 1 (ps.map Pt.x) .ro] n H (NewS false gO lo (Ix (ps.map Pt.fut)) (OU ps) n H) := by
 generalize hR : NewS _ _ _ _ _ _ _ = R
 have hb := h.bel
 refine A8 Tryz.func74 A52 rfl fun hs => ?_
 repeat' (first | (simp -implicitDefEqProofs [c74, -getElem?_pos, splice, -AI]) | (simp (disch := omega) only [AB]) | (with_reducible first | refine A5 ?_ ?_ ?_ | exact A7 | assumption | refine A0 ?_ | refine KM.of ?_ | refine AA ?_ | refine A1 ?_ | refine A3 ?_ | intro _g _hg | refine A9 ?_ ?_ | intro _hc) | omega)
 subst hR
 have hqo : XY ps (List.range ps.length) := fun i hi => by
  have hi : i < ps.length := by simpa using hi
  obtain ⟨h1, h2⟩ := hall ps[i] (List.getElem_mem hi)
  exact ⟨ps[i], List.getElem?_eq_getElem hi, h1, h2⟩
 have hrec := WS (g1 := _g) (gO := gO) (lo := lo) (Tj (ps.map Pt.fut)) ps (List.range ps.length) .ro _ (upd H _g (some (Ez ps))) (_g + 1) (h.newB (by omega) (fun k hk => by simp (disch := omega) only [upd_ne])) rfl List.nodup_range hqo (by rw [Zm]; exact Nat.le_refl _) hnO (Bx.new hb hO (by omega) (by omega) (by rw [A09]; exact AK _ _ _)) (by simpa using h60)
 have hT : Ix (ps.map Pt.fut) = ⟨AM ps, (ES (Tj (ps.map Pt.fut)) ((List.range ps.length).map (ent ps)) (ps.map Pt.cur)).1, (ES (Tj (ps.map Pt.fut)) ((List.range ps.length).map (ent ps)) (ps.map Pt.cur)).2.flatten⟩ := by
  have e : (ps.map Pt.fut).map (·.cur) = ps.map Pt.cur := by rw [List.map_map]; rfl
  rw [Ix, ZC, e, HX]
 rw [hT]
 refine AH (r := .fn _ [] [.ptr _g 0]) rfl (by omega) (fun k hk => by simp (disch := omega) only [upd_ne]; exact hs k (by omega)) ⟨⟨_, _, _, rfl⟩, by omega, (fun k hk => by simp (disch := omega) only [upd_ne]), (fun k hk => by simp (disch := omega) only [upd_ne]; exact hs k (by omega)), _, ?_, ?_, hrec⟩
 ·rintro g (h | h)
  ·exact .inl h
  ·exact .inr (by omega)
 ·rintro g (h | h)
  ·have := hb g h; omega
  ·omega
theorem A4k {op : Int} {xa xb : AV} {la lb : As} {ca cb fa fb : AZ} {O1 O2 : Nat → Prop} (hop : 1 ≤ op ∧ op ≤ 5) (h : Pts gO lo [⟨xa, some la, ca, fa, O1⟩, ⟨xb, some lb, cb, fb, O2⟩] H n) (hxa : Cj xa) (hxb : Cj xb) (hra : rgE la) (hrb : rgE lb) (hnO : ¬ OU [⟨xa, some la, ca, fa, O1⟩, ⟨xb, some lb, cb, fb, O2⟩] gO) (hO : gO < n) : ACalls Tryz.prog 75 [aI op, xa, xb] n H (NewS false gO lo ⟨ca ++ cb, (HQ (EU op) fa fb la cb lb).1, (HQ (EU op) fa fb la cb lb).2⟩ (OU [⟨xa, some la, ca, fa, O1⟩, ⟨xb, some lb, cb, fb, O2⟩]) n H) := by
 generalize hR : NewS _ _ _ _ _ _ _ = R
 have hb := h.bel
 obtain ⟨f0, a0, w0, rfl⟩ := hxa
 obtain ⟨f1, a1, w1, rfl⟩ := hxb
 refine A8 Tryz.func75 A4c rfl fun hs => ?_
 repeat' (first | (simp -implicitDefEqProofs [c75, -getElem?_pos, splice, -AI]) | (simp (disch := omega) only [AB]) | (with_reducible first | refine A5 ?_ ?_ ?_ | exact A7 | assumption | refine A0 ?_ | refine KM.of ?_ | refine AA ?_ | refine A1 ?_ | refine A3 ?_ | intro _g _hg | refine A9 ?_ ?_ | intro _hc) | omega)
 rename_i ga hga gb hgb
 subst hR
 have hrec := Z8 (g1 := gb) (g2 := _g) (g3 := ga) (gO := gO) (lo := lo) hop la ca cb lb O1 O2 _ (upd (upd (upd H ga (some (Bc op))) gb (some (Bn (.fn f0 a0 w0)))) _g (some (Bn (.fn f1 a1 w1)))) (_g + 1) (h.newB (by omega) (fun k hk => by simp (disch := omega) only [upd_ne])) rfl hra hrb hnO (Bx.new hb hO (by omega) (by omega) (by simp (disch := omega) only [upd_ne, AK] <;> rfl)) (Bx.new hb hO (by omega) (by omega) (by simp (disch := omega) only [upd_ne, AK] <;> rfl)) (Bx.new hb hO (by omega) (by omega) (by simp (disch := omega) only [upd_ne, AK] <;> rfl))
 refine AH (r := .fn _ [] [.ptr gb 0, .ptr _g 0, .ptr ga 0]) rfl (by omega) (fun k hk => by simp (disch := omega) only [upd_ne]; exact hs k (by omega)) ⟨⟨_, _, _, rfl⟩, by omega, (fun k hk => by simp (disch := omega) only [upd_ne]), (fun k hk => by simp (disch := omega) only [upd_ne]; exact hs k (by omega)), _, ?_, ?_, hrec⟩
 ·rintro g (h | h | h | h)
  ·exact .inl h
  ·exact .inr (by omega)
  ·exact .inr (by omega)
  ·exact .inr (by omega)
 ·rintro g (h | h | h | h)
  ·have := hb g h; omega
  ·omega
  ·omega
  ·omega
theorem Z3 {xa xb : AV} {la lb : As} {ca cb fa fb : AZ} {O1 O2 : Nat → Prop} (h : Pts gO lo [⟨xa, some la, ca, fa, O1⟩, ⟨xb, some lb, cb, fb, O2⟩] H n) (hxa : Cj xa) (hxb : Cj xb) (hnO : ¬ OU [⟨xa, some la, ca, fa, O1⟩, ⟨xb, some lb, cb, fb, O2⟩] gO) (hO : gO < n) : ACalls Tryz.prog 76 [.sl 1 [xa, xb] .ro] n H (NewS false gO lo ⟨ca ++ cb, CH fa fb la lb, fa ++ fb⟩ (OU [⟨xa, some la, ca, fa, O1⟩, ⟨xb, some lb, cb, fb, O2⟩]) n H) := by
 generalize hR : NewS _ _ _ _ _ _ _ = R
 have hb := h.bel
 refine A8 Tryz.func76 A58 rfl fun hs => ?_
 repeat' (first | (simp -implicitDefEqProofs [c76, -getElem?_pos, splice, -AI]) | (simp (disch := omega) only [AB]) | (with_reducible first | refine A5 ?_ ?_ ?_ | exact A7 | assumption | refine A0 ?_ | refine KM.of ?_ | refine AA ?_ | refine A1 ?_ | refine A3 ?_ | intro _g _hg | refine A9 ?_ ?_ | intro _hc) | omega)
 rename_i ga hga gb hgb
 subst hR
 have hrec := Wc (g1 := ga) (g2 := _g) (g3 := gb) (t := .ro) (gO := gO) (lo := lo) (show ga ≠ _g by omega) (show ga ≠ gb by omega) (show _g ≠ gb by omega) hxa hxb _ ⟨xa, some la, ca, fa, O1⟩ ⟨xb, some lb, cb, fb, O2⟩ false false 0 0 _ (upd (upd (upd H ga (some (Hw [xa, xb] .ro))) gb (some (OX 0 0))) _g (some (J5 false false))) (_g + 1) (Nat.le_refl _) (h.newB (by omega) (fun k hk => by simp (disch := omega) only [upd_ne])) rfl rfl rfl rfl rfl hnO (Bx.new hb hO (by omega) (by omega) (by simp (disch := omega) only [upd_ne, AK] <;> rfl)) (Bx.new hb hO (by omega) (by omega) (by simp (disch := omega) only [upd_ne, AK] <;> rfl)) (Bx.new hb hO (by omega) (by omega) (by simp (disch := omega) only [upd_ne, AK] <;> rfl))
 simp only [side, AM, List.append_nil, Option.getD_some] at hrec
 refine AH (r := .fn _ [] [.ptr ga 0, .ptr _g 0, .ptr gb 0]) rfl (by omega) (fun k hk => by simp (disch := omega) only [upd_ne]; exact hs k (by omega)) ⟨⟨_, _, _, rfl⟩, by omega, (fun k hk => by simp (disch := omega) only [upd_ne]), (fun k hk => by simp (disch := omega) only [upd_ne]; exact hs k (by omega)), _, ?_, ?_, hrec⟩
 ·rintro g (h | h | h | h)
  ·exact .inl h
  ·exact .inr (by omega)
  ·exact .inr (by omega)
  ·exact .inr (by omega)
 ·rintro g (h | h | h | h)
  ·have := hb g h; omega
  ·omega
  ·omega
  ·omega
end
def LS (gO : Nat) (cs : AZ) (H : A2) : Option Nat → Prop
 | none => cs = [] ∧ H gO = some (.cells 74 [.sl 0 [] .nil])
 | some gg => H gO = some (.cells 74 [.slg 1 gg cs.length]) ∧ H gg = some (.grow 3 (cs.map aI))
def OpenP (e : Bool) (gO : Nat) (cs : AZ) (q : Option Nat) (F : Fut) (n : Nat) (H : A2) : Bi := fun r n' H' => Cj r ∧ n ≤ n' ∧ (∀ k, n' ≤ k → H' k = none) ∧ ∃ gg, LS gO (cs ++ F.cur) H' (some gg) ∧ (q = some gg ∨ n ≤ gg) ∧ gg < n' ∧ (∀ g, g < n → g ≠ gO → q ≠ some g → H' g = H g) ∧
 ∃ O' : Nat → Prop, (∀ g, O' g → n ≤ g ∧ g < n') ∧ ¬ O' gg ∧ Raw e gO cs.length F.fin r F.l F.cur O' H' n'
theorem IU {gO n n' g ga gc gd z : Nat} {t : Tok} {H H' : A2} {cs : AZ} {q : Option Nat} {xs : List Int} (hx : xs.length ≤ 140737488355328) (hz : z = 1 ∨ xs = []) (hO : gO < n) (hq : q = some g ∨ n ≤ g) (hg : g < n') (hn : n ≤ n') (a1 : n ≤ ga ∧ ga < n' ∧ ga ≠ g) (a2 : n ≤ gc ∧ gc < n' ∧ gc ≠ g) (a3 : n ≤ gd ∧ gd < n' ∧ gd ≠ g)
  (h1 : H' gO = some (.cells 74 [.slg 1 g (cs.length + 1)])) (h2 : H' g = some (.grow 3 ((cs ++ [0]).map aI))) (h3 : H' ga = some (.cells 72 [.ptr gO 0])) (h4 : H' gc = some (Bc cs.length)) (h5 : H' gd = some (Qi (.sl z (xs.map aI) t))) (fr : ∀ k, k < n → k ≠ gO → q ≠ some k → H' k = H k) (sup : ∀ k, n' ≤ k → H' k = none) :
  OpenP false gO cs q (I6 xs) n H (.fn 97 [] [.ptr ga 0, .ptr gc 0, .ptr gd 0]) n' H' := by
 have hrec := YR (gO := gO) (lo := cs.length) (g1 := ga) (g2 := gc) (g3 := gd) hx hz xs.length 0 (fun _ => False) H' n' (by omega) (fun h => h) (fun g h => h.elim) ⟨fun h => h, by omega, a1.2.1, h3⟩ ⟨fun h => h, by omega, a2.2.1, h4⟩ ⟨fun h => h, by omega, a3.2.1, h5⟩
 rw [List.drop_zero] at hrec
 refine ⟨⟨_, _, _, rfl⟩, hn, sup, g, ⟨by simpa [I6] using h1, h2⟩, hq, hg, fr, _, ?_, ?_, hrec⟩
 ·rintro k (h | rfl | rfl | rfl)
  ·exact h.elim
  ·exact ⟨a1.1, a1.2.1⟩
  ·exact ⟨a2.1, a2.2.1⟩
  ·exact ⟨a3.1, a3.2.1⟩
 ·rintro (h | h | h | h)
  ·exact h
  ·exact a1.2.2 h.symm
  ·exact a2.2.2 h.symm
  ·exact a3.2.2 h.symm
theorem LS.lt {gO n : Nat} {H : A2} {cs : AZ} {q : Option Nat} (h : LS gO cs H q) (hs : ∀ g, n ≤ g → H g = none) : gO < n ∧ ∀ g, q = some g → g < n ∧ gO ≠ g := by
 have k1 : ∀ (g : Nat) (ob : AObj), H g = some ob → g < n := fun g ob h => by
  rcases Nat.lt_or_ge g n with h1 | h1
  ·exact h1
  ·rw [hs g h1] at h; cases h
 match q, h with
 | none, h => exact ⟨k1 _ _ h.2, fun g h => by cases h⟩
 | some gg, h =>
  refine ⟨k1 _ _ h.1, fun g e => ?_⟩
  injection e with e
  subst e
  exact ⟨k1 _ _ h.2, fun e => by have := h.1; rw [e, h.2] at this; cases this⟩
theorem Vv {gO n : Nat} {H : A2} {cs : AZ} {q : Option Nat} {o m : Int} {v : List Int} {p : List St} (hv : v.length ≤ 140737488355328) (hcs : cs.length ≤ 100) (hL : LS gO cs H q) : ACalls Tryz.prog 72 [.ptr gO 0, encS (.mk 1 o m v p)] n H (OpenP false gO cs q (I6 v) n H) := by
 generalize hR : OpenP _ _ _ _ _ _ _ = R
 rw [AP]
 generalize Ac p = ep
 refine A8 Tryz.func72 A0p rfl fun hs => ?_
 obtain ⟨hO, hgn⟩ := hL.lt hs
 have hcp : (cs ++ [0]).map aI = cs.map aI ++ [aI 0] := by simp
 cases q with
 | none =>
  obtain ⟨rfl, o1⟩ := hL
  repeat' (first | (simp -implicitDefEqProofs [Ft, G4, G0, Fo, Fx, c72, -getElem?_pos, o1, splice]) | (simp (disch := omega) only [AB]) | (refine DS (.inl rfl) (A4 _) (by simp) (by simp) (by simp [maxLen]) (fun g hg => ?_)) | (with_reducible first | refine A5 ?_ ?_ ?_ | exact A7 | assumption | refine A0 ?_ | refine KM.of ?_ | refine AA ?_ | refine A1 ?_ | refine AF ?_ | refine A3 ?_ | refine AG ?_ | refine AE ?_ | intro _g _hg | refine A9 ?_ ?_ | intro _hc) | omega)
  ·simp [Aw, AV.fits, ones, AV.cells, AV.one]
  rename_i ga hga gb hgb gc hgc ge hge
  subst hR
  refine AH (r := .fn _ [] [.ptr ga 0, .ptr gc 0, .ptr _g 0]) rfl (by omega) (fun k hk => by simp (disch := omega) only [upd_ne]; exact hs k (by omega)) (IU (g := g) (xs := v) (z := 1) (t := .ro) hv (.inl rfl) hO (.inr (by omega)) (by omega) (by omega) ⟨by omega, by omega, by omega⟩ ⟨by omega, by omega, by omega⟩ ⟨by omega, by omega, by omega⟩ (by simp (disch := omega) only [upd_ne, AK] <;> rfl) (by simp (disch := omega) only [upd_ne, AK] <;> rfl) (by simp (disch := omega) only [upd_ne, AK] <;> rfl) (by simp (disch := omega) only [upd_ne, AK] <;> rfl) (by simp (disch := omega) only [upd_ne, AK] <;> rfl) (fun k h1 h2 h3 => by simp (disch := omega) only [upd_ne]) (fun k hk => by simp (disch := omega) only [upd_ne]; exact hs k (by omega)))
 | some gg =>
  obtain ⟨o1, o2⟩ := hL
  obtain ⟨hgn, hne⟩ := hgn gg rfl
  repeat' (first | (simp -implicitDefEqProofs [Ft, G4, G0, Fo, Fx, c72, -getElem?_pos, o1, o2, splice]) | (simp (disch := omega) only [AB]) | (with_reducible refine JD [gg] ?_) | (refine Io (.inl rfl) (A4 _) (by simp (disch := omega) only [upd_ne]; exact o2) (by simp) (by simp; omega) (by simp [maxLen]; omega) (fun g n' h1 h2 h3 => ?_)) | (with_reducible first | refine A5 ?_ ?_ ?_ | exact A7 | assumption | refine A0 ?_ | refine KM.of ?_ | refine AA ?_ | refine A1 ?_ | refine AF ?_ | refine A3 ?_ | refine AG ?_ | refine AE ?_ | intro _g _hg | refine A9 ?_ ?_ | intro _hc) | omega)
  ·simp [Aw, AV.fits, ones, AV.cells, AV.one]
  rename_i ga hga gb hgb gc hgc ge hge
  subst hR
  refine AH (r := .fn _ [] [.ptr ga 0, .ptr gc 0, .ptr _g 0]) rfl (by omega) (fun k hk => by simp (disch := omega) only [upd_ne]; exact hs k (by omega)) (IU (g := g) (xs := v) (z := 1) (t := .ro) hv (.inl rfl) hO (h1.elim (fun h => .inl (by rw [h])) (fun h => .inr (by omega))) (by omega) (by omega) ⟨by omega, by omega, by omega⟩ ⟨by omega, by omega, by omega⟩ ⟨by omega, by omega, by omega⟩ (by simp (disch := omega) only [upd_ne, AK] <;> rfl) (by rw [hcp]; simp (disch := omega) only [upd_ne, AK]) (by simp (disch := omega) only [upd_ne, AK] <;> rfl) (by simp (disch := omega) only [upd_ne, AK] <;> rfl) (by simp (disch := omega) only [upd_ne, AK] <;> rfl) (fun k h1 h2 h3 => by have : k ≠ gg := fun e => h3 (by rw [e]); simp (disch := omega) only [upd_ne]) (fun k hk => by simp (disch := omega) only [upd_ne]; exact hs k (by omega)))
theorem RR {a b c : Int} (hc : 1 ≤ c) (j : Nat) : a + (j : Int) * c < b ↔ j < HU [a, b, c] := by
 show _ ↔ j < ((b - a + c - 1) / c).toNat
 have h := Int.le_ediv_iff_mul_le (a := (j : Int) + 1) (b := b - a + c - 1) (c := c) (by omega)
 rw [Int.add_mul] at h
 omega
theorem X3 {a b c : Int} {j : Nat} (hj : j < HU [a, b, c]) : (GX [a, b, c]).take (j + 1) = (GX [a, b, c]).take j ++ [a + (j : Int) * c] := by
 rw [List.take_succ]
 congr 1
 simp [GX, hj]
theorem RI (a b c : Int) : (GX [a, b, c]).length = HU [a, b, c] := by simp [GX]
theorem Rh {a b c : Int} (hv : 0 ≤ a ∧ a ≤ 9999 ∧ 0 ≤ b ∧ b ≤ 10000 ∧ 1 ≤ c ∧ c ≤ 9999) : HU [a, b, c] ≤ 10000 := by
 show ((b - a + c - 1) / c).toNat ≤ 10000
 have h := Int.ediv_lt_of_lt_mul (a := b - a + c - 1) (b := 10001) (c := c) (by omega) (by
  have h1 : (10000 : Int) * 1 ≤ 10000 * c := by omega
  omega)
 omega
theorem Sl {n n1 ga gb gc gd : Nat} {H1 : A2} {R : Bi} {k o m a b c : Int} {ep : List AV} (hv : 0 ≤ a ∧ a ≤ 9999 ∧ 0 ≤ b ∧ b ≤ 10000 ∧ 1 ≤ c ∧ c ≤ 9999) (qb : H1 gb = some (AY k o m (.sl 1 [aI a, aI b, aI c] .ro) (.sl 5 ep .ro))) (qd : H1 gd = some (Qi (.sl 0 [] .nil))) (lb : gb < n1) (ld : gd < n1) (nbd : gb ≠ gd) (sup : ∀ k, n1 ≤ k → H1 k = none)
  (hk : ∀ (e : AW) (n2 z : Nat) (t : Tok) (H2 : A2), get e 4 = .fn 97 [] [.ptr ga 0, .ptr gc 0, .ptr gd 0] → n1 ≤ n2 → (∀ k, k < n1 → k ≠ gd → H2 k = H1 k) → H2 gd = some (Qi (.sl z ((GX [a, b, c]).map aI) t)) → z = 1 ∨ GX [a, b, c] = [] → (∀ k, n2 ≤ k → H2 k = none) → fin R n [.tmp 4] .ret ⟨e, n2, H2⟩) :
  LoopK (fun Q s => aw Tryz.prog c72_L4 Q s) (Dk 0 (EF (aw Tryz.prog c72_k1 (fin R n [.tmp 4])) (fin R n [.tmp 4]))) ⟨[(2, .ptr ga 0), (3, .ptr gb 0), (5, .ptr gc 0), (6, .ptr gd 0), (7, aI a)], n1, H1⟩ := by
 have hbd := Rh hv
 have hln := RI a b c
 refine LoopK.go (fun r st => ∃ (j n2 z : Nat) (t : Tok) (H2 : A2), j + r = HU [a, b, c] ∧ st = ⟨[(2, .ptr ga 0), (3, .ptr gb 0), (5, .ptr gc 0), (6, .ptr gd 0), (7, aI (a + (j : Int) * c))], n2, H2⟩ ∧ n1 ≤ n2 ∧ (∀ k, k < n1 → k ≠ gd → H2 k = H1 k) ∧ H2 gd = some (Qi (.sl z (((GX [a, b, c]).take j).map aI) t)) ∧ (t ≠ .nil → z = 1) ∧ TokOk t j H2 n2 ∧ (∀ g, Bd t g → n1 ≤ g) ∧ (∀ k, n2 ≤ k → H2 k = none)) (HU [a, b, c]) ?_ ?_
 ·exact ⟨0, n1, 0, .nil, H1, by omega, by simp, Nat.le_refl _, fun _ _ _ => rfl, qd, fun h => absurd rfl h, rfl, fun g h => h.elim, sup⟩
 rintro r st ⟨j, n2, z, t, H2, hj, rfl, hn2, hfr, q6, hz, hT, hTn, hsup⟩ J hJ
 have q3 := (hfr gb lb nbd).trans qb
 by_cases hjl : j < HU [a, b, c]
 ·have hlt := (RR (a := a) (b := b) hv.2.2.2.2.1 j).2 hjl
  have hml : (((GX [a, b, c]).take j).map aI).length = j := by simp; omega
  have hnx : ((GX [a, b, c]).take (j + 1)).map aI = ((GX [a, b, c]).take j).map aI ++ [aI (a + (j : Int) * c)] := by rw [X3 hjl]; simp
  have hw : IntKind.i64.wrap (a + (j : Int) * c + c) = a + ((j + 1 : Nat) : Int) * c := by
   have h0 : 0 ≤ (j : Int) * c := Int.mul_nonneg (by omega) (by omega)
   have e : ((j + 1 : Nat) : Int) * c = (j : Int) * c + c := by rw [Int.natCast_add, Int.add_mul]; simp
   rw [IntWalk.i64_in _ (by omega), e]; omega
  have hpx : 0 ≤ (j : Int) * c := Int.mul_nonneg (by omega) (by omega)
  generalize hx1 : a + ((j + 1 : Nat) : Int) * c = x1 at *
  generalize hx : a + (j : Int) * c = x at *
  generalize hls : ((GX [a, b, c]).take j).map aI = ls at *
  
  repeat' (first | (simp -implicitDefEqProofs [Ft, G4, G0, Fo, Fx, c72, -getElem?_pos, q3, q6, hlt, hw, nbd, Ne.symm nbd, splice]) | (simp (disch := omega) only [AB]) | (refine Hm (by rw [hml]; exact hT.at_ (fun k hk => by have := hT.lt k hk; rw [upd_ne (by omega)]) (by omega)) hz (by rw [hml]; omega) (fun k hk => by rw [upd_ne (by omega)]; exact hsup k (by omega)) (fun g' n3 H3 k1 k2 k3 k4 k5 k6 k7 => ?_); have q6 := (k4 gd (by omega) (fun h => by have := hTn gd h; omega)).trans ((upd_ne (by omega)).trans q6); have q3 := (k4 gb (by omega) (fun h => by have := hTn gb h; omega)).trans ((upd_ne (by omega)).trans q3)) | (with_reducible first | refine A5 ?_ ?_ ?_ | exact A7 | assumption | refine A0 ?_ | refine KM.of ?_ | refine AA ?_ | refine A1 ?_ | refine AF ?_ | refine A3 ?_ | refine AG ?_ | refine AE ?_ | intro _g _hg | refine A9 ?_ ?_ | intro _hc) | omega)
  have hg1 : n1 ≤ g' := k1.elim (hTn g') (fun h => by omega)
  exact hJ (r - 1) _ (by omega) ⟨j + 1, n3, 1, .own g', upd H3 gd (some (Qi (.sl 1 (ls ++ [aI x]) (.own g')))), by omega, by rw [hx1], by omega, fun k h1 h2 => by rw [upd_ne h2, k4 k (by omega) (fun h => by have := hTn k h; omega), upd_ne (by omega)]; exact hfr k h1 h2, by rw [AK, hnx], fun _ => rfl, ⟨by rw [upd_ne (by omega), k5, hml], k3⟩, fun g hg => by have e : g = g' := hg; omega, fun k h1 => by rw [upd_ne (by omega)]; exact k6 k h1⟩
 ·have hlt : ¬ a + (j : Int) * c < b := fun h => hjl ((RR hv.2.2.2.2.1 j).1 h)
  have hall : (GX [a, b, c]).take j = GX [a, b, c] := List.take_of_length_le (by omega)
  rw [hall] at q6
  generalize a + (j : Int) * c = x at *
  
  repeat' (first | (simp -implicitDefEqProofs [Ft, G4, G0, Fo, Fx, c72, -getElem?_pos, q3, hlt, splice]) | (simp (disch := omega) only [AB]) | (with_reducible first | refine A5 ?_ ?_ ?_ | exact A7 | assumption | refine A0 ?_ | refine KM.of ?_ | refine AA ?_ | refine A1 ?_ | refine AF ?_ | refine A3 ?_ | refine AG ?_ | refine AE ?_ | intro _g _hg | refine A9 ?_ ?_ | intro _hc) | omega)
  refine hk _ n2 z t H2 rfl hn2 hfr q6 ?_ hsup
  by_cases ht : t = .nil
  ·subst ht
   have e : j = 0 := hT
   exact .inr (List.length_eq_zero_iff.1 (by omega))
  ·exact .inl (hz ht)
theorem YI {gO n : Nat} {H : A2} {cs : AZ} {q : Option Nat} {o m a b c : Int} {p : List St} (hv : 0 ≤ a ∧ a ≤ 9999 ∧ 0 ≤ b ∧ b ≤ 10000 ∧ 1 ≤ c ∧ c ≤ 9999) (hcs : cs.length ≤ 100) (hL : LS gO cs H q) : ACalls Tryz.prog 72 [.ptr gO 0, encS (.mk 2 o m [a, b, c] p)] n H (OpenP false gO cs q (I6 (GX [a, b, c])) n H) := by
 generalize hR : OpenP _ _ _ _ _ _ _ = R
 rw [AP]
 generalize Ac p = ep
 refine A8 Tryz.func72 A0p rfl fun hs => ?_
 obtain ⟨hO, hgn⟩ := hL.lt hs
 have hcp : (cs ++ [0]).map aI = cs.map aI ++ [aI 0] := by simp
 cases q with
 | none =>
  obtain ⟨rfl, o1⟩ := hL
  repeat' (first | (simp -implicitDefEqProofs [Ft, G4, G0, Fo, Fx, c72, -getElem?_pos, o1, splice]) | (simp (disch := omega) only [AB]) | (refine DS (.inl rfl) (A4 _) (by simp) (by simp) (by simp [maxLen]) (fun g hg => ?_)) | (with_reducible first | refine A5 ?_ ?_ ?_ | exact A7 | assumption | refine A0 ?_ | refine KM.of ?_ | refine AA ?_ | refine A1 ?_ | refine AF ?_ | refine A3 ?_ | refine AG ?_ | refine AE ?_ | intro _g _hg | refine A9 ?_ ?_ | intro _hc) | omega)
  ·simp [Aw, AV.fits, ones, AV.cells, AV.one]
  rename_i ga hga gb hgb gc hgc ge hge
  refine Sl (n := n) hv (by simp (disch := omega) only [upd_ne, AK] <;> rfl) (by simp (disch := omega) only [upd_ne, AK] <;> rfl) (by omega) (by omega) (by omega) (fun k hk => by simp (disch := omega) only [upd_ne]; exact hs k (by omega)) (fun e n2 z t H2 h1 h2 h3 h4 h5 h6 => ?_)
  subst hR
  have fr2 : ∀ k, k < _g → H2 k = _ := fun k hk => h3 k (by omega) (by omega)
  exact AH (r := .fn _ [] [.ptr ga 0, .ptr gc 0, .ptr _g 0]) (by simp [Bm, CA, EZ, h1]) (by omega) h6 (IU (g := g) (xs := GX [a, b, c]) (z := z) (t := t) (by rw [RI]; have := Rh hv; omega) h5 hO (.inr (by omega)) (by omega) (by omega) ⟨by omega, by omega, by omega⟩ ⟨by omega, by omega, by omega⟩ ⟨by omega, by omega, by omega⟩ (by rw [fr2 _ (by omega)]; exact (by simp (disch := omega) only [upd_ne, AK] <;> rfl)) (by rw [fr2 _ (by omega)]; exact (by simp (disch := omega) only [upd_ne, AK] <;> rfl)) (by rw [fr2 _ (by omega)]; exact (by simp (disch := omega) only [upd_ne, AK] <;> rfl)) (by rw [fr2 _ (by omega)]; exact (by simp (disch := omega) only [upd_ne, AK] <;> rfl)) h4 (fun k h1 h2 h3 => by rw [fr2 _ (by omega)]; simp (disch := omega) only [upd_ne]) h6)
 | some gg =>
  obtain ⟨o1, o2⟩ := hL
  obtain ⟨hgn, hne⟩ := hgn gg rfl
  repeat' (first | (simp -implicitDefEqProofs [Ft, G4, G0, Fo, Fx, c72, -getElem?_pos, o1, o2, splice]) | (simp (disch := omega) only [AB]) | (with_reducible refine JD [gg] ?_) | (refine Io (.inl rfl) (A4 _) (by simp (disch := omega) only [upd_ne]; exact o2) (by simp) (by simp; omega) (by simp [maxLen]; omega) (fun g n' h1 h2 h3 => ?_)) | (with_reducible first | refine A5 ?_ ?_ ?_ | exact A7 | assumption | refine A0 ?_ | refine KM.of ?_ | refine AA ?_ | refine A1 ?_ | refine AF ?_ | refine A3 ?_ | refine AG ?_ | refine AE ?_ | intro _g _hg | refine A9 ?_ ?_ | intro _hc) | omega)
  ·simp [Aw, AV.fits, ones, AV.cells, AV.one]
  rename_i ga hga gb hgb gc hgc ge hge
  have hwh := h1
  refine Sl (n := n) hv (by simp (disch := omega) only [upd_ne, AK] <;> rfl) (by simp (disch := omega) only [upd_ne, AK] <;> rfl) (by omega) (by omega) (by omega) (fun k hk => by simp (disch := omega) only [upd_ne]; exact hs k (by omega)) (fun e n2 z t H2 h1 h2 h3 h4 h5 h6 => ?_)
  subst hR
  have fr2 : ∀ k, k < _g → H2 k = _ := fun k hk => h3 k (by omega) (by omega)
  exact AH (r := .fn _ [] [.ptr ga 0, .ptr gc 0, .ptr _g 0]) (by simp [Bm, CA, EZ, h1]) (by omega) h6 (IU (g := g) (xs := GX [a, b, c]) (z := z) (t := t) (by rw [RI]; have := Rh hv; omega) h5 hO (hwh.elim (fun h => .inl (by rw [h])) (fun h => .inr (by omega))) (by omega) (by omega) ⟨by omega, by omega, by omega⟩ ⟨by omega, by omega, by omega⟩ ⟨by omega, by omega, by omega⟩ (by rw [fr2 _ (by omega)]; exact (by simp (disch := omega) only [upd_ne, AK] <;> rfl)) (by rw [fr2 _ (by omega)]; exact (by rw [hcp]; simp (disch := omega) only [upd_ne, AK])) (by rw [fr2 _ (by omega)]; exact (by simp (disch := omega) only [upd_ne, AK] <;> rfl)) (by rw [fr2 _ (by omega)]; exact (by simp (disch := omega) only [upd_ne, AK] <;> rfl)) h4 (fun k h1 h2 h3 => by have : k ≠ gg := fun e => h3 (by rw [e]); rw [fr2 _ (by omega)]; simp (disch := omega) only [upd_ne]) h6)
theorem LS.more {gO n : Nat} {H H' : A2} {cs : AZ} {q : Option Nat} (h : LS gO cs H q) (hs : ∀ g, n ≤ g → H g = none) (hb : SameB n H H') : LS gO cs H' q := by
 obtain ⟨h1, h2⟩ := h.lt hs
 match q, h, h2 with
 | none, h, _ => exact ⟨h.1, (hb gO h1).trans h.2⟩
 | some gg, h, h2 => exact ⟨(hb gO h1).trans h.1, (hb gg (h2 gg rfl).1).trans h.2⟩
theorem OpenP.up {e : Bool} {gO n n1 n' : Nat} {H H1 H' : A2} {cs : AZ} {q : Option Nat} {F : Fut} {r : AV} (h : OpenP e gO cs q F n1 H1 r n' H') (hn : n ≤ n1) (hs : SameB n H H1) (hq : ∀ g, q = some g → g < n) : OpenP e gO cs q F n H r n' H' := by
 obtain ⟨h1, h2, h3, gg, h4, h5, h6, h7, O', h8, h9, h10⟩ := h
 exact ⟨h1, by omega, h3, gg, h4, h5.imp id (fun h => by omega), h6, fun g k1 k2 k3 => (h7 g (by omega) k2 k3).trans (hs g k1), O', fun g hg => ⟨by have := h8 g hg; omega, (h8 g hg).2⟩, h9, h10⟩
theorem OpenP.once {gO n n' n2 : Nat} {H H' H2 : A2} {cs : AZ} {q : Option Nat} {F : Fut} {r2 : AV} {gg : Nat} {O' : Nat → Prop} (hO : gO < n) (h2 : n ≤ n') (h4 : LS gO (cs ++ F.cur) H' (some gg)) (h5 : q = some gg ∨ n ≤ gg) (h6 : gg < n') (h7 : ∀ g, g < n → g ≠ gO → q ≠ some g → H' g = H g) (h8 : ∀ g, O' g → n ≤ g ∧ g < n') (h9 : ¬ O' gg) (k : NewS true gO cs.length F O' n' H' r2 n2 H2) : OpenP true gO cs q F n H r2 n2 H2 := by
 obtain ⟨k1, k2, k3, k4, O2, k5, k6, k7⟩ := k
 refine ⟨k1, by omega, k4, gg, ⟨(k3 gO (by omega)).trans h4.1, (k3 gg h6).trans h4.2⟩, h5, by omega, fun g a1 a2 a3 => (k3 g (by omega)).trans (h7 g a1 a2 a3), O2, fun g hg => ⟨?_, k6 g hg⟩, fun hg => (k5 gg hg).elim h9 (fun h => by omega), k7⟩
 exact (k5 g hg).elim (fun h => (h8 g h).1) (fun h => by omega)
theorem NewS.tr {gO lo n n1 n2 : Nat} {H H1 H2 : A2} {F : Fut} {O O1 : Nat → Prop} {r : AV} (hn : n ≤ n1) (hs : SameB n H H1) (h5 : ∀ g, O1 g → O g ∨ n ≤ g) (k : NewS true gO lo F O1 n1 H1 r n2 H2) : NewS true gO lo F O n H r n2 H2 := by
 obtain ⟨k1, k2, k3, k4, O2, k5, k6, k7⟩ := k
 exact ⟨k1, by omega, fun g hg => (k3 g (by omega)).trans (hs g hg), k4, O2, fun g hg => (k5 g hg).elim (h5 g) (fun h => .inr (by omega)), k6, k7⟩
theorem Yu (s : St) : (Ag s).cur.length ≤ Bk s := by
 refine St.ind (Q := fun s => (Ag s).cur.length ≤ Bk s) ?_ s
 intro k o n v p ih
 rw [Ag, GL, Bk]
 have hsum : ((p.map Ag).map fun F => F.cur.length).sum ≤ CU p := by
  induction p with
  | nil => simp [CU]
  | cons x r ihr =>
   have h1 := ih x List.mem_cons_self
   have h2 := ihr fun y hy => ih y (List.mem_cons_of_mem _ hy)
   simp only [List.map_cons, List.sum_cons, CU]; omega
 have hcha : ∀ Fs : List Fut, (Fb Fs).cur.length = (Fs.map fun F => F.cur.length).sum := by
  intro Fs
  induction Fs with
  | nil => rfl
  | cons F r ih => simp [Fb, ih]
 generalize p.map Ag = Fs at *
 unfold F9
 split
 ·simp [I6]
 ·split
  ·simp [I6]
  ·split
   ·rw [hcha]; omega
   ·split
    ·have e : (Ix Fs).cur.length = (Fs.map fun F => F.cur.length).sum := by simp [Ix, List.length_flatten, Function.comp_def]
     rw [e]; omega
    ·split
     ·rename_i F
      have e : (DU k o n F).cur = F.cur := by
       unfold DU; (repeat' split) <;> first | rfl | (unfold Sc; split <;> rfl)
      rw [e]
      simp only [List.map_cons, List.map_nil, List.sum_cons, List.sum_nil] at hsum
      omega
     ·rename_i F G
      simp only [List.map_cons, List.map_nil, List.sum_cons, List.sum_nil] at hsum
      split <;> simp <;> omega
     ·simp
theorem Wg {gO n : Nat} {H : A2} {cs : AZ} {q : Option Nat} {k o m : Int} {v : List Int} (hk : k = 1 ∨ k = 2) (hn : NodeOk k o m v []) (hv : v.length ≤ 140737488355328) (hcs : cs.length ≤ 100) (hL : LS gO cs H q) : ACalls Tryz.prog 43 [.ptr gO 0, encS (.mk k o m v [])] n H (OpenP true gO cs q (Ag (.mk k o m v [])) n H) := by
 generalize hR : OpenP _ _ _ _ _ _ _ = R
 have main : ∀ n1 H1, LS gO cs H1 q → ACalls Tryz.prog 72 [.ptr gO 0, encS (.mk k o m v [])] n1 H1 (OpenP false gO cs q (Ag (.mk k o m v [])) n1 H1) := by
  intro n1 H1 h1
  rcases hk with rfl | rfl
  ·have e : Ag (.mk 1 o m v []) = I6 v := by simp [Ag, F9]
   rw [e]
   exact Vv hv hcs h1
  ·obtain ⟨a, b, c, rfl, h2⟩ := Jf (hn.rng rfl) hn.vals
   have e : Ag (.mk 2 o m [a, b, c] []) = I6 (GX [a, b, c]) := by simp [Ag, F9]
   rw [e]
   exact YI (by omega) hcs h1
 rw [AP] at main ⊢
 rw [show Ac [] = [] by simp [Ac]] at main ⊢
 generalize Ag (.mk k o m v []) = F at *
 refine A8 Tryz.func43 A0f rfl fun hs => ?_
 obtain ⟨hO, hgn⟩ := hL.lt hs
 repeat' (first | (simp -implicitDefEqProofs [BB, BC, BD, BF, BE, QH, QK, Kc, Np, c43, -getElem?_pos, splice]) | (simp (disch := omega) only [AB]) | ((with_reducible refine Ae 72 ?_); refine ⟨_, main _ _ (hL.more hs (fun k hk => by simp (disch := omega) only [upd_ne])), ?_⟩; rintro r n' H' hle hsup ⟨h1, h2, h3, gg, h4, h5, h6, h7, O', h8, h9, h10⟩) | ((with_reducible refine Ae 71 ?_); refine ⟨_, YP h10 h1 (fun g hg => (h8 g hg).2) (fun h => by have := (h8 gO h).1; dsimp only at this hle; omega) (by dsimp only at hle ⊢; omega), ?_⟩; rintro r2 n2 H2 hle2 hsup2 hpost) | (with_reducible first | refine A5 ?_ ?_ ?_ | exact A7 | assumption | refine A0 ?_ | refine KM.of ?_ | refine AA ?_ | refine A1 ?_ | refine AF ?_ | refine A3 ?_ | refine AG ?_ | refine AE ?_ | intro _g _hg | refine A9 ?_ ?_ | intro _hc) | omega)
 subst hR
 dsimp only at h2 h5 h7 h8 hle hle2 hpost
 exact AH rfl (by omega) hsup2 ((OpenP.once (n := _g + 1) (by omega) h2 h4 h5 h6 h7 h8 h9 hpost).up (by omega) (fun k hk => by simp (disch := omega) only [upd_ne]) (fun g hg => (hgn g hg).1))
def TokOkS (t : Tok) (k : Nat) (H : A2) (n : Nat) : Prop := match t with
 | .own g => H g = some (.row 76 k) ∧ g < n
 | .nil => k = 0
 | .ro => False
theorem YH {t t2 : Tok} {xs : List AV} {x : AV} {z : Nat} {d : Option Nat} {K : AS → Prop} {en : AW} {n : Nat} {H : A2} (h : TokOkS t xs.length H n) (hz : t ≠ .nil → z = 1) (hl : xs.length ≤ 1000000) (hs : ∀ g, n ≤ g → H g = none)
  (hk : ∀ g' n' H', (Bd t g' ∨ n ≤ g') → n ≤ n' → g' < n' → (∀ k, k < n → ¬ Bd t k → H' k = H k) → H' g' = some (.row 76 (xs.length + 1)) → (∀ k, n' ≤ k → H' k = none) → (∀ k, Bd t k → k ≠ g' → H' k = none) → K ⟨AO en d (.sl 1 (xs ++ [x]) (.own g')), n', H'⟩) :
  appKS 76 1 8 d K ⟨en, n, H⟩ (.sl z xs t) (.sl 1 [x] t2) := by
 match t, h with
 | .nil, h =>
  have h0 : xs = [] := List.length_eq_zero_iff.1 h
  subst h0
  refine ON (by simp) (by simp) (by simp [maxLen]) fun g hg => ?_
  exact hk g (g + 1) _ (.inr hg) (by omega) (by omega) (fun k h1 _ => by rw [upd_ne (by omega)]) (AK _ _ _) (fun k h1 => by rw [upd_ne (by omega)]; exact hs k (by omega)) (fun k h1 => h1.elim)
 | .own g0, h =>
  obtain ⟨h1, h2⟩ := h
  have hz := hz (by simp)
  subst hz
  refine Ga h1 (by simp; omega) (by simp [maxLen]; omega) fun g n' h3 h4 h5 => ?_
  refine hk g n' _ (h3.elim (fun h => .inl h) .inr) h4 h5 (fun k k1 k2 => ?_) (AK _ _ _) (fun k k1 => ?_) (fun k k1 k2 => ?_)
  ·have : k ≠ g0 := k2
   rw [upd_ne (by rcases h3 with h3 | h3 <;> omega), upd_ne this]
  ·rw [upd_ne (by omega), upd_ne (by omega)]; exact hs k (by omega)
  ·have e : k = g0 := k1
   subst e
   rw [upd_ne k2, AK]
theorem TokOkS.at_ {t : Tok} {k n n1 : Nat} {H H1 : A2} (h : TokOkS t k H n) (hH : ∀ g, Bd t g → H1 g = H g) (hn : n ≤ n1) : TokOkS t k H1 n1 := by
 match t, h with
 | .nil, h => exact h
 | .own g, h => exact ⟨(hH g rfl).trans h.1, by have := h.2; omega⟩
theorem TokOkS.lt {t : Tok} {k n : Nat} {H : A2} (h : TokOkS t k H n) : ∀ g, Bd t g → g < n := by
 match t, h with
 | .nil, h => exact fun g hg => hg.elim
 | .own k, h => intro g hg; have e : g = k := hg; subst e; exact h.2
structure Opnd (gO : Nat) (cs : AZ) (q : Option Nat) (n : Nat) (H : A2) (ps : List Pt) (q1 : Option Nat) (n1 : Nat) (H1 : A2) : Prop where
 ls : LS gO (cs ++ AM ps) H1 q1
 qn : ∀ g, q1 = some g → (q = some g ∨ n ≤ g) ∧ ¬ OU ps g
 sm : ps = [] ∨ ∃ g, q1 = some g
 pts : Pts gO cs.length ps H1 n1
 nw : ∀ g, OU ps g → n ≤ g
 all : Jr ps
 fr : ∀ g, g < n → g ≠ gO → q ≠ some g → H1 g = H g
 sup : ∀ k, n1 ≤ k → H1 k = none
 le : n ≤ n1
 lO : gO < n
theorem Pts.snoc : ∀ {ps : List Pt} {p : Pt} {gO lo n : Nat} {H : A2}, Pts gO lo ps H n → PtOk gO (lo + (AM ps).length) p H n → (∀ g, p.O g → g < n) → (∀ g, OU ps g → ¬ p.O g) → Pts gO lo (ps ++ [p]) H n
 | [], p, gO, lo, n, H, _, h1, h2, _ => ⟨by simpa [AM] using h1, h2, fun g _ h => h.elim, trivial⟩
 | x :: ps, p, gO, lo, n, H, h, h1, h2, h3 => by
  refine ⟨h.1, h.2.1, fun g hg hu => ?_, h.2.2.2.snoc (by simpa [AM, Nat.add_assoc] using h1) h2 fun g hg => h3 g (.inr hg)⟩
  rcases (FN ps [p] g).1 hu with h4 | h4 | h4
  ·exact h.2.2.1 g hg h4
  ·exact h3 g (.inl hg) h4
  ·exact h4
theorem Opnd.step {gO n n1 n2 : Nat} {cs : AZ} {q q1 : Option Nat} {H H1 H2 : A2} {ps : List Pt} {F : Fut} {r : AV} (h : Opnd gO cs q n H ps q1 n1 H1) (k : OpenP true gO (cs ++ AM ps) q1 F n1 H1 r n2 H2) (hm : OE F) : ∃ (O' : Nat → Prop) (gg : Nat), Opnd gO cs q n H (ps ++ [⟨r, some F.l, F.cur, F.fin, O'⟩]) (some gg) n2 H2 ∧ (∀ g, O' g → n1 ≤ g) ∧ (∀ g, g < n1 → g ≠ gO → q1 ≠ some g → H2 g = H1 g) := by
 obtain ⟨k1, k2, k3, gg, k4, k5, k6, k7, O', k8, k9, k10⟩ := k
 have hou : ∀ g, OU (ps ++ [⟨r, some F.l, F.cur, F.fin, O'⟩]) g ↔ OU ps g ∨ O' g := fun g => by rw [FN]; simp [OU]
 have hb := h.pts.bel
 have hle := h.le
 have hlO := h.lO
 refine ⟨O', gg, ⟨?_, ?_, .inr ⟨gg, rfl⟩, ?_, ?_, ?_, ?_, k3, by omega, hlO⟩, fun g hg => (k8 g hg).1, k7⟩
 ·rw [FX]; simpa [AM, List.append_assoc] using k4
 ·intro g hg
  injection hg with hg
  subst hg
  refine ⟨?_, fun hu => ?_⟩
  ·rcases k5 with k5 | k5
   ·exact (h.qn gg k5).1
   ·exact .inr (by omega)
  ·rcases (hou gg).1 hu with hu | hu
   ·rcases k5 with k5 | k5
    ·exact (h.qn gg k5).2 hu
    ·have := hb gg hu; omega
   ·exact k9 hu
 ·refine Pts.snoc (h.pts.at_ (fun g hg => k7 g (hb g hg) (fun e => by have := h.nw g hg; omega) (fun e => (h.qn g e).2 hg)) k2) ?_ (fun g hg => (k8 g hg).2) (fun g hg hO => by have := hb g hg; have := k8 g hO; omega)
  exact ⟨by simpa [List.length_append] using k10, hm.1⟩
 ·intro g hg
  rcases (hou g).1 hg with hg | hg
  ·exact h.nw g hg
  ·have := k8 g hg; omega
 ·intro p hp
  rcases List.mem_append.1 hp with hp | hp
  ·exact h.all p hp
  ·simp at hp; subst hp; exact ⟨⟨_, rfl⟩, k1⟩
 ·intro g a1 a2 a3
  rw [k7 g (by omega) a2 (fun e => (h.qn g e).1.elim a3 (fun h => by omega))]
  exact h.fr g a1 a2 a3
theorem Opnd.more {gO n n1 n2 : Nat} {cs : AZ} {q q1 : Option Nat} {H H1 H2 : A2} {ps : List Pt} {t : Tok} (h : Opnd gO cs q n H ps q1 n1 H1) (ht : ∀ g, Bd t g → n ≤ g ∧ ¬ OU ps g ∧ q1 ≠ some g) (hn : n1 ≤ n2) (hH : ∀ k, k < n1 → ¬ Bd t k → H2 k = H1 k) (hs : ∀ k, n2 ≤ k → H2 k = none) : Opnd gO cs q n H ps q1 n2 H2 := by
 have hle := h.le
 have hlO := h.lO
 refine ⟨?_, h.qn, h.sm, h.pts.at_ (fun g hg => hH g (h.pts.bel g hg) fun k => (ht g k).2.1 hg) hn, h.nw, h.all, fun g a1 a2 a3 => ?_, hs, by omega, hlO⟩
 ·have hlt := h.ls.lt h.sup
  have hgO : H2 gO = H1 gO := hH gO hlt.1 fun k => by have := (ht gO k).1; omega
  have h1 := h.ls
  match q1, h1, hlt, ht with
  | none, h1, _, _ => exact ⟨h1.1, hgO.trans h1.2⟩
  | some gg, h1, hlt, ht => exact ⟨hgO.trans h1.1, (hH gg (hlt.2 gg rfl).1 fun k => (ht gg k).2.2 rfl).trans h1.2⟩
 ·rw [hH g (by omega) fun k => by have := (ht g k).1; omega]
  exact h.fr g a1 a2 a3
theorem Opnd.fin_ {gO n n1 n2 : Nat} {cs : AZ} {q q1 : Option Nat} {H H1 H2 : A2} {ps : List Pt} {F : Fut} {r : AV} (h : Opnd gO cs q n H ps q1 n1 H1) (hp : ps ≠ []) (hc : F.cur = AM ps) (k : NewS true gO cs.length F (OU ps) n1 H1 r n2 H2) : OpenP true gO cs q F n H r n2 H2 := by
 obtain ⟨gg, hg⟩ := h.sm.resolve_left hp
 subst hg
 have hlt := h.ls.lt h.sup
 obtain ⟨k1, k2, k3, k4, O2, k5, k6, k7⟩ := k
 have h1 := h.le
 have hgl := (hlt.2 gg rfl).1
 refine ⟨k1, by omega, k4, gg, ?_, (h.qn gg rfl).1, by omega, fun g a1 a2 a3 => (k3 g (by omega)).trans (h.fr g a1 a2 a3), O2, fun g hg => ⟨(k5 g hg).elim (h.nw g) (fun h => by omega), k6 g hg⟩, fun hg => (k5 gg hg).elim (h.qn gg rfl).2 (fun h => by omega), k7⟩
 rw [hc]
 exact ⟨(k3 gO hlt.1).trans h.ls.1, (k3 gg hgl).trans h.ls.2⟩
theorem TokOkS.neq {t : Tok} {k n g gO : Nat} {H : A2} {cs : AZ} {q : Option Nat} (h : TokOkS t k H n) (hg : Bd t g) (hL : LS gO cs H q) : q ≠ some g := by
 intro e
 subst e
 have h2 := hL.2
 match t, h, hg with
 | .own j, h, hg =>
  have e2 : g = j := hg
  subst e2
  rw [h.1] at h2
  cases h2
theorem JY : ∀ a b : List St, CU (a ++ b) = CU a + CU b
 | [], b => by simp [CU]
 | y :: a, b => by have := JY a b; simp [CU, this]; omega
abbrev SC (s : St) : Prop := ∀ (gO n : Nat) (H : A2) (cs : AZ) (q : Option Nat), cs.length + Bk s ≤ 100 → LS gO cs H q → ACalls Tryz.prog 43 [.ptr gO 0, encS s] n H (OpenP true gO cs q (Ag s) n H)
theorem Ta {gO n gs : Nat} {H : A2} {cs : AZ} {q : Option Nat} {k o m : Int} {v : List Int} {p : List St} {R : Bi} (hp0 : p ≠ []) (hp60 : p.length ≤ 60) (hsz : cs.length + CU p ≤ 99) (hx : ∀ x ∈ p, SC x) (hL : LS gO cs H q) (hs : ∀ g, n ≤ g → H g = none) (hgs : gs < n) (hgO : gO ≠ gs) (hq : q ≠ some gs) (qs : H gs = some (AY k o m (.sl 1 (v.map aI) .ro) (.sl 5 (Ac p) .ro))) (nR : Nat)
  (hk : ∀ (ps : List Pt) (q1 : Option Nat) (n1 : Nat) (H1 : A2) (g5 : Nat), Opnd gO cs q n H ps q1 n1 H1 → ps.map Pt.fut = p.map Ag → H1 gs = some (AY k o m (.sl 1 (v.map aI) .ro) (.sl 5 (Ac p) .ro)) → aw Tryz.prog c43_k5 (fin R nR [.tmp 4]) ⟨[(3, .ptr gs 0), (5, .sl 1 (ps.map Pt.x) (.own g5))], n1, H1⟩) :
  LoopK (fun Q s => aw Tryz.prog c43_L8 Q s) (Dk 0 (EF (aw Tryz.prog c43_k5 (fin R nR [.tmp 4])) (fin R nR [.tmp 4]))) ⟨[(0, .ptr gO 0), (3, .ptr gs 0), (5, .sl 0 [] .nil), (17, .sl 5 (Ac p) .ro), (18, aI p.length), (19, aI 0)], n, H⟩ := by
 have hpl := BJ p
 refine LoopK.go (fun r st => ∃ (j : Nat) (ps : List Pt) (q1 : Option Nat) (n1 z : Nat) (t : Tok) (H1 : A2), j + r = p.length ∧ st = ⟨[(0, .ptr gO 0), (3, .ptr gs 0), (5, .sl z (ps.map Pt.x) t), (17, .sl 5 (Ac p) .ro), (18, aI p.length), (19, aI j)], n1, H1⟩ ∧ Opnd gO cs q n H ps q1 n1 H1 ∧ ps.map Pt.fut = (p.take j).map Ag ∧ (AM ps).length ≤ CU (p.take j) ∧ (t ≠ .nil → z = 1) ∧ TokOkS t ps.length H1 n1 ∧ (∀ g, Bd t g → n ≤ g ∧ ¬ OU ps g)) p.length ?_ ?_
 ·refine ⟨0, [], q, n, 0, .nil, H, by omega, rfl, ⟨by simpa [AM] using hL, fun g hg => ⟨.inl hg, fun h => h⟩, .inl rfl, trivial, fun g hg => hg.elim, (fun p hp => by cases hp), fun _ _ _ _ => rfl, hs, Nat.le_refl _, (hL.lt hs).1⟩, rfl, by simp [AM], fun h => absurd rfl h, rfl, fun g hg => hg.elim⟩
 rintro r0 st ⟨j, ps, q1, n1, z, t, H1, hj, rfl, hO, hF, hcl, hz, hT, hTn⟩ J hJ
 have hle := hO.le
 have q3 : H1 gs = _ := (hO.fr gs hgs (Ne.symm hgO) hq).trans qs
 by_cases hjl : j < p.length
 ·obtain ⟨x, hxj⟩ : ∃ x, p[j]? = some x := ⟨_, List.getElem?_eq_getElem hjl⟩
  have hjl' : (j : Int) < p.length := by omega
  have hxe := EN hxj
  have hxf := BK x
  have hop := hx x (List.mem_of_getElem? hxj)
  have htk : p.take (j + 1) = p.take j ++ [x] := by rw [List.take_succ, hxj]; rfl
  have hsizt : CU (p.take j) + Bk x ≤ CU p := by
   have h2 := JY (p.take (j + 1)) (p.drop (j + 1))
   rw [List.take_append_drop, htk, JY] at h2
   simp only [CU] at h2
   omega
  have hmon := Uw x
  have hcx := Yu x
  have hlen : ps.length = j := by have := congrArg List.length hF; simp at this; omega
  have hml : (ps.map Pt.x).length = ps.length := by simp
  obtain ⟨k', o', m', v', p'⟩ := x
  rw [AP] at hxe hxf
  have hop2 : ∀ (n : Nat) (H : A2), LS gO (cs ++ AM ps) H q1 → ACalls Tryz.prog 43 [.ptr gO 0, .agg [aI k', aI o', aI m', .sl 1 (v'.map aI) .ro, .sl 5 (Ac p') .ro]] n H (OpenP true gO (cs ++ AM ps) q1 (Ag (.mk k' o' m' v' p')) n H) := fun n H h => by
   have := hop gO n H (cs ++ AM ps) q1 (by rw [List.length_append]; omega) h
   rwa [AP] at this
  generalize hFe : Ag (.mk k' o' m' v' p') = F at *
  generalize Ac p = ep at *
  generalize Ac p' = ep' at *
  generalize v'.map aI = ev' at *
  
  repeat' (first | (simp -implicitDefEqProofs [BB, BC, BD, BF, BE, QH, QK, Kc, Np, c43, -getElem?_pos, q3, hjl', hxe, splice]) | (simp (disch := omega) only [AB]) | ((with_reducible refine Ae 43 ?_); refine ⟨_, hop2 _ _ (hO.ls.more hO.sup (fun k hk => by simp (disch := omega) only [upd_ne])), ?_⟩; rintro r n2 H2 hle2 hsup2 hpost; dsimp only at hle2 hpost; have hpo := hpost.up (n := n1) (H := H1) (by omega) (fun k hk => by simp (disch := omega) only [upd_ne]) (fun g hg => ((hO.ls.lt hO.sup).2 g hg).1); obtain ⟨O', gg, hO2, hOn, hfr2⟩ := hO.step hpo hmon; have hT2 : TokOkS t ps.length H2 n2 := hT.at_ (fun g hg => hfr2 g (hT.lt g hg) (fun e => by have := (hTn g hg).1; have := hO.lO; omega) (hT.neq hg hO.ls)) (by omega)) | (refine YH (by rw [hml]; exact hT2.at_ (fun k hk => by have := hT2.lt k hk; rw [upd_ne (by omega)]) (by omega)) hz (by rw [hml]; omega) (fun k hk => by rw [upd_ne (by omega)]; exact hsup2 k (by omega)) (fun g' n3 H3 k1 k2 k3 k4 k5 k6 k7 => ?_)) | (with_reducible first | refine A5 ?_ ?_ ?_ | exact A7 | assumption | refine A0 ?_ | refine KM.of ?_ | refine AA ?_ | refine A1 ?_ | refine AF ?_ | refine A3 ?_ | refine AG ?_ | refine AE ?_ | intro _g _hg | refine A9 ?_ ?_ | intro _hc) | omega)
  ·obtain ⟨f1, f2, f3, rfl⟩ := hpo.1
   simp [Aw, AV.fits, ones, AV.cells, AV.one]
  have hou : ∀ g, OU (ps ++ [⟨r, some F.l, F.cur, F.fin, O'⟩]) g ↔ OU ps g ∨ O' g := fun g => by rw [FN]; simp [OU]
  have htk2 : ∀ g, Bd t g → n ≤ g ∧ ¬ OU (ps ++ [⟨r, some F.l, F.cur, F.fin, O'⟩]) g ∧ some gg ≠ some g := fun g hg =>
   ⟨(hTn g hg).1, fun h => ((hou g).1 h).elim (hTn g hg).2 (fun h => by have := hOn g h; have := hT.lt g hg; omega), hT2.neq hg hO2.ls⟩
  have hO3 := hO2.more (n2 := n3) (H2 := H3) htk2 (by omega) (fun k h1 h2 => (k4 k (by omega) h2).trans (upd_ne (by omega))) k6
  refine hJ (r0 - 1) _ (by omega) ⟨j + 1, ps ++ [⟨r, some F.l, F.cur, F.fin, O'⟩], some gg, n3, 1, .own g', H3, by omega, by simp, hO3, ?_, ?_, fun _ => rfl, ⟨by rw [k5]; simp, k3⟩, ?_⟩
  ·rw [htk, List.map_append, List.map_append, hF, List.map_singleton, List.map_singleton, hFe]; rfl
  ·rw [htk, JY, FX, List.length_append]; simp only [AM, List.append_nil, CU]; omega
  ·intro g hg
   have e : g = g' := hg
   subst e
   rcases k1 with k1 | k1
   ·exact ⟨(htk2 g k1).1, (htk2 g k1).2.1⟩
   ·exact ⟨by omega, fun h => by have := hO2.pts.bel g h; omega⟩
 ·have hjl' : ¬ (j : Int) < p.length := by omega
  have hlen : ps.length = j := by have := congrArg List.length hF; simp at this; omega
  have htk : p.take j = p := List.take_of_length_le (by omega)
  rw [htk] at hF
  have hpos : 0 < p.length := List.length_pos_iff.2 hp0
  match t, hT, hz with
  | .nil, hT, _ => exact absurd hT (by show ¬ ps.length = 0; omega)
  | .ro, hT, _ => exact hT.elim
  | .own g5, hT, hz =>
   have hz := hz (by simp)
   subst hz
   have hk2 := hk ps q1 n1 H1 g5 hO hF q3
   
   simp -implicitDefEqProofs [Kc, -getElem?_pos, hjl']
   exact hk2
theorem Opnd.nO {gO n n1 : Nat} {cs : AZ} {q q1 : Option Nat} {H H1 : A2} {ps : List Pt} (h : Opnd gO cs q n H ps q1 n1 H1) : ¬ OU ps gO := fun hu => by have := h.nw gO hu; have := h.lO; omega
theorem Td {l : List AV} {g : Nat} : AT [.sl 1 l (.own g)] [.sl 1 l .ro] := ⟨_, _, rfl, ⟨1, l, .ro, rfl, .inl rfl, .inl rfl, A4 l⟩, rfl⟩
theorem ACalls.imp {f : Nat} {args : List AV} {n : Nat} {H : A2} {R R' : Bi} (h : ACalls Tryz.prog f args n H R) (k : ∀ r n' H', n ≤ n' → R r n' H' → R' r n' H') : ACalls Tryz.prog f args n H R' :=
 fun hs w0 G w vs hl hr hv => (h hs w0 G w vs hl hr hv).mono fun e w' ⟨v, r, G', n', H', e1, e2, e3, e4, e5, e6⟩ => ⟨v, r, G', n', H', e1, k r n' H' e5 e2, e3, e4, e5, e6⟩
theorem Dg {gO lo n1 n2 : Nat} {F : Fut} {O : Nat → Prop} {H1 H2 : A2} {r : AV} (hN : NewS false gO lo F O n1 H1 r n2 H2) (h1 : ¬ O gO) (h2 : gO < n1) : ACalls Tryz.prog 71 [r] n2 H2 (NewS true gO lo F O n1 H1) := by
 obtain ⟨m1, m2, m3, m4, O2, m5, m6, m7⟩ := hN
 exact (YP m7 m1 m6 (fun h => (m5 gO h).elim h1 (fun h => by omega)) (by omega)).imp fun r2 n3 H3 h3 hp => NewS.tr m2 m3 m5 hp
section
variable {gO n n1 gs g5 : Nat} {cs : AZ} {q q1 : Option Nat} {H H1 : A2} {ps : List Pt} {k o m : Int} {v : List Int} {p : List St}
theorem Wr (h60 : ps.length ≤ 60) (hO : Opnd gO cs q n H ps q1 n1 H1) (hps : ps ≠ []) (q3 : H1 gs = some (AY 13 o m (.sl 1 (v.map aI) .ro) (.sl 5 (Ac p) .ro))) : aw Tryz.prog c43_k5 (fin (OpenP true gO cs q (Fb (ps.map Pt.fut)) n H) n [.tmp 4]) ⟨[(3, .ptr gs 0), (5, .sl 1 (ps.map Pt.x) (.own g5))], n1, H1⟩ := by
 generalize hR : OpenP _ _ _ _ _ _ _ = R
 have hlO : gO < n1 := by have := hO.lO; have := hO.le; omega
 have hcc := OQ ps
 
 repeat' (first | (simp -implicitDefEqProofs [BE, BF, BD, BC, BB, -getElem?_pos, q3,  splice]) | (simp (disch := omega) only [AB]) | ((with_reducible refine Ae 73 ?_); refine ⟨_, (ZK hO.pts hO.all hO.nO hlO h60).sim Td, ?_⟩; rintro r n2 H2 hle2 hsup2 hpost) | ((with_reducible refine Ae 71 ?_); refine ⟨_, Dg hpost hO.nO hlO, ?_⟩; rintro r2 n3 H3 hle3 hsup3 hp2) | (with_reducible first | refine A5 ?_ ?_ ?_ | exact A7 | assumption | refine A0 ?_ | refine KM.of ?_ | refine AA ?_ | refine A1 ?_ | refine AF ?_ | refine A3 ?_ | refine AG ?_ | refine AE ?_ | intro _g _hg | refine A9 ?_ ?_ | intro _hc) | omega)
 subst hR
 have hle := hO.le
 have ho := hO.fin_ hps (by first | rfl | assumption) hp2
 exact AH rfl ho.2.1 hsup3 ho
theorem Y7 (h60 : ps.length ≤ 60) (hO : Opnd gO cs q n H ps q1 n1 H1) (hps : ps ≠ []) (q3 : H1 gs = some (AY 14 o m (.sl 1 (v.map aI) .ro) (.sl 5 (Ac p) .ro))) : aw Tryz.prog c43_k5 (fin (OpenP true gO cs q (Ix (ps.map Pt.fut)) n H) n [.tmp 4]) ⟨[(3, .ptr gs 0), (5, .sl 1 (ps.map Pt.x) (.own g5))], n1, H1⟩ := by
 generalize hR : OpenP _ _ _ _ _ _ _ = R
 have hlO : gO < n1 := by have := hO.lO; have := hO.le; omega
 have hcc : (Ix (ps.map Pt.fut)).cur = AM ps := by simp [Ix, HX, Pt.fut, Function.comp_def]
 
 repeat' (first | (simp -implicitDefEqProofs [BE, BF, BD, BC, BB, -getElem?_pos, q3,  splice]) | (simp (disch := omega) only [AB]) | ((with_reducible refine Ae 74 ?_); refine ⟨_, (A08 hO.pts hO.all hO.nO hlO h60).sim Td, ?_⟩; rintro r n2 H2 hle2 hsup2 hpost) | ((with_reducible refine Ae 71 ?_); refine ⟨_, Dg hpost hO.nO hlO, ?_⟩; rintro r2 n3 H3 hle3 hsup3 hp2) | (with_reducible first | refine A5 ?_ ?_ ?_ | exact A7 | assumption | refine A0 ?_ | refine KM.of ?_ | refine AA ?_ | refine A1 ?_ | refine AF ?_ | refine A3 ?_ | refine AG ?_ | refine AE ?_ | intro _g _hg | refine A9 ?_ ?_ | intro _hc) | omega)
 subst hR
 have hle := hO.le
 have ho := hO.fin_ hps (by first | rfl | assumption) hp2
 exact AH rfl ho.2.1 hsup3 ho
theorem Wp {f0 f1 : Nat} {a0 w0 a1 w1 : List AV} {la lb : As} {ca cb fa fb : AZ} {O1 O2 : Nat → Prop} (hop : 1 ≤ o ∧ o ≤ 5) (hra : rgE la) (hrb : rgE lb) (hO : Opnd gO cs q n H [⟨.fn f0 a0 w0, some la, ca, fa, O1⟩, ⟨.fn f1 a1 w1, some lb, cb, fb, O2⟩] q1 n1 H1)  (q3 : H1 gs = some (AY 15 o m (.sl 1 (v.map aI) .ro) (.sl 5 (Ac p) .ro))) : aw Tryz.prog c43_k5 (fin (OpenP true gO cs q ⟨ca ++ cb, (HQ (EU o) fa fb la cb lb).1, (HQ (EU o) fa fb la cb lb).2⟩ n H) n [.tmp 4]) ⟨[(3, .ptr gs 0), (5, .sl 1 [.fn f0 a0 w0, .fn f1 a1 w1] (.own g5))], n1, H1⟩ := by
 generalize hR : OpenP _ _ _ _ _ _ _ = R
 have hlO : gO < n1 := by have := hO.lO; have := hO.le; omega
 
 repeat' (first | (simp -implicitDefEqProofs [BE, BF, BD, BC, BB, -getElem?_pos, q3,  splice]) | (simp (disch := omega) only [AB]) | ((with_reducible refine Ae 75 ?_); refine ⟨_, A4k hop hO.pts ⟨_, _, _, rfl⟩ ⟨_, _, _, rfl⟩ hra hrb hO.nO hlO, ?_⟩; rintro r n2 H2 hle2 hsup2 hpost) | ((with_reducible refine Ae 71 ?_); refine ⟨_, Dg hpost hO.nO hlO, ?_⟩; rintro r2 n3 H3 hle3 hsup3 hp2) | (with_reducible first | refine A5 ?_ ?_ ?_ | exact A7 | assumption | refine A0 ?_ | refine KM.of ?_ | refine AA ?_ | refine A1 ?_ | refine AF ?_ | refine A3 ?_ | refine AG ?_ | refine AE ?_ | intro _g _hg | refine A9 ?_ ?_ | intro _hc) | omega)
 subst hR
 have hle := hO.le
 have ho := hO.fin_ (by simp) (by simp [AM]) hp2
 exact AH rfl ho.2.1 hsup3 ho
theorem Wl {f0 f1 : Nat} {a0 w0 a1 w1 : List AV} {la lb : As} {ca cb fa fb : AZ} {O1 O2 : Nat → Prop}  (hO : Opnd gO cs q n H [⟨.fn f0 a0 w0, some la, ca, fa, O1⟩, ⟨.fn f1 a1 w1, some lb, cb, fb, O2⟩] q1 n1 H1)  (q3 : H1 gs = some (AY 16 o m (.sl 1 (v.map aI) .ro) (.sl 5 (Ac p) .ro))) : aw Tryz.prog c43_k5 (fin (OpenP true gO cs q ⟨ca ++ cb, CH fa fb la lb, fa ++ fb⟩ n H) n [.tmp 4]) ⟨[(3, .ptr gs 0), (5, .sl 1 [.fn f0 a0 w0, .fn f1 a1 w1] (.own g5))], n1, H1⟩ := by
 generalize hR : OpenP _ _ _ _ _ _ _ = R
 have hlO : gO < n1 := by have := hO.lO; have := hO.le; omega
 
 repeat' (first | (simp -implicitDefEqProofs [BE, BF, BD, BC, BB, -getElem?_pos, q3,  splice]) | (simp (disch := omega) only [AB]) | ((with_reducible refine Ae 76 ?_); refine ⟨_, (Z3 hO.pts ⟨_, _, _, rfl⟩ ⟨_, _, _, rfl⟩ hO.nO hlO).sim Td, ?_⟩; rintro r n2 H2 hle2 hsup2 hpost) | ((with_reducible refine Ae 71 ?_); refine ⟨_, Dg hpost hO.nO hlO, ?_⟩; rintro r2 n3 H3 hle3 hsup3 hp2) | (with_reducible first | refine A5 ?_ ?_ ?_ | exact A7 | assumption | refine A0 ?_ | refine KM.of ?_ | refine AA ?_ | refine A1 ?_ | refine AF ?_ | refine A3 ?_ | refine AG ?_ | refine AE ?_ | intro _g _hg | refine A9 ?_ ?_ | intro _hc) | omega)
 subst hR
 have hle := hO.le
 have ho := hO.fin_ (by simp) (by simp [AM]) hp2
 exact AH rfl ho.2.1 hsup3 ho
theorem Zf {f0 : Nat} {a0 w0 : List AV} {l : As} {cur fe : AZ} {O1 : Nat → Prop} (hop : 1 ≤ o ∧ o ≤ 6) (hm : Az m) (h6 : o = 6 → 1 ≤ m) (hrg : rgE l) (hO : Opnd gO cs q n H [⟨.fn f0 a0 w0, some l, cur, fe, O1⟩] q1 n1 H1)  (q3 : H1 gs = some (AY 3 o m (.sl 1 (v.map aI) .ro) (.sl 5 (Ac p) .ro))) : aw Tryz.prog c43_k5 (fin (OpenP true gO cs q ⟨cur, l.map fun e => (EU o e.1 m, e.2), fe⟩ n H) n [.tmp 4]) ⟨[(3, .ptr gs 0), (5, .sl 1 [.fn f0 a0 w0] (.own g5))], n1, H1⟩ := by
 generalize hR : OpenP _ _ _ _ _ _ _ = R
 have hlO : gO < n1 := by have := hO.lO; have := hO.le; omega
 
 repeat' (first | (simp -implicitDefEqProofs [BE, BF, BD, BC, BB, -getElem?_pos, q3,  splice]) | (simp (disch := omega) only [AB]) | ((with_reducible refine Ae 77 ?_); refine ⟨_, Vj hop hm h6 hrg hO.pts ⟨_, _, _, rfl⟩ hO.nO hlO, ?_⟩; rintro r n2 H2 hle2 hsup2 hpost) | ((with_reducible refine Ae 71 ?_); refine ⟨_, Dg hpost hO.nO hlO, ?_⟩; rintro r2 n3 H3 hle3 hsup3 hp2) | (with_reducible first | refine A5 ?_ ?_ ?_ | exact A7 | assumption | refine A0 ?_ | refine KM.of ?_ | refine AA ?_ | refine A1 ?_ | refine AF ?_ | refine A3 ?_ | refine AG ?_ | refine AE ?_ | intro _g _hg | refine A9 ?_ ?_ | intro _hc) | omega)
 subst hR
 have hle := hO.le
 have ho := hO.fin_ (by simp) (by simp [AM]) hp2
 exact AH rfl ho.2.1 hsup3 ho
theorem A04 {f0 : Nat} {a0 w0 : List AV} {l : As} {cur fe : AZ} {O1 : Nat → Prop} (hop : 1 ≤ o ∧ o ≤ 3) (hm : Az m) (h3 : o = 3 → 1 ≤ m) (hrg : rgE l) (hO : Opnd gO cs q n H [⟨.fn f0 a0 w0, some l, cur, fe, O1⟩] q1 n1 H1)  (q3 : H1 gs = some (AY 4 o m (.sl 1 (v.map aI) .ro) (.sl 5 (Ac p) .ro))) : aw Tryz.prog c43_k5 (fin (OpenP true gO cs q ⟨cur, l.filter fun e => HS o e.1 m, fe⟩ n H) n [.tmp 4]) ⟨[(3, .ptr gs 0), (5, .sl 1 [.fn f0 a0 w0] (.own g5))], n1, H1⟩ := by
 generalize hR : OpenP _ _ _ _ _ _ _ = R
 have hlO : gO < n1 := by have := hO.lO; have := hO.le; omega
 
 repeat' (first | (simp -implicitDefEqProofs [BE, BF, BD, BC, BB, -getElem?_pos, q3,  splice]) | (simp (disch := omega) only [AB]) | ((with_reducible refine Ae 77 ?_); refine ⟨_, WT hop hm h3 hrg hO.pts ⟨_, _, _, rfl⟩ hO.nO hlO, ?_⟩; rintro r n2 H2 hle2 hsup2 hpost) | ((with_reducible refine Ae 71 ?_); refine ⟨_, Dg hpost hO.nO hlO, ?_⟩; rintro r2 n3 H3 hle3 hsup3 hp2) | (with_reducible first | refine A5 ?_ ?_ ?_ | exact A7 | assumption | refine A0 ?_ | refine KM.of ?_ | refine AA ?_ | refine A1 ?_ | refine AF ?_ | refine A3 ?_ | refine AG ?_ | refine AE ?_ | intro _g _hg | refine A9 ?_ ?_ | intro _hc) | omega)
 subst hR
 have hle := hO.le
 have ho := hO.fin_ (by simp) (by simp [AM]) hp2
 exact AH rfl ho.2.1 hsup3 ho
theorem Zp {f0 : Nat} {a0 w0 : List AV} {l : As} {cur fe : AZ} {O1 : Nat → Prop} {j : Nat} (hm : j ≤ 5000) (hO : Opnd gO cs q n H [⟨.fn f0 a0 w0, some l, cur, fe, O1⟩] q1 n1 H1)  (q3 : H1 gs = some (AY 5 o (j : Nat) (.sl 1 (v.map aI) .ro) (.sl 5 (Ac p) .ro))) : aw Tryz.prog c43_k5 (fin (OpenP true gO cs q ⟨cur, (ET j cur l fe).1, (ET j cur l fe).2⟩ n H) n [.tmp 4]) ⟨[(3, .ptr gs 0), (5, .sl 1 [.fn f0 a0 w0] (.own g5))], n1, H1⟩ := by
 generalize hR : OpenP _ _ _ _ _ _ _ = R
 have hlO : gO < n1 := by have := hO.lO; have := hO.le; omega
 
 repeat' (first | (simp -implicitDefEqProofs [BE, BF, BD, BC, BB, -getElem?_pos, q3,  splice]) | (simp (disch := omega) only [AB]) | ((with_reducible refine Ae 77 ?_); refine ⟨_, Vq (m := 0) hm hO.pts ⟨_, _, _, rfl⟩ hO.nO hlO, ?_⟩; rintro r n2 H2 hle2 hsup2 hpost) | ((with_reducible refine Ae 71 ?_); refine ⟨_, Dg hpost hO.nO hlO, ?_⟩; rintro r2 n3 H3 hle3 hsup3 hp2) | (with_reducible first | refine A5 ?_ ?_ ?_ | exact A7 | assumption | refine A0 ?_ | refine KM.of ?_ | refine AA ?_ | refine A1 ?_ | refine AF ?_ | refine A3 ?_ | refine AG ?_ | refine AE ?_ | intro _g _hg | refine A9 ?_ ?_ | intro _hc) | omega)
 subst hR
 have hle := hO.le
 have ho := hO.fin_ (by simp) (by simp [AM]) hp2
 exact AH rfl ho.2.1 hsup3 ho
theorem Yp {f0 : Nat} {a0 w0 : List AV} {l : As} {cur fe : AZ} {O1 : Nat → Prop} {j : Nat} (hm : j ≤ 5000) (hO : Opnd gO cs q n H [⟨.fn f0 a0 w0, some l, cur, fe, O1⟩] q1 n1 H1)  (q3 : H1 gs = some (AY 6 o (j : Nat) (.sl 1 (v.map aI) .ro) (.sl 5 (Ac p) .ro))) : aw Tryz.prog c43_k5 (fin (OpenP true gO cs q ⟨cur, l.drop j, fe⟩ n H) n [.tmp 4]) ⟨[(3, .ptr gs 0), (5, .sl 1 [.fn f0 a0 w0] (.own g5))], n1, H1⟩ := by
 generalize hR : OpenP _ _ _ _ _ _ _ = R
 have hlO : gO < n1 := by have := hO.lO; have := hO.le; omega
 
 repeat' (first | (simp -implicitDefEqProofs [BE, BF, BD, BC, BB, -getElem?_pos, q3,  splice]) | (simp (disch := omega) only [AB]) | ((with_reducible refine Ae 77 ?_); refine ⟨_, W2 (m := 0) hm hO.pts ⟨_, _, _, rfl⟩ hO.nO hlO, ?_⟩; rintro r n2 H2 hle2 hsup2 hpost) | ((with_reducible refine Ae 71 ?_); refine ⟨_, Dg hpost hO.nO hlO, ?_⟩; rintro r2 n3 H3 hle3 hsup3 hp2) | (with_reducible first | refine A5 ?_ ?_ ?_ | exact A7 | assumption | refine A0 ?_ | refine KM.of ?_ | refine AA ?_ | refine A1 ?_ | refine AF ?_ | refine A3 ?_ | refine AG ?_ | refine AE ?_ | intro _g _hg | refine A9 ?_ ?_ | intro _hc) | omega)
 subst hR
 have hle := hO.le
 have ho := hO.fin_ (by simp) (by simp [AM]) hp2
 exact AH rfl ho.2.1 hsup3 ho
theorem Zi {f0 : Nat} {a0 w0 : List AV} {l : As} {cur fe : AZ} {O1 : Nat → Prop} (hop : 1 ≤ o ∧ o ≤ 3) (hm : Az m) (h3 : o = 3 → 1 ≤ m) (hrg : rgE l) (hO : Opnd gO cs q n H [⟨.fn f0 a0 w0, some l, cur, fe, O1⟩] q1 n1 H1)  (q3 : H1 gs = some (AY 7 o m (.sl 1 (v.map aI) .ro) (.sl 5 (Ac p) .ro))) : aw Tryz.prog c43_k5 (fin (OpenP true gO cs q ⟨cur, (Fi (fun x => HS o x m) l fe).1, (Fi (fun x => HS o x m) l fe).2⟩ n H) n [.tmp 4]) ⟨[(3, .ptr gs 0), (5, .sl 1 [.fn f0 a0 w0] (.own g5))], n1, H1⟩ := by
 generalize hR : OpenP _ _ _ _ _ _ _ = R
 have hlO : gO < n1 := by have := hO.lO; have := hO.le; omega
 
 repeat' (first | (simp -implicitDefEqProofs [BE, BF, BD, BC, BB, -getElem?_pos, q3,  splice]) | (simp (disch := omega) only [AB]) | ((with_reducible refine Ae 77 ?_); refine ⟨_, W0 hop hm h3 hrg hO.pts ⟨_, _, _, rfl⟩ hO.nO hlO, ?_⟩; rintro r n2 H2 hle2 hsup2 hpost) | ((with_reducible refine Ae 71 ?_); refine ⟨_, Dg hpost hO.nO hlO, ?_⟩; rintro r2 n3 H3 hle3 hsup3 hp2) | (with_reducible first | refine A5 ?_ ?_ ?_ | exact A7 | assumption | refine A0 ?_ | refine KM.of ?_ | refine AA ?_ | refine A1 ?_ | refine AF ?_ | refine A3 ?_ | refine AG ?_ | refine AE ?_ | intro _g _hg | refine A9 ?_ ?_ | intro _hc) | omega)
 subst hR
 have hle := hO.le
 have ho := hO.fin_ (by simp) (by simp [AM]) hp2
 exact AH rfl ho.2.1 hsup3 ho
theorem ZS {f0 : Nat} {a0 w0 : List AV} {l : As} {cur fe : AZ} {O1 : Nat → Prop} (hop : 1 ≤ o ∧ o ≤ 3) (hm : Az m) (h3 : o = 3 → 1 ≤ m) (hrg : rgE l) (hO : Opnd gO cs q n H [⟨.fn f0 a0 w0, some l, cur, fe, O1⟩] q1 n1 H1)  (q3 : H1 gs = some (AY 8 o m (.sl 1 (v.map aI) .ro) (.sl 5 (Ac p) .ro))) : aw Tryz.prog c43_k5 (fin (OpenP true gO cs q ⟨cur, JK (fun x => HS o x m) l, fe⟩ n H) n [.tmp 4]) ⟨[(3, .ptr gs 0), (5, .sl 1 [.fn f0 a0 w0] (.own g5))], n1, H1⟩ := by
 generalize hR : OpenP _ _ _ _ _ _ _ = R
 have hlO : gO < n1 := by have := hO.lO; have := hO.le; omega
 
 repeat' (first | (simp -implicitDefEqProofs [BE, BF, BD, BC, BB, -getElem?_pos, q3,  splice]) | (simp (disch := omega) only [AB]) | ((with_reducible refine Ae 77 ?_); refine ⟨_, WI hop hm h3 hrg hO.pts ⟨_, _, _, rfl⟩ hO.nO hlO, ?_⟩; rintro r n2 H2 hle2 hsup2 hpost) | ((with_reducible refine Ae 71 ?_); refine ⟨_, Dg hpost hO.nO hlO, ?_⟩; rintro r2 n3 H3 hle3 hsup3 hp2) | (with_reducible first | refine A5 ?_ ?_ ?_ | exact A7 | assumption | refine A0 ?_ | refine KM.of ?_ | refine AA ?_ | refine A1 ?_ | refine AF ?_ | refine A3 ?_ | refine AG ?_ | refine AE ?_ | intro _g _hg | refine A9 ?_ ?_ | intro _hc) | omega)
 subst hR
 have hle := hO.le
 have ho := hO.fin_ (by simp) (by simp [AM]) hp2
 exact AH rfl ho.2.1 hsup3 ho
theorem A00 {f0 : Nat} {a0 w0 : List AV} {l : As} {cur fe : AZ} {O1 : Nat → Prop} (hop : 1 ≤ o ∧ o ≤ 5) (hm : Az m) (hrg : rgE l) (hO : Opnd gO cs q n H [⟨.fn f0 a0 w0, some l, cur, fe, O1⟩] q1 n1 H1)  (q3 : H1 gs = some (AY 9 o m (.sl 1 (v.map aI) .ro) (.sl 5 (Ac p) .ro))) : aw Tryz.prog c43_k5 (fin (OpenP true gO cs q ⟨cur, OY (EU o) m l, fe⟩ n H) n [.tmp 4]) ⟨[(3, .ptr gs 0), (5, .sl 1 [.fn f0 a0 w0] (.own g5))], n1, H1⟩ := by
 generalize hR : OpenP _ _ _ _ _ _ _ = R
 have hlO : gO < n1 := by have := hO.lO; have := hO.le; omega
 
 repeat' (first | (simp -implicitDefEqProofs [BE, BF, BD, BC, BB, -getElem?_pos, q3,  splice]) | (simp (disch := omega) only [AB]) | ((with_reducible refine Ae 77 ?_); refine ⟨_, VV hop hm hrg hO.pts ⟨_, _, _, rfl⟩ hO.nO hlO, ?_⟩; rintro r n2 H2 hle2 hsup2 hpost) | ((with_reducible refine Ae 71 ?_); refine ⟨_, Dg hpost hO.nO hlO, ?_⟩; rintro r2 n3 H3 hle3 hsup3 hp2) | (with_reducible first | refine A5 ?_ ?_ ?_ | exact A7 | assumption | refine A0 ?_ | refine KM.of ?_ | refine AA ?_ | refine A1 ?_ | refine AF ?_ | refine A3 ?_ | refine AG ?_ | refine AE ?_ | intro _g _hg | refine A9 ?_ ?_ | intro _hc) | omega)
 subst hR
 have hle := hO.le
 have ho := hO.fin_ (by simp) (by simp [AM]) hp2
 exact AH rfl ho.2.1 hsup3 ho
theorem YX {f0 : Nat} {a0 w0 : List AV} {l : As} {cur fe : AZ} {O1 : Nat → Prop} {j : Nat} (hop : 1 ≤ o ∧ o ≤ 5) (hm : 1 ≤ j ∧ j ≤ 8) (hrg : rgE l) (hO : Opnd gO cs q n H [⟨.fn f0 a0 w0, some l, cur, fe, O1⟩] q1 n1 H1)  (q3 : H1 gs = some (AY 10 o (j : Nat) (.sl 1 (v.map aI) .ro) (.sl 5 (Ac p) .ro))) : aw Tryz.prog c43_k5 (fin (OpenP true gO cs q ⟨cur, GU (EU o) j [] l, fe⟩ n H) n [.tmp 4]) ⟨[(3, .ptr gs 0), (5, .sl 1 [.fn f0 a0 w0] (.own g5))], n1, H1⟩ := by
 generalize hR : OpenP _ _ _ _ _ _ _ = R
 have hlO : gO < n1 := by have := hO.lO; have := hO.le; omega
 
 repeat' (first | (simp -implicitDefEqProofs [BE, BF, BD, BC, BB, -getElem?_pos, q3,  splice]) | (simp (disch := omega) only [AB]) | ((with_reducible refine Ae 77 ?_); refine ⟨_, TS (m := 0) hop hm hrg hO.pts ⟨_, _, _, rfl⟩ hO.nO hlO, ?_⟩; rintro r n2 H2 hle2 hsup2 hpost) | ((with_reducible refine Ae 71 ?_); refine ⟨_, Dg hpost hO.nO hlO, ?_⟩; rintro r2 n3 H3 hle3 hsup3 hp2) | (with_reducible first | refine A5 ?_ ?_ ?_ | exact A7 | assumption | refine A0 ?_ | refine KM.of ?_ | refine AA ?_ | refine A1 ?_ | refine AF ?_ | refine A3 ?_ | refine AG ?_ | refine AE ?_ | intro _g _hg | refine A9 ?_ ?_ | intro _hc) | omega)
 subst hR
 have hle := hO.le
 have ho := hO.fin_ (by simp) (by simp [AM]) hp2
 exact AH rfl ho.2.1 hsup3 ho
theorem YS {f0 : Nat} {a0 w0 : List AV} {l : As} {cur fe : AZ} {O1 : Nat → Prop} (hrg : rgE l) (hO : Opnd gO cs q n H [⟨.fn f0 a0 w0, some l, cur, fe, O1⟩] q1 n1 H1)  (q3 : H1 gs = some (AY 11 o m (.sl 1 (v.map aI) .ro) (.sl 5 (Ac p) .ro))) : aw Tryz.prog c43_k5 (fin (OpenP true gO cs q ⟨cur, Iy (-1) l, fe⟩ n H) n [.tmp 4]) ⟨[(3, .ptr gs 0), (5, .sl 1 [.fn f0 a0 w0] (.own g5))], n1, H1⟩ := by
 generalize hR : OpenP _ _ _ _ _ _ _ = R
 have hlO : gO < n1 := by have := hO.lO; have := hO.le; omega
 
 repeat' (first | (simp -implicitDefEqProofs [BE, BF, BD, BC, BB, -getElem?_pos, q3,  splice]) | (simp (disch := omega) only [AB]) | ((with_reducible refine Ae 77 ?_); refine ⟨_, UC hrg hO.pts ⟨_, _, _, rfl⟩ hO.nO hlO, ?_⟩; rintro r n2 H2 hle2 hsup2 hpost) | ((with_reducible refine Ae 71 ?_); refine ⟨_, Dg hpost hO.nO hlO, ?_⟩; rintro r2 n3 H3 hle3 hsup3 hp2) | (with_reducible first | refine A5 ?_ ?_ ?_ | exact A7 | assumption | refine A0 ?_ | refine KM.of ?_ | refine AA ?_ | refine A1 ?_ | refine AF ?_ | refine A3 ?_ | refine AG ?_ | refine AE ?_ | intro _g _hg | refine A9 ?_ ?_ | intro _hc) | omega)
 subst hR
 have hle := hO.le
 have ho := hO.fin_ (by simp) (by simp [AM]) hp2
 exact AH rfl ho.2.1 hsup3 ho
theorem W9 {f0 : Nat} {a0 w0 : List AV} {l : As} {cur fe : AZ} {O1 : Nat → Prop}  (hO : Opnd gO cs q n H [⟨.fn f0 a0 w0, some l, cur, fe, O1⟩] q1 n1 H1)  (q3 : H1 gs = some (AY 12 o 0 (.sl 1 (v.map aI) .ro) (.sl 5 (Ac p) .ro))) : aw Tryz.prog c43_k5 (fin (OpenP true gO cs q ⟨cur, [], cur⟩ n H) n [.tmp 4]) ⟨[(3, .ptr gs 0), (5, .sl 1 [.fn f0 a0 w0] (.own g5))], n1, H1⟩ := by
 generalize hR : OpenP _ _ _ _ _ _ _ = R
 have hlO : gO < n1 := by have := hO.lO; have := hO.le; omega
 
 repeat' (first | (simp -implicitDefEqProofs [BE, BF, BD, BC, BB, -getElem?_pos, q3,  splice]) | (simp (disch := omega) only [AB]) | ((with_reducible refine Ae 77 ?_); refine ⟨_, SJ (m := 0) hO.pts ⟨_, _, _, rfl⟩ hO.nO hlO, ?_⟩; rintro r n2 H2 hle2 hsup2 hpost) | ((with_reducible refine Ae 71 ?_); refine ⟨_, Dg hpost hO.nO hlO, ?_⟩; rintro r2 n3 H3 hle3 hsup3 hp2) | (with_reducible first | refine A5 ?_ ?_ ?_ | exact A7 | assumption | refine A0 ?_ | refine KM.of ?_ | refine AA ?_ | refine A1 ?_ | refine AF ?_ | refine A3 ?_ | refine AG ?_ | refine AE ?_ | intro _g _hg | refine A9 ?_ ?_ | intro _hc) | omega)
 subst hR
 have hle := hO.le
 have ho := hO.fin_ (by simp) (by simp [AM]) hp2
 exact AH rfl ho.2.1 hsup3 ho
theorem YM {f0 : Nat} {a0 w0 : List AV} {l : As} {cur fe : AZ} {O1 : Nat → Prop} {j : Nat} (hm : 1 ≤ j ∧ j ≤ 20) (hl : l.length ≤ 5000) (hO : Opnd gO cs q n H [⟨.fn f0 a0 w0, some l, cur, fe, O1⟩] q1 n1 H1)  (q3 : H1 gs = some (AY 12 o (j : Nat) (.sl 1 (v.map aI) .ro) (.sl 5 (Ac p) .ro))) : aw Tryz.prog c43_k5 (fin (OpenP true gO cs q ⟨cur, l ++ Fd (l.map (·.1)) fe (j - 1), fe⟩ n H) n [.tmp 4]) ⟨[(3, .ptr gs 0), (5, .sl 1 [.fn f0 a0 w0] (.own g5))], n1, H1⟩ := by
 generalize hR : OpenP _ _ _ _ _ _ _ = R
 have hlO : gO < n1 := by have := hO.lO; have := hO.le; omega
 
 repeat' (first | (simp -implicitDefEqProofs [BE, BF, BD, BC, BB, -getElem?_pos, q3,  splice]) | (simp (disch := omega) only [AB]) | ((with_reducible refine Ae 77 ?_); refine ⟨_, Tp (m := 0) hm hl hO.pts ⟨_, _, _, rfl⟩ hO.nO hlO, ?_⟩; rintro r n2 H2 hle2 hsup2 hpost) | ((with_reducible refine Ae 71 ?_); refine ⟨_, Dg hpost hO.nO hlO, ?_⟩; rintro r2 n3 H3 hle3 hsup3 hp2) | (with_reducible first | refine A5 ?_ ?_ ?_ | exact A7 | assumption | refine A0 ?_ | refine KM.of ?_ | refine AA ?_ | refine A1 ?_ | refine AF ?_ | refine A3 ?_ | refine AG ?_ | refine AE ?_ | intro _g _hg | refine A9 ?_ ?_ | intro _hc) | omega)
 subst hR
 have hle := hO.le
 have ho := hO.fin_ (by simp) (by simp [AM]) hp2
 exact AH rfl ho.2.1 hsup3 ho
end
theorem Zb {s : St} (h : Rk s) : Aa s ≤ 5000 := by cases s; exact h.1
theorem Y9 {p : Pt} {F : Fut} (h : p.fut = F) (ha : (∃ l, p.l = some l) ∧ Cj p.x) : ∃ f a b O, p = ⟨.fn f a b, some F.l, F.cur, F.fin, O⟩ := by
 obtain ⟨x, l, cur, fe, O⟩ := p
 obtain ⟨⟨l, rfl⟩, f, a, b, rfl⟩ := ha
 subst h
 exact ⟨f, a, b, O, rfl⟩
theorem W3 {gO n n1 gs g5 : Nat} {cs : AZ} {q q1 : Option Nat} {H H1 : A2} {ps : List Pt} {k o m : Int} {v : List Int} {p : List St} (hN : NodeOk k o m v p) (hok : okP p) (hsm : smP p) (h1 : k ≠ 1) (h2 : k ≠ 2) (h60 : p.length ≤ 60) (hF : ps.map Pt.fut = p.map Ag) (hO : Opnd gO cs q n H ps q1 n1 H1) (hps : ps ≠ []) (q3 : H1 gs = some (AY k o m (.sl 1 (v.map aI) .ro) (.sl 5 (Ac p) .ro))) :
  aw Tryz.prog c43_k5 (fin (OpenP true gO cs q (Ag (.mk k o m v p)) n H) n [.tmp 4]) ⟨[(3, .ptr gs 0), (5, .sl 1 (ps.map Pt.x) (.own g5))], n1, H1⟩ := by
 have hpl : ps.length = p.length := by have := congrArg List.length hF; simpa using this
 by_cases h13 : k = 13
 ·subst h13
  have e : Ag (.mk 13 o m v p) = Fb (ps.map Pt.fut) := by rw [Ag, GL, ← hF]; simp [F9]
  rw [e]; exact Wr (by omega) hO hps q3
 by_cases h14 : k = 14
 ·subst h14
  have e : Ag (.mk 14 o m v p) = Ix (ps.map Pt.fut) := by rw [Ag, GL, ← hF]; simp [F9]
  rw [e]; exact Y7 (by omega) hO hps q3
 by_cases h15 : k = 15 ∨ k = 16
 ·obtain ⟨x, y, rfl⟩ : ∃ x y, p = [x, y] := by
   match p, hN.two h15 with
   | [x, y], _ => exact ⟨x, y, rfl⟩
  obtain ⟨pa, pb, rfl⟩ : ∃ pa pb, ps = [pa, pb] := by
   match ps, hpl with
   | [pa, pb], _ => exact ⟨pa, pb, rfl⟩
  simp only [List.map_cons, List.map_nil, List.cons.injEq, and_true] at hF
  obtain ⟨f0, a0, w0, O1, rfl⟩ := Y9 hF.1 (hO.all pa (by simp))
  obtain ⟨f1, a1, w1, O2, rfl⟩ := Y9 hF.2 (hO.all pb (by simp))
  have bx := RM x hok.1
  have by_ := RM y hok.2.1
  rcases h15 with rfl | rfl
  ·have e : Ag (.mk 15 o m v [x, y]) = ⟨(Ag x).cur ++ (Ag y).cur, (HQ (EU o) (Ag x).fin (Ag y).fin (Ag x).l (Ag y).cur (Ag y).l).1, (HQ (EU o) (Ag x).fin (Ag y).fin (Ag x).l (Ag y).cur (Ag y).l).2⟩ := by simp [Ag, I0, F9]
   rw [e]
   have hfn := hN.fn (by decide)
   exact Wp (by omega) bx.2 by_.2 hO q3
  ·have e : Ag (.mk 16 o m v [x, y]) = ⟨(Ag x).cur ++ (Ag y).cur, CH (Ag x).fin (Ag y).fin (Ag x).l (Ag y).l, (Ag x).fin ++ (Ag y).fin⟩ := by simp [Ag, I0, F9]
   rw [e]
   exact Wl hO q3
 have hk1 := hN.k1
 have hk2 := hN.k2
 obtain ⟨x, rfl⟩ : ∃ x, p = [x] := by
  match p, hN.one h1 h2 h13 h14 (by omega) (by omega) with
  | [x], _ => exact ⟨x, rfl⟩
 obtain ⟨pa, rfl⟩ : ∃ pa, ps = [pa] := by
  match ps, hpl with
  | [pa], _ => exact ⟨pa, rfl⟩
 simp only [List.map_cons, List.map_nil, List.cons.injEq, and_true] at hF
 obtain ⟨f0, a0, w0, O1, rfl⟩ := Y9 hF (hO.all pa (by simp))
 have bx := RM x hok.1
 have hb5 := Zb hsm.1
 have e : Ag (.mk k o m v [x]) = DU k o m (Ag x) := by simp [Ag, I0, F9, h1, h2, h13, h14]
 rw [e]
 generalize Ag x = F at *
 have hfn := hN.fn
 have hcd := hN.cnd
 have hnm := hN.num
 by_cases k3 : k = 3
 ·subst k3
  have h1 := hfn (by decide); have h2 := hnm (by decide)
  simp only [OR, OM, Cz] at h2
  rw [show DU 3 o m F = ⟨F.cur, F.l.map fun e => (EU o e.1 m, e.2), F.fin⟩ by simp [DU]]
  exact Zf (o := o) (m := m) (by omega) (show Az m by unfold Az; grind) (by grind) bx.2 hO q3
 by_cases k4 : k = 4
 ·subst k4
  have h1 := hcd (by decide); have h2 := hnm (by decide)
  simp only [OR, OM, Cz] at h2
  rw [show DU 4 o m F = ⟨F.cur, F.l.filter fun e => HS o e.1 m, F.fin⟩ by simp [DU]]
  exact A04 (o := o) (m := m) (by omega) (show Az m by unfold Az; grind) (by grind) bx.2 hO q3
 by_cases k5 : k = 5
 ·subst k5
  have h2 := hnm (by decide)
  simp only [OR, OM, Cz] at h2
  obtain ⟨j, rfl⟩ : ∃ j : Nat, m = j := ⟨m.toNat, by grind⟩
  rw [show DU 5 o j F = ⟨F.cur, (ET j F.cur F.l F.fin).1, (ET j F.cur F.l F.fin).2⟩ by simp [DU]]
  exact Zp (j := j) (by grind) hO q3
 by_cases k6 : k = 6
 ·subst k6
  have h2 := hnm (by decide)
  simp only [OR, OM, Cz] at h2
  obtain ⟨j, rfl⟩ : ∃ j : Nat, m = j := ⟨m.toNat, by grind⟩
  rw [show DU 6 o j F = ⟨F.cur, F.l.drop j, F.fin⟩ by simp [DU]]
  exact Yp (j := j) (by grind) hO q3
 by_cases k7 : k = 7
 ·subst k7
  have h1 := hcd (by decide); have h2 := hnm (by decide)
  simp only [OR, OM, Cz] at h2
  rw [show DU 7 o m F = ⟨F.cur, (Fi (fun x => HS o x m) F.l F.fin).1, (Fi (fun x => HS o x m) F.l F.fin).2⟩ by simp [DU]]
  exact Zi (o := o) (m := m) (by omega) (show Az m by unfold Az; grind) (by grind) bx.2 hO q3
 by_cases k8 : k = 8
 ·subst k8
  have h1 := hcd (by decide); have h2 := hnm (by decide)
  simp only [OR, OM, Cz] at h2
  rw [show DU 8 o m F = ⟨F.cur, JK (fun x => HS o x m) F.l, F.fin⟩ by simp [DU]]
  exact ZS (o := o) (m := m) (by omega) (show Az m by unfold Az; grind) (by grind) bx.2 hO q3
 by_cases k9 : k = 9
 ·subst k9
  have h1 := hfn (by decide); have h2 := hnm (by decide)
  simp only [OR, OM, Cz] at h2
  rw [show DU 9 o m F = ⟨F.cur, OY (EU o) m F.l, F.fin⟩ by simp [DU]]
  exact A00 (o := o) (m := m) (by omega) (show Az m by unfold Az; grind) bx.2 hO q3
 by_cases k10 : k = 10
 ·subst k10
  have h1 := hfn (by decide); have h2 := hnm (by decide)
  simp only [OR, OM, Cz] at h2
  obtain ⟨j, rfl⟩ : ∃ j : Nat, m = j := ⟨m.toNat, by grind⟩
  rw [show DU 10 o j F = ⟨F.cur, GU (EU o) j [] F.l, F.fin⟩ by simp [DU]]
  exact YX (o := o) (j := j) (by omega) (by grind) bx.2 hO q3
 by_cases k11 : k = 11
 ·subst k11
  rw [show DU 11 o m F = ⟨F.cur, Iy (-1) F.l, F.fin⟩ by simp [DU]]
  exact YS (o := o) (m := m) bx.2 hO q3
 have k12 : k = 12 := by omega
 subst k12
 have h2 := hnm (by decide)
 simp only [OR, OM, Cz] at h2
 obtain ⟨j, rfl⟩ : ∃ j : Nat, m = j := ⟨m.toNat, by grind⟩
 by_cases j0 : j = 0
 ·subst j0
  rw [show DU 12 o (0 : Nat) F = ⟨F.cur, [], F.cur⟩ by simp [DU, Sc]]
  exact W9 (o := o) hO q3
 ·rw [show DU 12 o j F = ⟨F.cur, F.l ++ Fd (F.l.map (·.1)) F.fin (j - 1), F.fin⟩ by simp [DU, Sc, j0]]
  exact YM (o := o) (j := j) (by grind) (by omega) hO q3
theorem A0b {R R' : Bi} {n n0 : Nat} {res : List ARes} {e : AExit} {s : AS} (hn : n ≤ n0) (hR : ∀ r n' H', n0 ≤ n' → R r n' H' → R' r n' H') (h : fin R n0 res e s) : fin R' n res e s := by
 cases e with
 | normal => obtain ⟨r, n', H', h1, h2, h3, h4, h5, h6⟩ := h; exact ⟨r, n', H', h1, by omega, h3, h4, h5, hR _ _ _ h2 h6⟩
 | ret => obtain ⟨r, n', H', h1, h2, h3, h4, h5, h6⟩ := h; exact ⟨r, n', H', h1, by omega, h3, h4, h5, hR _ _ _ h2 h6⟩
 | exit id => exact h
theorem A2s (s : St) : Cy s → Nz s → Rk s → Bk s ≤ 60 → SC s := by
 refine St.ind (Q := fun s => Cy s → Nz s → Rk s → Bk s ≤ 60 → SC s) ?_ s
 intro k o m v p ih hfit hok hsm hsz gO n H cs q hcs hL
 obtain ⟨hv, hp, hpp⟩ := hfit
 obtain ⟨hn, hop⟩ := hok
 have hN := Fa hn
 simp only [Bk] at hsz hcs
 by_cases hlf : k = 1 ∨ k = 2
 ·have hp0 := hN.leaf hlf
  subst hp0
  exact Wg hlf hN hv (by omega) hL
 have hp0 : p ≠ [] := by
  intro e
  subst e
  by_cases h13 : k = 13 ∨ k = 14
  ·exact hN.many h13 rfl
  ·by_cases h15 : k = 15 ∨ k = 16
   ·have := hN.two h15; simp at this
   ·have := hN.one (by omega) (by omega) (by omega) (by omega) (by omega) (by omega); simp at this
 have h60 : p.length ≤ 60 := by have := EM p; omega
 have hx : ∀ x ∈ p, SC x := fun x hx => ih x hx (Cw hpp x hx) (FQ hop x hx) (IY hsm.2 x hx) (by have := EG x hx; omega)
 have hpl := BJ p
 have hl0 : ¬ p.length = 0 := fun e => hp0 (List.length_eq_zero_iff.1 e)
 have hl0' : ¬ (p.length : Int) = 0 := by omega
 generalize hR : OpenP _ _ _ _ _ _ _ = R
 rw [AP]
 refine A8 Tryz.func43 A0f rfl fun hs => ?_
 obtain ⟨hO, hgn⟩ := hL.lt hs
 repeat' (first | (simp -implicitDefEqProofs [c43, Np, -getElem?_pos, hpl, hl0, hl0', splice]) | (simp (disch := omega) only [AB]) | (with_reducible first | refine A5 ?_ ?_ ?_ | exact A7 | assumption | refine A0 ?_ | refine KM.of ?_ | refine AA ?_ | refine A1 ?_ | refine AF ?_ | refine A3 ?_ | refine AG ?_ | refine AE ?_ | intro _g _hg | refine A9 ?_ ?_ | intro _hc) | omega)
 refine Ta (gO := gO) (n := _g + 1) (gs := _g) (cs := cs) (q := q) (k := k) (o := o) (m := m) (v := v) hp0 h60 (by omega) hx (hL.more hs (fun k hk => by simp (disch := omega) only [upd_ne])) (fun k hk => by simp (disch := omega) only [upd_ne]; exact hs k (by omega)) (by omega) (by omega) (fun e => by have := hgn _ e; omega) (by simp (disch := omega) only [upd_ne, AK] <;> rfl) n ?_
 intro ps q1 n1 H1 g5 hO2 hF q3
 subst hR
 have hps : ps ≠ [] := by
  intro e
  subst e
  have := congrArg List.length hF
  simp at this
  exact hp0 (List.length_eq_zero_iff.1 this.symm)
 refine IK (W3 hN hop hsm.2 (by omega) (by omega) h60 hF hO2 hps q3) fun e st he => A0b (by omega) (fun r n' H' _ h => h.up (by omega) (fun k hk => by simp (disch := omega) only [upd_ne]) fun g hg => (hgn g hg).1) he
end Go.Proofs.YtjdccdelcnmocaaGreatDoor
