/- Streams: sources of one part are made: repetitions, and all of them; no condition. -/
import Derived.Test.YtjdccdelcnmocaaGreatDoorMgI
import Derived.Test.YtjdccdelcnmocaaGreatDoorMdM
import Derived.Test.YtjdccdelcnmocaaGreatDoorMdK
set_option linter.all false
set_option linter.unusedSimpArgs false
set_option linter.unusedVariables false
set_option maxHeartbeats 2000000
namespace Go.Proofs.YtjdccdelcnmocaaGreatDoor
attribute [local simp] LV Ev Er Mx Lf M4 NG FQ F4 HI H5 Mi Ll Ls Ka MD NM LX N7 NF MF Mq O8 Nk LY T2 pe LP LT KO MB ND MR Nn O7 NU MW Nt OC NV Ee NB Mv Mw M5 Mt N5 Mf LB LZ Me L3 Ln NI MO N2 KP NL Lz OD Ni Lo F3 N3 F5 Mn Li KI Kr NA Ml MP NJ KV KJ Ko Lk Ld NS MY Ky MH Kd L2 KY O9 NY Kk Ki LU F1 KZ Kc MX LW MN NT My KN Kl Mb KT L0 MT Kt MA Md Mz OA KK Kq Kb KU Kn NX Nl Mm O0 Nd NC Mj M0 Np List.mem_cons guardK Di Fr GV HT Lm Eo FI FP Ej F7 FD Eu Eh FA NP Kj Ew LL M3 Nb Kh MU ML FO MI Nj Kg Nw Mk MK HM El FT F6 Ep Mp L6 FG Ke Ex L8 FN Em Nf FR FV Mo Lt Lp LQ MQ LJ Na Nh T0 Ju KB IE JY Jb Js EN Gn Gs OF Gi Gq EW Dk UR K5 Jm Gk Ji K9 ES EY CA Bf Cr DG AL ev get put I3 AR EH Nq Ng Mh Nv KQ LE Fg part Bu IB Nz IA isNil DC DJ Fi Da Db Kv Lq Lr Kz KG Jg OE LC Lx MZ O6 No L7 LN MJ Lj AV.fits AV.cells ones AV.one Fh DB Fd Ec Gu Fp KH Hw HU DA Bt CF FE I4 AO Br Uo HA NZ Mc List.getElem?_cons_zero List.getElem?_cons_succ F9 FC Eg Kw LG Nx IN Lc MC M1 KX L4 M6 Ks L1 Mr LI Kp
section
variable {gO lo n : Nat} {fin cur : Ad} {px : AV} {l : Aw} {O1 : Nat → Prop} {H : A7}
theorem VF (h : Pts gO lo [⟨px, some l, cur, fin, O1⟩] H n) (hx : Cq px) (hnO : ¬ OU [⟨px, some l, cur, fin, O1⟩] gO) (hO : gO < n) : ACalls Tryz.prog 117 [aI 0, px] n H (NewS false gO lo ⟨cur, [], cur⟩ (OU [⟨px, some l, cur, fin, O1⟩]) n H) := by
 generalize hR : NewS _ _ _ _ _ _ _ = R
 obtain ⟨hraw0, hmon, hb1⟩ := Co h
 have hxf := hx
 have hb := h.bel
 have hc1 : AP [⟨px, some l, cur, fin, O1⟩] = cur := by simp [AP]
 have hOU : O1 = OU [⟨px, some l, cur, fin, O1⟩] := funext fun g => propext ⟨fun h => .inl h, fun h => h.elim id fun h => h.elim⟩
 have hraw : Raw true gO lo fin px l cur (OU [⟨px, some l, cur, fin, O1⟩]) H n := by rw [← hOU]; exact hraw0
 obtain ⟨ff, fa, fb, rfl⟩ := hx
 refine AF Tryz.func117 XH rfl fun hs => ?_
 repeat' (first | (simp -implicitDefEqProofs [c117, -getElem?_pos, splice, -AL]) | (simp (disch := omega) only [AC]) | (with_reducible first | refine A8 ?_ ?_ ?_ | exact AB | assumption | refine A2 ?_ | refine KM.of ?_ | refine AD ?_ | refine A3 ?_ | refine A6 ?_ | intro _g _hg | refine AE ?_ ?_ | intro _hc) | omega)
 rename_i ga hga gb hgb gc hgc
 subst hR
 have hrec := Sn (gO := gO) (lo := lo) (g1 := ga) (g2 := _g) (g3 := gb) (g4 := gc) (a := Be (-1)) (b := Bs (.fn ff fa fb)) (c := ID [] 0 .nil) cur _ (upd (upd (upd (upd (upd H ga (some (Be (0)))) gb (some (Bs (.fn ff fa fb)))) gc (some (ID [] 0 .nil))) _g (some (Be 0))) _g (some (Be (-1)))) (_g + 1) hnO (fun g hg => by have := hb g hg; omega) (Bx.new hb hO (by omega) (by omega) (by simp (disch := omega) only [upd_ne, AO] <;> rfl)) (Bx.new hb hO (by omega) (by omega) (by simp (disch := omega) only [upd_ne, AO] <;> rfl)) (Bx.new hb hO (by omega) (by omega) (by simp (disch := omega) only [upd_ne, AO] <;> rfl)) (Bx.new hb hO (by omega) (by omega) (by simp (disch := omega) only [upd_ne, AO] <;> rfl))
 refine AK (r := .fn _ [] [.ptr ga 0, .ptr _g 0, .ptr gb 0, .ptr gc 0]) rfl (by omega) (fun k hk => by simp (disch := omega) only [upd_ne]; exact hs k (by omega)) ⟨⟨_, _, _, rfl⟩, by omega, (fun k hk => by simp (disch := omega) only [upd_ne]), (fun k hk => by simp (disch := omega) only [upd_ne]; exact hs k (by omega)), fun g => OU [⟨.fn ff fa fb, some l, cur, fin, O1⟩] g ∨ (g = ga ∨ g = _g ∨ g = gb ∨ g = gc), ?_, ?_, hrec⟩
 ·rintro g (h | h | h | h | h)
  ·exact .inl h
  ·exact .inr (by omega)
  ·exact .inr (by omega)
  ·exact .inr (by omega)
  ·exact .inr (by omega)
 ·rintro g (h | h | h | h | h)
  ·have := hb g h; omega
  ·omega
  ·omega
  ·omega
  ·omega
theorem Vm {m : Nat} (hm : 1 ≤ m ∧ m ≤ 20) (hl : l.length ≤ 5000) (h : Pts gO lo [⟨px, some l, cur, fin, O1⟩] H n) (hx : Cq px) (hnO : ¬ OU [⟨px, some l, cur, fin, O1⟩] gO) (hO : gO < n) : ACalls Tryz.prog 117 [aI m, px] n H (NewS false gO lo ⟨cur, l ++ Fm (l.map (·.1)) fin (m - 1), fin⟩ (OU [⟨px, some l, cur, fin, O1⟩]) n H) := by
 generalize hR : NewS _ _ _ _ _ _ _ = R
 obtain ⟨hraw0, hmon, hb1⟩ := Co h
 have hxf := hx
 have hb := h.bel
 have hc1 : AP [⟨px, some l, cur, fin, O1⟩] = cur := by simp [AP]
 have hOU : O1 = OU [⟨px, some l, cur, fin, O1⟩] := funext fun g => propext ⟨fun h => .inl h, fun h => h.elim id fun h => h.elim⟩
 have hraw : Raw true gO lo fin px l cur (OU [⟨px, some l, cur, fin, O1⟩]) H n := by rw [← hOU]; exact hraw0
 obtain ⟨ff, fa, fb, rfl⟩ := hx
 have hOT : (fun g => OU [⟨.fn ff fa fb, some l, cur, fin, O1⟩] g ∨ Bh .nil g) = OU [⟨.fn ff fa fb, some l, cur, fin, O1⟩] := funext fun g => propext ⟨fun h => h.elim id fun h => h.elim, .inl⟩
 refine AF Tryz.func117 XH rfl fun hs => ?_
 repeat' (first | (simp -implicitDefEqProofs [c117, -getElem?_pos, splice, -AL]) | (simp (disch := omega) only [AC]) | (with_reducible first | refine A8 ?_ ?_ ?_ | exact AB | assumption | refine A2 ?_ | refine KM.of ?_ | refine AD ?_ | refine A3 ?_ | refine A6 ?_ | intro _g _hg | refine AE ?_ ?_ | intro _hc) | omega)
 rename_i ga hga gb hgb gc hgc
 subst hR
 have hrec := Tr hxf (show ga ≠ _g by omega) (show ga ≠ gb by omega) (show ga ≠ gc by omega) (show _g ≠ gb by omega) (show _g ≠ gc by omega) (show gb ≠ gc by omega) hm l [] cur 0 .nil O1 _ (upd (upd (upd (upd (upd H ga (some (Be (m)))) gb (some (Bs (.fn ff fa fb)))) gc (some (ID [] 0 .nil))) _g (some (Be 0))) _g (some (Be (-1)))) (_g + 1) (by simpa using hl) (h.newB (by omega) (fun k hk => by simp (disch := omega) only [upd_ne])) hOT (fun g h => h.elim) rfl (.inr ⟨rfl, rfl⟩) hnO (Bx.new hb hO (by omega) (by omega) (by simp (disch := omega) only [upd_ne, AO] <;> rfl)) (Bx.new hb hO (by omega) (by omega) (by simp (disch := omega) only [upd_ne, AO] <;> rfl)) (Bx.new hb hO (by omega) (by omega) (by simp (disch := omega) only [upd_ne, AO] <;> rfl)) (Bx.new hb hO (by omega) (by omega) (by simp (disch := omega) only [upd_ne, AO] <;> rfl))
 simp only [AP, List.append_nil] at hrec
 rw [List.nil_append] at hrec
 refine AK (r := .fn _ [] [.ptr ga 0, .ptr _g 0, .ptr gb 0, .ptr gc 0]) rfl (by omega) (fun k hk => by simp (disch := omega) only [upd_ne]; exact hs k (by omega)) ⟨⟨_, _, _, rfl⟩, by omega, (fun k hk => by simp (disch := omega) only [upd_ne]), (fun k hk => by simp (disch := omega) only [upd_ne]; exact hs k (by omega)), fun g => OU [⟨.fn ff fa fb, some l, cur, fin, O1⟩] g ∨ (g = ga ∨ g = _g ∨ g = gb ∨ g = gc), ?_, ?_, hrec⟩
 ·rintro g (h | h | h | h | h)
  ·exact .inl h
  ·exact .inr (by omega)
  ·exact .inr (by omega)
  ·exact .inr (by omega)
  ·exact .inr (by omega)
 ·rintro g (h | h | h | h | h)
  ·have := hb g h; omega
  ·omega
  ·omega
  ·omega
  ·omega
theorem NewS.up {e : Bool} {F : Fut} {O : Nat → Prop} {n1 n' : Nat} {H1 H' : A7} {r : AV} (h : NewS e gO lo F O n1 H1 r n' H') (hn : n ≤ n1) (hs : SameB n H H1) : NewS e gO lo F O n H r n' H' := by
 obtain ⟨h1, h2, h3, h4, O', h5, h6, h7⟩ := h
 exact ⟨h1, by omega, fun k hk => (h3 k (by omega)).trans (hs k hk), h4, O', fun g hg => (h5 g hg).imp id (fun h => by omega), h6, h7⟩
theorem V3 {op m : Int} {va vb : List AV} (hop : 1 ≤ op ∧ op ≤ 6) (hm : B0 m) (h6 : op = 6 → 1 ≤ m) (hrg : rgE l) (h : Pts gO lo [⟨px, some l, cur, fin, O1⟩] H n) (hx : Cq px) (hnO : ¬ OU [⟨px, some l, cur, fin, O1⟩] gO) (hO : gO < n) : ACalls Tryz.prog 77 [.agg [aI 3, aI op, aI m, .sl 1 va .ro, .sl 5 vb .ro], px] n H (NewS false gO lo ⟨cur, l.map fun e => (Dn op e.1 m, e.2), fin⟩ (OU [⟨px, some l, cur, fin, O1⟩]) n H) := by
 generalize hR : NewS _ _ _ _ _ _ _ = R
 obtain ⟨hraw0, hmon, hb1⟩ := Co h
 have hxf := hx
 have hb := h.bel
 have hc1 : AP [⟨px, some l, cur, fin, O1⟩] = cur := by simp [AP]
 have hOU : O1 = OU [⟨px, some l, cur, fin, O1⟩] := funext fun g => propext ⟨fun h => .inl h, fun h => h.elim id fun h => h.elim⟩
 have hraw : Raw true gO lo fin px l cur (OU [⟨px, some l, cur, fin, O1⟩]) H n := by rw [← hOU]; exact hraw0
 obtain ⟨ff, fa, fb, rfl⟩ := hx
 refine AF Tryz.func77 II rfl fun hs => ?_
 repeat' (first | (simp -implicitDefEqProofs [Ce, Ch, Cf, Cn, Cc, Cp, Cb, Cd, Cj, C6, c77, -getElem?_pos, splice, -AL]) | (simp (disch := omega) only [AC]) | (with_reducible first | refine A8 ?_ ?_ ?_ | exact AB | assumption | refine A2 ?_ | refine KM.of ?_ | refine AD ?_ | refine A3 ?_ | refine A6 ?_ | intro _g _hg | refine AE ?_ ?_ | intro _hc) | omega)
 rename_i ga hga
 subst hR
 have hrec := Ya (g1 := _g) (g2 := ga) (k := 3) (a := .sl 1 va .ro) (b := .sl 5 vb .ro) hop hm h6 l cur _ (upd (upd H ga (some (Ab 3 op m (.sl 1 va .ro) (.sl 5 vb .ro)))) _g (some (Bs (.fn ff fa fb)))) (_g + 1) (hraw.at_ (fun g hg => by have := hb g hg; simp (disch := omega) only [upd_ne]) (by omega)) hrg hnO (fun g hg => by have := hb g hg; omega) (Bx.new hb hO (by omega) (by omega) (by simp (disch := omega) only [upd_ne, AO] <;> rfl)) (Bx.new hb hO (by omega) (by omega) (by simp (disch := omega) only [upd_ne, AO] <;> rfl))
 refine AK (r := .fn _ [] [.ptr _g 0, .ptr ga 0]) rfl (by omega) (fun k hk => by simp (disch := omega) only [upd_ne]; exact hs k (by omega)) ⟨⟨_, _, _, rfl⟩, by omega, (fun k hk => by simp (disch := omega) only [upd_ne]), (fun k hk => by simp (disch := omega) only [upd_ne]; exact hs k (by omega)), fun g => OU [⟨.fn ff fa fb, some l, cur, fin, O1⟩] g ∨ (g = _g ∨ g = ga), ?_, ?_, hrec⟩
 ·rintro g (h | h | h)
  ·exact .inl h
  ·exact .inr (by omega)
  ·exact .inr (by omega)
 ·rintro g (h | h | h)
  ·have := hb g h; omega
  ·omega
  ·omega
theorem VG {op m : Int} {va vb : List AV} (hop : 1 ≤ op ∧ op ≤ 3) (hm : B0 m) (h3 : op = 3 → 1 ≤ m) (hrg : rgE l) (h : Pts gO lo [⟨px, some l, cur, fin, O1⟩] H n) (hx : Cq px) (hnO : ¬ OU [⟨px, some l, cur, fin, O1⟩] gO) (hO : gO < n) : ACalls Tryz.prog 77 [.agg [aI 4, aI op, aI m, .sl 1 va .ro, .sl 5 vb .ro], px] n H (NewS false gO lo ⟨cur, l.filter fun e => GZ op e.1 m, fin⟩ (OU [⟨px, some l, cur, fin, O1⟩]) n H) := by
 generalize hR : NewS _ _ _ _ _ _ _ = R
 obtain ⟨hraw0, hmon, hb1⟩ := Co h
 have hxf := hx
 have hb := h.bel
 have hc1 : AP [⟨px, some l, cur, fin, O1⟩] = cur := by simp [AP]
 have hOU : O1 = OU [⟨px, some l, cur, fin, O1⟩] := funext fun g => propext ⟨fun h => .inl h, fun h => h.elim id fun h => h.elim⟩
 have hraw : Raw true gO lo fin px l cur (OU [⟨px, some l, cur, fin, O1⟩]) H n := by rw [← hOU]; exact hraw0
 obtain ⟨ff, fa, fb, rfl⟩ := hx
 refine AF Tryz.func77 II rfl fun hs => ?_
 repeat' (first | (simp -implicitDefEqProofs [Ce, Ch, Cf, Cn, Cc, Cp, Cb, Cd, Cj, C6, c77, -getElem?_pos, splice, -AL]) | (simp (disch := omega) only [AC]) | (with_reducible first | refine A8 ?_ ?_ ?_ | exact AB | assumption | refine A2 ?_ | refine KM.of ?_ | refine AD ?_ | refine A3 ?_ | refine A6 ?_ | intro _g _hg | refine AE ?_ ?_ | intro _hc) | omega)
 rename_i ga hga
 subst hR
 have hrec := TT (g1 := _g) (g2 := ga) (k := 4) (a := .sl 1 va .ro) (b := .sl 5 vb .ro) hop hm h3 hxf _ l cur O1 _ (upd (upd H ga (some (Ab 4 op m (.sl 1 va .ro) (.sl 5 vb .ro)))) _g (some (Bs (.fn ff fa fb)))) (_g + 1) (Nat.le_refl _) (h.newB (by omega) (fun k hk => by simp (disch := omega) only [upd_ne])) rfl hrg hnO (Bx.new hb hO (by omega) (by omega) (by simp (disch := omega) only [upd_ne, AO] <;> rfl)) (Bx.new hb hO (by omega) (by omega) (by simp (disch := omega) only [upd_ne, AO] <;> rfl))
 simp only [AP, List.append_nil] at hrec
 refine AK (r := .fn _ [] [.ptr _g 0, .ptr ga 0]) rfl (by omega) (fun k hk => by simp (disch := omega) only [upd_ne]; exact hs k (by omega)) ⟨⟨_, _, _, rfl⟩, by omega, (fun k hk => by simp (disch := omega) only [upd_ne]), (fun k hk => by simp (disch := omega) only [upd_ne]; exact hs k (by omega)), fun g => OU [⟨.fn ff fa fb, some l, cur, fin, O1⟩] g ∨ (g = _g ∨ g = ga), ?_, ?_, hrec⟩
 ·rintro g (h | h | h)
  ·exact .inl h
  ·exact .inr (by omega)
  ·exact .inr (by omega)
 ·rintro g (h | h | h)
  ·have := hb g h; omega
  ·omega
  ·omega
theorem Uw {op m : Int} {va vb : List AV} (hop : 1 ≤ op ∧ op ≤ 3) (hm : B0 m) (h3 : op = 3 → 1 ≤ m) (hrg : rgE l) (h : Pts gO lo [⟨px, some l, cur, fin, O1⟩] H n) (hx : Cq px) (hnO : ¬ OU [⟨px, some l, cur, fin, O1⟩] gO) (hO : gO < n) : ACalls Tryz.prog 77 [.agg [aI 7, aI op, aI m, .sl 1 va .ro, .sl 5 vb .ro], px] n H (NewS false gO lo ⟨cur, (Fk (fun x => GZ op x m) l fin).1, (Fk (fun x => GZ op x m) l fin).2⟩ (OU [⟨px, some l, cur, fin, O1⟩]) n H) := by
 generalize hR : NewS _ _ _ _ _ _ _ = R
 obtain ⟨hraw0, hmon, hb1⟩ := Co h
 have hxf := hx
 have hb := h.bel
 have hc1 : AP [⟨px, some l, cur, fin, O1⟩] = cur := by simp [AP]
 have hOU : O1 = OU [⟨px, some l, cur, fin, O1⟩] := funext fun g => propext ⟨fun h => .inl h, fun h => h.elim id fun h => h.elim⟩
 have hraw : Raw true gO lo fin px l cur (OU [⟨px, some l, cur, fin, O1⟩]) H n := by rw [← hOU]; exact hraw0
 obtain ⟨ff, fa, fb, rfl⟩ := hx
 refine AF Tryz.func77 II rfl fun hs => ?_
 repeat' (first | (simp -implicitDefEqProofs [Ce, Ch, Cf, Cn, Cc, Cp, Cb, Cd, Cj, C6, c77, -getElem?_pos, splice, -AL]) | (simp (disch := omega) only [AC]) | (with_reducible first | refine A8 ?_ ?_ ?_ | exact AB | assumption | refine A2 ?_ | refine KM.of ?_ | refine AD ?_ | refine A3 ?_ | refine A6 ?_ | intro _g _hg | refine AE ?_ ?_ | intro _hc) | omega)
 rename_i ga hga
 subst hR
 have hrec := VV (g1 := _g) (g2 := ga) (k := 7) (a := .sl 1 va .ro) (b := .sl 5 vb .ro) hop hm h3 l cur _ (upd (upd H ga (some (Ab 7 op m (.sl 1 va .ro) (.sl 5 vb .ro)))) _g (some (Bs (.fn ff fa fb)))) (_g + 1) (hraw.at_ (fun g hg => by have := hb g hg; simp (disch := omega) only [upd_ne]) (by omega)) hrg hnO (fun g hg => by have := hb g hg; omega) (Bx.new hb hO (by omega) (by omega) (by simp (disch := omega) only [upd_ne, AO] <;> rfl)) (Bx.new hb hO (by omega) (by omega) (by simp (disch := omega) only [upd_ne, AO] <;> rfl))
 refine AK (r := .fn _ [] [.ptr _g 0, .ptr ga 0]) rfl (by omega) (fun k hk => by simp (disch := omega) only [upd_ne]; exact hs k (by omega)) ⟨⟨_, _, _, rfl⟩, by omega, (fun k hk => by simp (disch := omega) only [upd_ne]), (fun k hk => by simp (disch := omega) only [upd_ne]; exact hs k (by omega)), fun g => OU [⟨.fn ff fa fb, some l, cur, fin, O1⟩] g ∨ (g = _g ∨ g = ga), ?_, ?_, hrec⟩
 ·rintro g (h | h | h)
  ·exact .inl h
  ·exact .inr (by omega)
  ·exact .inr (by omega)
 ·rintro g (h | h | h)
  ·have := hb g h; omega
  ·omega
  ·omega
theorem T9 {op m : Int} {va vb : List AV} (hrg : rgE l) (h : Pts gO lo [⟨px, some l, cur, fin, O1⟩] H n) (hx : Cq px) (hnO : ¬ OU [⟨px, some l, cur, fin, O1⟩] gO) (hO : gO < n) : ACalls Tryz.prog 77 [.agg [aI 11, aI op, aI m, .sl 1 va .ro, .sl 5 vb .ro], px] n H (NewS false gO lo ⟨cur, J0 (-1) l, fin⟩ (OU [⟨px, some l, cur, fin, O1⟩]) n H) := by
 generalize hR : NewS _ _ _ _ _ _ _ = R
 obtain ⟨hraw0, hmon, hb1⟩ := Co h
 have hxf := hx
 have hb := h.bel
 have hc1 : AP [⟨px, some l, cur, fin, O1⟩] = cur := by simp [AP]
 have hOU : O1 = OU [⟨px, some l, cur, fin, O1⟩] := funext fun g => propext ⟨fun h => .inl h, fun h => h.elim id fun h => h.elim⟩
 have hraw : Raw true gO lo fin px l cur (OU [⟨px, some l, cur, fin, O1⟩]) H n := by rw [← hOU]; exact hraw0
 obtain ⟨ff, fa, fb, rfl⟩ := hx
 refine AF Tryz.func77 II rfl fun hs => ?_
 repeat' (first | (simp -implicitDefEqProofs [Ce, Ch, Cf, Cn, Cc, Cp, Cb, Cd, Cj, C6, c77, -getElem?_pos, splice, -AL]) | (simp (disch := omega) only [AC]) | (with_reducible first | refine A8 ?_ ?_ ?_ | exact AB | assumption | refine A2 ?_ | refine KM.of ?_ | refine AD ?_ | refine A3 ?_ | refine A6 ?_ | intro _g _hg | refine AE ?_ ?_ | intro _hc) | omega)
 rename_i ga hga gb hgb
 subst hR
 have hrec := XM hxf (show gb ≠ _g by omega) _ (-1) l cur O1 _ (upd (upd (upd (upd H ga (some (Ab 11 op m (.sl 1 va .ro) (.sl 5 vb .ro)))) gb (some (Bs (.fn ff fa fb)))) _g (some (Be 0))) _g (some (Be (-1)))) (_g + 1) (Nat.le_refl _) (h.newB (by omega) (fun k hk => by simp (disch := omega) only [upd_ne])) rfl hrg hnO (Bx.new hb hO (by omega) (by omega) (by simp (disch := omega) only [upd_ne, AO] <;> rfl)) (Bx.new hb hO (by omega) (by omega) (by simp (disch := omega) only [upd_ne, AO] <;> rfl))
 simp only [AP, List.append_nil] at hrec
 refine AK (r := .fn _ [] [.ptr gb 0, .ptr _g 0]) rfl (by omega) (fun k hk => by simp (disch := omega) only [upd_ne]; exact hs k (by omega)) ⟨⟨_, _, _, rfl⟩, by omega, (fun k hk => by simp (disch := omega) only [upd_ne]), (fun k hk => by simp (disch := omega) only [upd_ne]; exact hs k (by omega)), fun g => OU [⟨.fn ff fa fb, some l, cur, fin, O1⟩] g ∨ (g = gb ∨ g = _g), ?_, ?_, hrec⟩
 ·rintro g (h | h | h)
  ·exact .inl h
  ·exact .inr (by omega)
  ·exact .inr (by omega)
 ·rintro g (h | h | h)
  ·have := hb g h; omega
  ·omega
  ·omega
theorem VQ {op m : Int} {va vb : List AV} {j : Nat} (hm : j ≤ 5000) (h : Pts gO lo [⟨px, some l, cur, fin, O1⟩] H n) (hx : Cq px) (hnO : ¬ OU [⟨px, some l, cur, fin, O1⟩] gO) (hO : gO < n) : ACalls Tryz.prog 77 [.agg [aI 5, aI op, aI (j : Nat), .sl 1 va .ro, .sl 5 vb .ro], px] n H (NewS false gO lo ⟨cur, (Eb j cur l fin).1, (Eb j cur l fin).2⟩ (OU [⟨px, some l, cur, fin, O1⟩]) n H) := by
 generalize hR : NewS _ _ _ _ _ _ _ = R
 have hxf := hx
 have hb := h.bel
 obtain ⟨ff, fa, fb, rfl⟩ := hx
 refine AF Tryz.func77 II rfl fun hs => ?_
 repeat' (first | (simp -implicitDefEqProofs [Ce, Ch, Cf, Cn, Cc, Cp, Cb, Cd, Cj, C6, c77, -getElem?_pos, splice, -AL]) | (simp (disch := omega) only [AC]) | ((with_reducible refine Ae 109 ?_); refine ⟨_, A00 (gO := gO) (lo := lo) hm (h.newB (by dsimp only; omega) (fun k hk => by simp (disch := omega) only [upd_ne])) hxf hnO (by dsimp only; omega), ?_⟩; rintro r n' H' hle hsup hpost) | (with_reducible first | refine A8 ?_ ?_ ?_ | exact AB | assumption | refine A2 ?_ | refine KM.of ?_ | refine AD ?_ | refine A3 ?_ | refine A6 ?_ | intro _g _hg | refine AE ?_ ?_ | intro _hc) | omega)
 rename_i ga hga
 subst hR
 dsimp only at hle hpost
 have hp2 := hpost.up (n := n) (H := H) (by omega) (fun k hk => by simp (disch := omega) only [upd_ne])
 exact AK rfl hp2.2.1 hsup hp2
theorem Up {op m : Int} {va vb : List AV} {j : Nat} (hm : j ≤ 5000) (h : Pts gO lo [⟨px, some l, cur, fin, O1⟩] H n) (hx : Cq px) (hnO : ¬ OU [⟨px, some l, cur, fin, O1⟩] gO) (hO : gO < n) : ACalls Tryz.prog 77 [.agg [aI 6, aI op, aI (j : Nat), .sl 1 va .ro, .sl 5 vb .ro], px] n H (NewS false gO lo ⟨cur, l.drop j, fin⟩ (OU [⟨px, some l, cur, fin, O1⟩]) n H) := by
 generalize hR : NewS _ _ _ _ _ _ _ = R
 have hxf := hx
 have hb := h.bel
 obtain ⟨ff, fa, fb, rfl⟩ := hx
 refine AF Tryz.func77 II rfl fun hs => ?_
 repeat' (first | (simp -implicitDefEqProofs [Ce, Ch, Cf, Cn, Cc, Cp, Cb, Cd, Cj, C6, c77, -getElem?_pos, splice, -AL]) | (simp (disch := omega) only [AC]) | ((with_reducible refine Ae 110 ?_); refine ⟨_, Zb (gO := gO) (lo := lo) hm (h.newB (by dsimp only; omega) (fun k hk => by simp (disch := omega) only [upd_ne])) hxf hnO (by dsimp only; omega), ?_⟩; rintro r n' H' hle hsup hpost) | (with_reducible first | refine A8 ?_ ?_ ?_ | exact AB | assumption | refine A2 ?_ | refine KM.of ?_ | refine AD ?_ | refine A3 ?_ | refine A6 ?_ | intro _g _hg | refine AE ?_ ?_ | intro _hc) | omega)
 rename_i ga hga
 subst hR
 dsimp only at hle hpost
 have hp2 := hpost.up (n := n) (H := H) (by omega) (fun k hk => by simp (disch := omega) only [upd_ne])
 exact AK rfl hp2.2.1 hsup hp2
theorem Vw {op m : Int} {va vb : List AV} (hop : 1 ≤ op ∧ op ≤ 3) (hm : B0 m) (h3 : op = 3 → 1 ≤ m) (hrg : rgE l) (h : Pts gO lo [⟨px, some l, cur, fin, O1⟩] H n) (hx : Cq px) (hnO : ¬ OU [⟨px, some l, cur, fin, O1⟩] gO) (hO : gO < n) : ACalls Tryz.prog 77 [.agg [aI 8, aI op, aI m, .sl 1 va .ro, .sl 5 vb .ro], px] n H (NewS false gO lo ⟨cur, IG (fun x => GZ op x m) l, fin⟩ (OU [⟨px, some l, cur, fin, O1⟩]) n H) := by
 generalize hR : NewS _ _ _ _ _ _ _ = R
 have hxf := hx
 have hb := h.bel
 obtain ⟨ff, fa, fb, rfl⟩ := hx
 refine AF Tryz.func77 II rfl fun hs => ?_
 repeat' (first | (simp -implicitDefEqProofs [Ce, Ch, Cf, Cn, Cc, Cp, Cb, Cd, Cj, C6, c77, -getElem?_pos, splice, -AL]) | (simp (disch := omega) only [AC]) | ((with_reducible refine Ae 112 ?_); refine ⟨_, ZI (gO := gO) (lo := lo) (k := 8) (va := va) (vb := vb) hop hm h3 hrg (h.newB (by dsimp only; omega) (fun k hk => by simp (disch := omega) only [upd_ne])) hxf hnO (by dsimp only; omega), ?_⟩; rintro r n' H' hle hsup hpost) | (with_reducible first | refine A8 ?_ ?_ ?_ | exact AB | assumption | refine A2 ?_ | refine KM.of ?_ | refine AD ?_ | refine A3 ?_ | refine A6 ?_ | intro _g _hg | refine AE ?_ ?_ | intro _hc) | omega)
 rename_i ga hga
 subst hR
 dsimp only at hle hpost
 have hp2 := hpost.up (n := n) (H := H) (by omega) (fun k hk => by simp (disch := omega) only [upd_ne])
 exact AK rfl hp2.2.1 hsup hp2
theorem Vu {op m : Int} {va vb : List AV} (hop : 1 ≤ op ∧ op ≤ 5) (hm : B0 m) (hrg : rgE l) (h : Pts gO lo [⟨px, some l, cur, fin, O1⟩] H n) (hx : Cq px) (hnO : ¬ OU [⟨px, some l, cur, fin, O1⟩] gO) (hO : gO < n) : ACalls Tryz.prog 77 [.agg [aI 9, aI op, aI m, .sl 1 va .ro, .sl 5 vb .ro], px] n H (NewS false gO lo ⟨cur, J1 (Dn op) m l, fin⟩ (OU [⟨px, some l, cur, fin, O1⟩]) n H) := by
 generalize hR : NewS _ _ _ _ _ _ _ = R
 have hxf := hx
 have hb := h.bel
 obtain ⟨ff, fa, fb, rfl⟩ := hx
 refine AF Tryz.func77 II rfl fun hs => ?_
 repeat' (first | (simp -implicitDefEqProofs [Ce, Ch, Cf, Cn, Cc, Cp, Cb, Cd, Cj, C6, c77, -getElem?_pos, splice, -AL]) | (simp (disch := omega) only [AC]) | ((with_reducible refine Ae 113 ?_); refine ⟨_, Zc (gO := gO) (lo := lo) (k := 9) (va := va) (vb := vb) hop hm hrg (h.newB (by dsimp only; omega) (fun k hk => by simp (disch := omega) only [upd_ne])) hxf hnO (by dsimp only; omega), ?_⟩; rintro r n' H' hle hsup hpost) | (with_reducible first | refine A8 ?_ ?_ ?_ | exact AB | assumption | refine A2 ?_ | refine KM.of ?_ | refine AD ?_ | refine A3 ?_ | refine A6 ?_ | intro _g _hg | refine AE ?_ ?_ | intro _hc) | omega)
 rename_i ga hga
 subst hR
 dsimp only at hle hpost
 have hp2 := hpost.up (n := n) (H := H) (by omega) (fun k hk => by simp (disch := omega) only [upd_ne])
 exact AK rfl hp2.2.1 hsup hp2
theorem U1 {op m : Int} {va vb : List AV} {j : Nat} (hop : 1 ≤ op ∧ op ≤ 5) (hm : 1 ≤ j ∧ j ≤ 8) (hrg : rgE l) (h : Pts gO lo [⟨px, some l, cur, fin, O1⟩] H n) (hx : Cq px) (hnO : ¬ OU [⟨px, some l, cur, fin, O1⟩] gO) (hO : gO < n) : ACalls Tryz.prog 77 [.agg [aI 10, aI op, aI (j : Nat), .sl 1 va .ro, .sl 5 vb .ro], px] n H (NewS false gO lo ⟨cur, Gc (Dn op) j [] l, fin⟩ (OU [⟨px, some l, cur, fin, O1⟩]) n H) := by
 generalize hR : NewS _ _ _ _ _ _ _ = R
 have hxf := hx
 have hb := h.bel
 obtain ⟨ff, fa, fb, rfl⟩ := hx
 refine AF Tryz.func77 II rfl fun hs => ?_
 repeat' (first | (simp -implicitDefEqProofs [Ce, Ch, Cf, Cn, Cc, Cp, Cb, Cd, Cj, C6, c77, -getElem?_pos, splice, -AL]) | (simp (disch := omega) only [AC]) | ((with_reducible refine Ae 114 ?_); refine ⟨_, W6 (gO := gO) (lo := lo) (k := 10) (va := va) (vb := vb) hop hm hrg (h.newB (by dsimp only; omega) (fun k hk => by simp (disch := omega) only [upd_ne])) hxf hnO (by dsimp only; omega), ?_⟩; rintro r n' H' hle hsup hpost) | (with_reducible first | refine A8 ?_ ?_ ?_ | exact AB | assumption | refine A2 ?_ | refine KM.of ?_ | refine AD ?_ | refine A3 ?_ | refine A6 ?_ | intro _g _hg | refine AE ?_ ?_ | intro _hc) | omega)
 rename_i ga hga
 subst hR
 dsimp only at hle hpost
 have hp2 := hpost.up (n := n) (H := H) (by omega) (fun k hk => by simp (disch := omega) only [upd_ne])
 exact AK rfl hp2.2.1 hsup hp2
theorem Ro {op m : Int} {va vb : List AV}  (h : Pts gO lo [⟨px, some l, cur, fin, O1⟩] H n) (hx : Cq px) (hnO : ¬ OU [⟨px, some l, cur, fin, O1⟩] gO) (hO : gO < n) : ACalls Tryz.prog 77 [.agg [aI 12, aI op, aI 0, .sl 1 va .ro, .sl 5 vb .ro], px] n H (NewS false gO lo ⟨cur, [], cur⟩ (OU [⟨px, some l, cur, fin, O1⟩]) n H) := by
 generalize hR : NewS _ _ _ _ _ _ _ = R
 have hxf := hx
 have hb := h.bel
 obtain ⟨ff, fa, fb, rfl⟩ := hx
 refine AF Tryz.func77 II rfl fun hs => ?_
 repeat' (first | (simp -implicitDefEqProofs [Ce, Ch, Cf, Cn, Cc, Cp, Cb, Cd, Cj, C6, c77, -getElem?_pos, splice, -AL]) | (simp (disch := omega) only [AC]) | ((with_reducible refine Ae 117 ?_); refine ⟨_, VF (gO := gO) (lo := lo) (h.newB (by dsimp only; omega) (fun k hk => by simp (disch := omega) only [upd_ne])) hxf hnO (by dsimp only; omega), ?_⟩; rintro r n' H' hle hsup hpost) | (with_reducible first | refine A8 ?_ ?_ ?_ | exact AB | assumption | refine A2 ?_ | refine KM.of ?_ | refine AD ?_ | refine A3 ?_ | refine A6 ?_ | intro _g _hg | refine AE ?_ ?_ | intro _hc) | omega)
 rename_i ga hga
 subst hR
 dsimp only at hle hpost
 have hp2 := hpost.up (n := n) (H := H) (by omega) (fun k hk => by simp (disch := omega) only [upd_ne])
 exact AK rfl hp2.2.1 hsup hp2
theorem U0 {op m : Int} {va vb : List AV} {j : Nat} (hm : 1 ≤ j ∧ j ≤ 20) (hl : l.length ≤ 5000) (h : Pts gO lo [⟨px, some l, cur, fin, O1⟩] H n) (hx : Cq px) (hnO : ¬ OU [⟨px, some l, cur, fin, O1⟩] gO) (hO : gO < n) : ACalls Tryz.prog 77 [.agg [aI 12, aI op, aI (j : Nat), .sl 1 va .ro, .sl 5 vb .ro], px] n H (NewS false gO lo ⟨cur, l ++ Fm (l.map (·.1)) fin (j - 1), fin⟩ (OU [⟨px, some l, cur, fin, O1⟩]) n H) := by
 generalize hR : NewS _ _ _ _ _ _ _ = R
 have hxf := hx
 have hb := h.bel
 obtain ⟨ff, fa, fb, rfl⟩ := hx
 refine AF Tryz.func77 II rfl fun hs => ?_
 repeat' (first | (simp -implicitDefEqProofs [Ce, Ch, Cf, Cn, Cc, Cp, Cb, Cd, Cj, C6, c77, -getElem?_pos, splice, -AL]) | (simp (disch := omega) only [AC]) | ((with_reducible refine Ae 117 ?_); refine ⟨_, Vm (gO := gO) (lo := lo) hm hl (h.newB (by dsimp only; omega) (fun k hk => by simp (disch := omega) only [upd_ne])) hxf hnO (by dsimp only; omega), ?_⟩; rintro r n' H' hle hsup hpost) | (with_reducible first | refine A8 ?_ ?_ ?_ | exact AB | assumption | refine A2 ?_ | refine KM.of ?_ | refine AD ?_ | refine A3 ?_ | refine A6 ?_ | intro _g _hg | refine AE ?_ ?_ | intro _hc) | omega)
 rename_i ga hga
 subst hR
 dsimp only at hle hpost
 have hp2 := hpost.up (n := n) (H := H) (by omega) (fun k hk => by simp (disch := omega) only [upd_ne])
 exact AK rfl hp2.2.1 hsup hp2
end
theorem Xq (ps : List Pt) : TM [] ps = ((De (ps.map Pt.fut)).l, (De (ps.map Pt.fut)).fin) := by simp [TM, AP]
section
variable {gO lo n : Nat} {H : A7}
theorem Y5 {ps : List Pt} (h : Pts gO lo ps H n) (hall : K3 ps) (hnO : ¬ OU ps gO) (hO : gO < n) (h60 : ps.length ≤ 60) : ACalls Tryz.prog 73 [.sl 1 (ps.map Pt.x) .ro] n H (NewS false gO lo (De (ps.map Pt.fut)) (OU ps) n H) := by
 generalize hR : NewS _ _ _ _ _ _ _ = R
 have hb := h.bel
 refine AF Tryz.func73 A1y rfl fun hs => ?_
 repeat' (first | (simp -implicitDefEqProofs [c73, -getElem?_pos, splice, -AL]) | (simp (disch := omega) only [AC]) | (with_reducible first | refine A8 ?_ ?_ ?_ | exact AB | assumption | refine A2 ?_ | refine KM.of ?_ | refine AD ?_ | refine A3 ?_ | refine A6 ?_ | intro _g _hg | refine AE ?_ ?_ | intro _hc) | omega)
 subst hR
 have hrec := Uv (g1 := _g) (gO := gO) (lo := lo) _ [] ps _ (upd H _g (some (FS ps))) (_g + 1) (Nat.le_refl _) (h.newB (by omega) (fun k hk => by simp (disch := omega) only [upd_ne])) rfl hall hnO (Bx.new hb hO (by omega) (by omega) (by simp (disch := omega) only [upd_ne, AO] <;> rfl)) h60
 rw [Xq] at hrec
 simp only [List.nil_append] at hrec
 rw [← Oa] at hrec
 refine AK (r := .fn _ [] [.ptr _g 0]) rfl (by omega) (fun k hk => by simp (disch := omega) only [upd_ne]; exact hs k (by omega)) ⟨⟨_, _, _, rfl⟩, by omega, (fun k hk => by simp (disch := omega) only [upd_ne]), (fun k hk => by simp (disch := omega) only [upd_ne]; exact hs k (by omega)), _, ?_, ?_, hrec⟩
 ·rintro g (h | h)
  ·exact .inl h
  ·exact .inr (by omega)
 ·rintro g (h | h)
  ·have := hb g h; omega
  ·omega
theorem Xz (ps : List Pt) : (List.range ps.length).map (ent ps) = (ps.map Pt.fut).zipIdx.map fun x => (x.2, x.1.l, x.1.fin) := by
 refine List.ext_getElem (by simp) fun i h1 h2 => ?_
 simp at h1
 simp [ent, Pt.fut, List.getElem?_eq_getElem h1]
theorem Z1 (ps : List Pt) : (List.range ps.length).map (W1 ps) = ps.map Pt.x := by
 refine List.ext_getElem (by simp) fun i h1 h2 => ?_
 simp at h1
 simp [W1, List.getElem?_eq_getElem h1]
theorem YD (ps : List Pt) : UT ps (List.range ps.length) = RY (ps.map Pt.fut) := by
 unfold UT RY
 congr 1
 refine List.ext_getElem (by simp) fun i h1 h2 => ?_
 simp at h1
 simp [ent, Pt.fut, List.getElem?_eq_getElem h1]
theorem Xv {ps : List Pt} (h : Pts gO lo ps H n) (hall : K3 ps) (hnO : ¬ OU ps gO) (hO : gO < n) (h60 : ps.length ≤ 60) : ACalls Tryz.prog 74 [.sl 1 (ps.map Pt.x) .ro] n H (NewS false gO lo (JA (ps.map Pt.fut)) (OU ps) n H) := by
 generalize hR : NewS _ _ _ _ _ _ _ = R
 have hb := h.bel
 refine AF Tryz.func74 A2i rfl fun hs => ?_
 repeat' (first | (simp -implicitDefEqProofs [c74, -getElem?_pos, splice, -AL]) | (simp (disch := omega) only [AC]) | (with_reducible first | refine A8 ?_ ?_ ?_ | exact AB | assumption | refine A2 ?_ | refine KM.of ?_ | refine AD ?_ | refine A3 ?_ | refine A6 ?_ | intro _g _hg | refine AE ?_ ?_ | intro _hc) | omega)
 subst hR
 have hqo : WI ps (List.range ps.length) := fun i hi => by
  have hi : i < ps.length := by simpa using hi
  obtain ⟨h1, h2⟩ := hall ps[i] (List.getElem_mem hi)
  exact ⟨ps[i], List.getElem?_eq_getElem hi, h1, h2⟩
 have hrec := Vr (g1 := _g) (gO := gO) (lo := lo) (RY (ps.map Pt.fut)) ps (List.range ps.length) .ro _ (upd H _g (some (FS ps))) (_g + 1) (h.newB (by omega) (fun k hk => by simp (disch := omega) only [upd_ne])) rfl List.nodup_range hqo (by rw [YD]; exact Nat.le_refl _) hnO (Bx.new hb hO (by omega) (by omega) (by rw [Z1]; exact AO _ _ _)) (by simpa using h60)
 have hT : JA (ps.map Pt.fut) = ⟨AP ps, (EM (RY (ps.map Pt.fut)) ((List.range ps.length).map (ent ps)) (ps.map Pt.cur)).1, (EM (RY (ps.map Pt.fut)) ((List.range ps.length).map (ent ps)) (ps.map Pt.cur)).2.flatten⟩ := by
  have e : (ps.map Pt.fut).map (·.cur) = ps.map Pt.cur := by rw [List.map_map]; rfl
  rw [JA, Xz, e, Hc]
 rw [hT]
 refine AK (r := .fn _ [] [.ptr _g 0]) rfl (by omega) (fun k hk => by simp (disch := omega) only [upd_ne]; exact hs k (by omega)) ⟨⟨_, _, _, rfl⟩, by omega, (fun k hk => by simp (disch := omega) only [upd_ne]), (fun k hk => by simp (disch := omega) only [upd_ne]; exact hs k (by omega)), _, ?_, ?_, hrec⟩
 ·rintro g (h | h)
  ·exact .inl h
  ·exact .inr (by omega)
 ·rintro g (h | h)
  ·have := hb g h; omega
  ·omega
theorem A17 {op : Int} {xa xb : AV} {la lb : Aw} {ca cb fa fb : Ad} {O1 O2 : Nat → Prop} (hop : 1 ≤ op ∧ op ≤ 5) (h : Pts gO lo [⟨xa, some la, ca, fa, O1⟩, ⟨xb, some lb, cb, fb, O2⟩] H n) (hxa : Cq xa) (hxb : Cq xb) (hra : rgE la) (hrb : rgE lb) (hnO : ¬ OU [⟨xa, some la, ca, fa, O1⟩, ⟨xb, some lb, cb, fb, O2⟩] gO) (hO : gO < n) : ACalls Tryz.prog 75 [aI op, xa, xb] n H (NewS false gO lo ⟨ca ++ cb, (HW (Dn op) fa fb la cb lb).1, (HW (Dn op) fa fb la cb lb).2⟩ (OU [⟨xa, some la, ca, fa, O1⟩, ⟨xb, some lb, cb, fb, O2⟩]) n H) := by
 generalize hR : NewS _ _ _ _ _ _ _ = R
 have hb := h.bel
 obtain ⟨f0, a0, w0, rfl⟩ := hxa
 obtain ⟨f1, a1, w1, rfl⟩ := hxb
 refine AF Tryz.func75 A1f rfl fun hs => ?_
 repeat' (first | (simp -implicitDefEqProofs [c75, -getElem?_pos, splice, -AL]) | (simp (disch := omega) only [AC]) | (with_reducible first | refine A8 ?_ ?_ ?_ | exact AB | assumption | refine A2 ?_ | refine KM.of ?_ | refine AD ?_ | refine A3 ?_ | refine A6 ?_ | intro _g _hg | refine AE ?_ ?_ | intro _hc) | omega)
 rename_i ga hga gb hgb
 subst hR
 have hrec := Z2 (g1 := gb) (g2 := _g) (g3 := ga) (gO := gO) (lo := lo) hop la ca cb lb O1 O2 _ (upd (upd (upd H ga (some (Be op))) gb (some (Bs (.fn f0 a0 w0)))) _g (some (Bs (.fn f1 a1 w1)))) (_g + 1) (h.newB (by omega) (fun k hk => by simp (disch := omega) only [upd_ne])) rfl hra hrb hnO (Bx.new hb hO (by omega) (by omega) (by simp (disch := omega) only [upd_ne, AO] <;> rfl)) (Bx.new hb hO (by omega) (by omega) (by simp (disch := omega) only [upd_ne, AO] <;> rfl)) (Bx.new hb hO (by omega) (by omega) (by simp (disch := omega) only [upd_ne, AO] <;> rfl))
 refine AK (r := .fn _ [] [.ptr gb 0, .ptr _g 0, .ptr ga 0]) rfl (by omega) (fun k hk => by simp (disch := omega) only [upd_ne]; exact hs k (by omega)) ⟨⟨_, _, _, rfl⟩, by omega, (fun k hk => by simp (disch := omega) only [upd_ne]), (fun k hk => by simp (disch := omega) only [upd_ne]; exact hs k (by omega)), _, ?_, ?_, hrec⟩
 ·rintro g (h | h | h | h)
  ·exact .inl h
  ·exact .inr (by omega)
  ·exact .inr (by omega)
  ·exact .inr (by omega)
 ·rintro g (h | h | h | h)
  ·have := hb g h; omega
  ·omega
  ·omega
  ·omega
theorem Y6 {xa xb : AV} {la lb : Aw} {ca cb fa fb : Ad} {O1 O2 : Nat → Prop} (h : Pts gO lo [⟨xa, some la, ca, fa, O1⟩, ⟨xb, some lb, cb, fb, O2⟩] H n) (hxa : Cq xa) (hxb : Cq xb) (hnO : ¬ OU [⟨xa, some la, ca, fa, O1⟩, ⟨xb, some lb, cb, fb, O2⟩] gO) (hO : gO < n) : ACalls Tryz.prog 76 [.sl 1 [xa, xb] .ro] n H (NewS false gO lo ⟨ca ++ cb, CG fa fb la lb, fa ++ fb⟩ (OU [⟨xa, some la, ca, fa, O1⟩, ⟨xb, some lb, cb, fb, O2⟩]) n H) := by
 generalize hR : NewS _ _ _ _ _ _ _ = R
 have hb := h.bel
 refine AF Tryz.func76 A2f rfl fun hs => ?_
 repeat' (first | (simp -implicitDefEqProofs [c76, -getElem?_pos, splice, -AL]) | (simp (disch := omega) only [AC]) | (with_reducible first | refine A8 ?_ ?_ ?_ | exact AB | assumption | refine A2 ?_ | refine KM.of ?_ | refine AD ?_ | refine A3 ?_ | refine A6 ?_ | intro _g _hg | refine AE ?_ ?_ | intro _hc) | omega)
 rename_i ga hga gb hgb
 subst hR
 have hrec := Vq (g1 := ga) (g2 := _g) (g3 := gb) (t := .ro) (gO := gO) (lo := lo) (show ga ≠ _g by omega) (show ga ≠ gb by omega) (show _g ≠ gb by omega) hxa hxb _ ⟨xa, some la, ca, fa, O1⟩ ⟨xb, some lb, cb, fb, O2⟩ false false 0 0 _ (upd (upd (upd H ga (some (I1 [xa, xb] .ro))) gb (some (Oh 0 0))) _g (some (J7 false false))) (_g + 1) (Nat.le_refl _) (h.newB (by omega) (fun k hk => by simp (disch := omega) only [upd_ne])) rfl rfl rfl rfl rfl hnO (Bx.new hb hO (by omega) (by omega) (by simp (disch := omega) only [upd_ne, AO] <;> rfl)) (Bx.new hb hO (by omega) (by omega) (by simp (disch := omega) only [upd_ne, AO] <;> rfl)) (Bx.new hb hO (by omega) (by omega) (by simp (disch := omega) only [upd_ne, AO] <;> rfl))
 simp only [side, AP, List.append_nil, Option.getD_some] at hrec
 refine AK (r := .fn _ [] [.ptr ga 0, .ptr _g 0, .ptr gb 0]) rfl (by omega) (fun k hk => by simp (disch := omega) only [upd_ne]; exact hs k (by omega)) ⟨⟨_, _, _, rfl⟩, by omega, (fun k hk => by simp (disch := omega) only [upd_ne]), (fun k hk => by simp (disch := omega) only [upd_ne]; exact hs k (by omega)), _, ?_, ?_, hrec⟩
 ·rintro g (h | h | h | h)
  ·exact .inl h
  ·exact .inr (by omega)
  ·exact .inr (by omega)
  ·exact .inr (by omega)
 ·rintro g (h | h | h | h)
  ·have := hb g h; omega
  ·omega
  ·omega
  ·omega
end
def LS (gO : Nat) (cs : Ad) (H : A7) : Option Nat → Prop
 | none => cs = [] ∧ H gO = some (.cells 74 [.sl 0 [] .nil])
 | some gg => H gO = some (.cells 74 [.slg 1 gg cs.length]) ∧ H gg = some (.grow 3 (cs.map aI))
def OpenP (e : Bool) (gO : Nat) (cs : Ad) (q : Option Nat) (F : Fut) (n : Nat) (H : A7) : Bm := fun r n' H' => Cq r ∧ n ≤ n' ∧ (∀ k, n' ≤ k → H' k = none) ∧ ∃ gg, LS gO (cs ++ F.cur) H' (some gg) ∧ (q = some gg ∨ n ≤ gg) ∧ gg < n' ∧ (∀ g, g < n → g ≠ gO → q ≠ some g → H' g = H g) ∧
 ∃ O' : Nat → Prop, (∀ g, O' g → n ≤ g ∧ g < n') ∧ ¬ O' gg ∧ Raw e gO cs.length F.fin r F.l F.cur O' H' n'
theorem Is {gO n n' g ga gc gd z : Nat} {t : Tok} {H H' : A7} {cs : Ad} {q : Option Nat} {xs : List Int} (hx : xs.length ≤ 140737488355328) (hz : z = 1 ∨ xs = []) (hO : gO < n) (hq : q = some g ∨ n ≤ g) (hg : g < n') (hn : n ≤ n') (a1 : n ≤ ga ∧ ga < n' ∧ ga ≠ g) (a2 : n ≤ gc ∧ gc < n' ∧ gc ≠ g) (a3 : n ≤ gd ∧ gd < n' ∧ gd ≠ g)
  (h1 : H' gO = some (.cells 74 [.slg 1 g (cs.length + 1)])) (h2 : H' g = some (.grow 3 ((cs ++ [0]).map aI))) (h3 : H' ga = some (.cells 72 [.ptr gO 0])) (h4 : H' gc = some (Be cs.length)) (h5 : H' gd = some (QJ (.sl z (xs.map aI) t))) (fr : ∀ k, k < n → k ≠ gO → q ≠ some k → H' k = H k) (sup : ∀ k, n' ≤ k → H' k = none) :
  OpenP false gO cs q (I7 xs) n H (.fn 97 [] [.ptr ga 0, .ptr gc 0, .ptr gd 0]) n' H' := by
 have hrec := XK (gO := gO) (lo := cs.length) (g1 := ga) (g2 := gc) (g3 := gd) hx hz xs.length 0 (fun _ => False) H' n' (by omega) (fun h => h) (fun g h => h.elim) ⟨fun h => h, by omega, a1.2.1, h3⟩ ⟨fun h => h, by omega, a2.2.1, h4⟩ ⟨fun h => h, by omega, a3.2.1, h5⟩
 rw [List.drop_zero] at hrec
 refine ⟨⟨_, _, _, rfl⟩, hn, sup, g, ⟨by simpa [I7] using h1, h2⟩, hq, hg, fr, _, ?_, ?_, hrec⟩
 ·rintro k (h | rfl | rfl | rfl)
  ·exact h.elim
  ·exact ⟨a1.1, a1.2.1⟩
  ·exact ⟨a2.1, a2.2.1⟩
  ·exact ⟨a3.1, a3.2.1⟩
 ·rintro (h | h | h | h)
  ·exact h
  ·exact a1.2.2 h.symm
  ·exact a2.2.2 h.symm
  ·exact a3.2.2 h.symm
theorem LS.lt {gO n : Nat} {H : A7} {cs : Ad} {q : Option Nat} (h : LS gO cs H q) (hs : ∀ g, n ≤ g → H g = none) : gO < n ∧ ∀ g, q = some g → g < n ∧ gO ≠ g := by
 have k1 : ∀ (g : Nat) (ob : AObj), H g = some ob → g < n := fun g ob h => by
  rcases Nat.lt_or_ge g n with h1 | h1
  ·exact h1
  ·rw [hs g h1] at h; cases h
 match q, h with
 | none, h => exact ⟨k1 _ _ h.2, fun g h => by cases h⟩
 | some gg, h =>
  refine ⟨k1 _ _ h.1, fun g e => ?_⟩
  injection e with e
  subst e
  exact ⟨k1 _ _ h.2, fun e => by have := h.1; rw [e, h.2] at this; cases this⟩
theorem Uy {gO n : Nat} {H : A7} {cs : Ad} {q : Option Nat} {o m : Int} {v : List Int} {p : List St} (hv : v.length ≤ 140737488355328) (hcs : cs.length ≤ 100) (hL : LS gO cs H q) : ACalls Tryz.prog 72 [.ptr gO 0, encS (.mk 1 o m v p)] n H (OpenP false gO cs q (I7 v) n H) := by
 generalize hR : OpenP _ _ _ _ _ _ _ = R
 rw [AN]
 generalize Ac p = ep
 refine AF Tryz.func72 ZB rfl fun hs => ?_
 obtain ⟨hO, hgn⟩ := hL.lt hs
 have hcp : (cs ++ [0]).map aI = cs.map aI ++ [aI 0] := by simp
 cases q with
 | none =>
  obtain ⟨rfl, o1⟩ := hL
  repeat' (first | (simp -implicitDefEqProofs [G4, GD, GC, Fx, Fz, c72, -getElem?_pos, o1, splice]) | (simp (disch := omega) only [AC]) | (refine N9 (.inl rfl) (A0 _) (by simp) (by simp) (by simp [maxLen]) (fun g hg => ?_)) | (with_reducible first | refine A8 ?_ ?_ ?_ | exact AB | assumption | refine A2 ?_ | refine KM.of ?_ | refine AD ?_ | refine A3 ?_ | refine AI ?_ | refine A6 ?_ | refine AJ ?_ | refine AH ?_ | intro _g _hg | refine AE ?_ ?_ | intro _hc) | omega)
  ·simp [Ax, AV.fits, ones, AV.cells, AV.one]
  rename_i ga hga gb hgb gc hgc ge hge
  subst hR
  refine AK (r := .fn _ [] [.ptr ga 0, .ptr gc 0, .ptr _g 0]) rfl (by omega) (fun k hk => by simp (disch := omega) only [upd_ne]; exact hs k (by omega)) (Is (g := g) (xs := v) (z := 1) (t := .ro) hv (.inl rfl) hO (.inr (by omega)) (by omega) (by omega) ⟨by omega, by omega, by omega⟩ ⟨by omega, by omega, by omega⟩ ⟨by omega, by omega, by omega⟩ (by simp (disch := omega) only [upd_ne, AO] <;> rfl) (by simp (disch := omega) only [upd_ne, AO] <;> rfl) (by simp (disch := omega) only [upd_ne, AO] <;> rfl) (by simp (disch := omega) only [upd_ne, AO] <;> rfl) (by simp (disch := omega) only [upd_ne, AO] <;> rfl) (fun k h1 h2 h3 => by simp (disch := omega) only [upd_ne]) (fun k hk => by simp (disch := omega) only [upd_ne]; exact hs k (by omega)))
 | some gg =>
  obtain ⟨o1, o2⟩ := hL
  obtain ⟨hgn, hne⟩ := hgn gg rfl
  repeat' (first | (simp -implicitDefEqProofs [G4, GD, GC, Fx, Fz, c72, -getElem?_pos, o1, o2, splice]) | (simp (disch := omega) only [AC]) | (with_reducible refine JK [gg] ?_) | (refine M7 (.inl rfl) (A0 _) (by simp (disch := omega) only [upd_ne]; exact o2) (by simp) (by simp; omega) (by simp [maxLen]; omega) (fun g n' h1 h2 h3 => ?_)) | (with_reducible first | refine A8 ?_ ?_ ?_ | exact AB | assumption | refine A2 ?_ | refine KM.of ?_ | refine AD ?_ | refine A3 ?_ | refine AI ?_ | refine A6 ?_ | refine AJ ?_ | refine AH ?_ | intro _g _hg | refine AE ?_ ?_ | intro _hc) | omega)
  ·simp [Ax, AV.fits, ones, AV.cells, AV.one]
  rename_i ga hga gb hgb gc hgc ge hge
  subst hR
  refine AK (r := .fn _ [] [.ptr ga 0, .ptr gc 0, .ptr _g 0]) rfl (by omega) (fun k hk => by simp (disch := omega) only [upd_ne]; exact hs k (by omega)) (Is (g := g) (xs := v) (z := 1) (t := .ro) hv (.inl rfl) hO (h1.elim (fun h => .inl (by rw [h])) (fun h => .inr (by omega))) (by omega) (by omega) ⟨by omega, by omega, by omega⟩ ⟨by omega, by omega, by omega⟩ ⟨by omega, by omega, by omega⟩ (by simp (disch := omega) only [upd_ne, AO] <;> rfl) (by rw [hcp]; simp (disch := omega) only [upd_ne, AO]) (by simp (disch := omega) only [upd_ne, AO] <;> rfl) (by simp (disch := omega) only [upd_ne, AO] <;> rfl) (by simp (disch := omega) only [upd_ne, AO] <;> rfl) (fun k h1 h2 h3 => by have : k ≠ gg := fun e => h3 (by rw [e]); simp (disch := omega) only [upd_ne]) (fun k hk => by simp (disch := omega) only [upd_ne]; exact hs k (by omega)))
theorem R7 {a b c : Int} (hc : 1 ≤ c) (j : Nat) : a + (j : Int) * c < b ↔ j < He [a, b, c] := by
 show _ ↔ j < ((b - a + c - 1) / c).toNat
 have h := Int.le_ediv_iff_mul_le (a := (j : Int) + 1) (b := b - a + c - 1) (c := c) (by omega)
 rw [Int.add_mul] at h
 omega
theorem X7 {a b c : Int} {j : Nat} (hj : j < He [a, b, c]) : (Gd [a, b, c]).take (j + 1) = (Gd [a, b, c]).take j ++ [a + (j : Int) * c] := by
 rw [List.take_succ]
 congr 1
 simp [Gd, hj]
theorem R6 (a b c : Int) : (Gd [a, b, c]).length = He [a, b, c] := by simp [Gd]
theorem RX {a b c : Int} (hv : 0 ≤ a ∧ a ≤ 9999 ∧ 0 ≤ b ∧ b ≤ 10000 ∧ 1 ≤ c ∧ c ≤ 9999) : He [a, b, c] ≤ 10000 := by
 show ((b - a + c - 1) / c).toNat ≤ 10000
 have h := Int.ediv_lt_of_lt_mul (a := b - a + c - 1) (b := 10001) (c := c) (by omega) (by
  have h1 : (10000 : Int) * 1 ≤ 10000 * c := by omega
  omega)
 omega
theorem SD {n n1 ga gb gc gd : Nat} {H1 : A7} {R : Bm} {k o m a b c : Int} {ep : List AV} (hv : 0 ≤ a ∧ a ≤ 9999 ∧ 0 ≤ b ∧ b ≤ 10000 ∧ 1 ≤ c ∧ c ≤ 9999) (qb : H1 gb = some (Ab k o m (.sl 1 [aI a, aI b, aI c] .ro) (.sl 5 ep .ro))) (qd : H1 gd = some (QJ (.sl 0 [] .nil))) (lb : gb < n1) (ld : gd < n1) (nbd : gb ≠ gd) (sup : ∀ k, n1 ≤ k → H1 k = none)
  (hk : ∀ (e : AY) (n2 z : Nat) (t : Tok) (H2 : A7), get e 4 = .fn 97 [] [.ptr ga 0, .ptr gc 0, .ptr gd 0] → n1 ≤ n2 → (∀ k, k < n1 → k ≠ gd → H2 k = H1 k) → H2 gd = some (QJ (.sl z ((Gd [a, b, c]).map aI) t)) → z = 1 ∨ Gd [a, b, c] = [] → (∀ k, n2 ≤ k → H2 k = none) → fin R n [.tmp 4] .ret ⟨e, n2, H2⟩) :
  LoopK (fun Q s => aw Tryz.prog c72_L4 Q s) (DZ 0 (Dq (aw Tryz.prog c72_k1 (fin R n [.tmp 4])) (fin R n [.tmp 4]))) ⟨[(2, .ptr ga 0), (3, .ptr gb 0), (5, .ptr gc 0), (6, .ptr gd 0), (7, aI a)], n1, H1⟩ := by
 have hbd := RX hv
 have hln := R6 a b c
 refine LoopK.go (fun r st => ∃ (j n2 z : Nat) (t : Tok) (H2 : A7), j + r = He [a, b, c] ∧ st = ⟨[(2, .ptr ga 0), (3, .ptr gb 0), (5, .ptr gc 0), (6, .ptr gd 0), (7, aI (a + (j : Int) * c))], n2, H2⟩ ∧ n1 ≤ n2 ∧ (∀ k, k < n1 → k ≠ gd → H2 k = H1 k) ∧ H2 gd = some (QJ (.sl z (((Gd [a, b, c]).take j).map aI) t)) ∧ (t ≠ .nil → z = 1) ∧ TokOk t j H2 n2 ∧ (∀ g, Bh t g → n1 ≤ g) ∧ (∀ k, n2 ≤ k → H2 k = none)) (He [a, b, c]) ?_ ?_
 ·exact ⟨0, n1, 0, .nil, H1, by omega, by simp, Nat.le_refl _, fun _ _ _ => rfl, qd, fun h => absurd rfl h, rfl, fun g h => h.elim, sup⟩
 rintro r st ⟨j, n2, z, t, H2, hj, rfl, hn2, hfr, q6, hz, hT, hTn, hsup⟩ J hJ
 have q3 := (hfr gb lb nbd).trans qb
 by_cases hjl : j < He [a, b, c]
 ·have hlt := (R7 (a := a) (b := b) hv.2.2.2.2.1 j).2 hjl
  have hml : (((Gd [a, b, c]).take j).map aI).length = j := by simp; omega
  have hnx : ((Gd [a, b, c]).take (j + 1)).map aI = ((Gd [a, b, c]).take j).map aI ++ [aI (a + (j : Int) * c)] := by rw [X7 hjl]; simp
  have hw : IntKind.i64.wrap (a + (j : Int) * c + c) = a + ((j + 1 : Nat) : Int) * c := by
   have h0 : 0 ≤ (j : Int) * c := Int.mul_nonneg (by omega) (by omega)
   have e : ((j + 1 : Nat) : Int) * c = (j : Int) * c + c := by rw [Int.natCast_add, Int.add_mul]; simp
   rw [IntWalk.i64_in _ (by omega), e]; omega
  have hpx : 0 ≤ (j : Int) * c := Int.mul_nonneg (by omega) (by omega)
  generalize hx1 : a + ((j + 1 : Nat) : Int) * c = x1 at *
  generalize hx : a + (j : Int) * c = x at *
  generalize hls : ((Gd [a, b, c]).take j).map aI = ls at *
  
  repeat' (first | (simp -implicitDefEqProofs [G4, GD, GC, Fx, Fz, c72, -getElem?_pos, q3, q6, hlt, hw, nbd, Ne.symm nbd, splice]) | (simp (disch := omega) only [AC]) | (refine Hv (by rw [hml]; exact hT.at_ (fun k hk => by have := hT.lt k hk; rw [upd_ne (by omega)]) (by omega)) hz (by rw [hml]; omega) (fun k hk => by rw [upd_ne (by omega)]; exact hsup k (by omega)) (fun g' n3 H3 k1 k2 k3 k4 k5 k6 k7 => ?_); have q6 := (k4 gd (by omega) (fun h => by have := hTn gd h; omega)).trans ((upd_ne (by omega)).trans q6); have q3 := (k4 gb (by omega) (fun h => by have := hTn gb h; omega)).trans ((upd_ne (by omega)).trans q3)) | (with_reducible first | refine A8 ?_ ?_ ?_ | exact AB | assumption | refine A2 ?_ | refine KM.of ?_ | refine AD ?_ | refine A3 ?_ | refine AI ?_ | refine A6 ?_ | refine AJ ?_ | refine AH ?_ | intro _g _hg | refine AE ?_ ?_ | intro _hc) | omega)
  have hg1 : n1 ≤ g' := k1.elim (hTn g') (fun h => by omega)
  exact hJ (r - 1) _ (by omega) ⟨j + 1, n3, 1, .own g', upd H3 gd (some (QJ (.sl 1 (ls ++ [aI x]) (.own g')))), by omega, by rw [hx1], by omega, fun k h1 h2 => by rw [upd_ne h2, k4 k (by omega) (fun h => by have := hTn k h; omega), upd_ne (by omega)]; exact hfr k h1 h2, by rw [AO, hnx], fun _ => rfl, ⟨by rw [upd_ne (by omega), k5, hml], k3⟩, fun g hg => by have e : g = g' := hg; omega, fun k h1 => by rw [upd_ne (by omega)]; exact k6 k h1⟩
 ·have hlt : ¬ a + (j : Int) * c < b := fun h => hjl ((R7 hv.2.2.2.2.1 j).1 h)
  have hall : (Gd [a, b, c]).take j = Gd [a, b, c] := List.take_of_length_le (by omega)
  rw [hall] at q6
  generalize a + (j : Int) * c = x at *
  
  repeat' (first | (simp -implicitDefEqProofs [G4, GD, GC, Fx, Fz, c72, -getElem?_pos, q3, hlt, splice]) | (simp (disch := omega) only [AC]) | (with_reducible first | refine A8 ?_ ?_ ?_ | exact AB | assumption | refine A2 ?_ | refine KM.of ?_ | refine AD ?_ | refine A3 ?_ | refine AI ?_ | refine A6 ?_ | refine AJ ?_ | refine AH ?_ | intro _g _hg | refine AE ?_ ?_ | intro _hc) | omega)
  refine hk _ n2 z t H2 rfl hn2 hfr q6 ?_ hsup
  by_cases ht : t = .nil
  ·subst ht
   have e : j = 0 := hT
   exact .inr (List.length_eq_zero_iff.1 (by omega))
  ·exact .inl (hz ht)
theorem W9 {gO n : Nat} {H : A7} {cs : Ad} {q : Option Nat} {o m a b c : Int} {p : List St} (hv : 0 ≤ a ∧ a ≤ 9999 ∧ 0 ≤ b ∧ b ≤ 10000 ∧ 1 ≤ c ∧ c ≤ 9999) (hcs : cs.length ≤ 100) (hL : LS gO cs H q) : ACalls Tryz.prog 72 [.ptr gO 0, encS (.mk 2 o m [a, b, c] p)] n H (OpenP false gO cs q (I7 (Gd [a, b, c])) n H) := by
 generalize hR : OpenP _ _ _ _ _ _ _ = R
 rw [AN]
 generalize Ac p = ep
 refine AF Tryz.func72 ZB rfl fun hs => ?_
 obtain ⟨hO, hgn⟩ := hL.lt hs
 have hcp : (cs ++ [0]).map aI = cs.map aI ++ [aI 0] := by simp
 cases q with
 | none =>
  obtain ⟨rfl, o1⟩ := hL
  repeat' (first | (simp -implicitDefEqProofs [G4, GD, GC, Fx, Fz, c72, -getElem?_pos, o1, splice]) | (simp (disch := omega) only [AC]) | (refine N9 (.inl rfl) (A0 _) (by simp) (by simp) (by simp [maxLen]) (fun g hg => ?_)) | (with_reducible first | refine A8 ?_ ?_ ?_ | exact AB | assumption | refine A2 ?_ | refine KM.of ?_ | refine AD ?_ | refine A3 ?_ | refine AI ?_ | refine A6 ?_ | refine AJ ?_ | refine AH ?_ | intro _g _hg | refine AE ?_ ?_ | intro _hc) | omega)
  ·simp [Ax, AV.fits, ones, AV.cells, AV.one]
  rename_i ga hga gb hgb gc hgc ge hge
  refine SD (n := n) hv (by simp (disch := omega) only [upd_ne, AO] <;> rfl) (by simp (disch := omega) only [upd_ne, AO] <;> rfl) (by omega) (by omega) (by omega) (fun k hk => by simp (disch := omega) only [upd_ne]; exact hs k (by omega)) (fun e n2 z t H2 h1 h2 h3 h4 h5 h6 => ?_)
  subst hR
  have fr2 : ∀ k, k < _g → H2 k = _ := fun k hk => h3 k (by omega) (by omega)
  exact AK (r := .fn _ [] [.ptr ga 0, .ptr gc 0, .ptr _g 0]) (by simp [Bt, CF, FE, h1]) (by omega) h6 (Is (g := g) (xs := Gd [a, b, c]) (z := z) (t := t) (by rw [R6]; have := RX hv; omega) h5 hO (.inr (by omega)) (by omega) (by omega) ⟨by omega, by omega, by omega⟩ ⟨by omega, by omega, by omega⟩ ⟨by omega, by omega, by omega⟩ (by rw [fr2 _ (by omega)]; exact (by simp (disch := omega) only [upd_ne, AO] <;> rfl)) (by rw [fr2 _ (by omega)]; exact (by simp (disch := omega) only [upd_ne, AO] <;> rfl)) (by rw [fr2 _ (by omega)]; exact (by simp (disch := omega) only [upd_ne, AO] <;> rfl)) (by rw [fr2 _ (by omega)]; exact (by simp (disch := omega) only [upd_ne, AO] <;> rfl)) h4 (fun k h1 h2 h3 => by rw [fr2 _ (by omega)]; simp (disch := omega) only [upd_ne]) h6)
 | some gg =>
  obtain ⟨o1, o2⟩ := hL
  obtain ⟨hgn, hne⟩ := hgn gg rfl
  repeat' (first | (simp -implicitDefEqProofs [G4, GD, GC, Fx, Fz, c72, -getElem?_pos, o1, o2, splice]) | (simp (disch := omega) only [AC]) | (with_reducible refine JK [gg] ?_) | (refine M7 (.inl rfl) (A0 _) (by simp (disch := omega) only [upd_ne]; exact o2) (by simp) (by simp; omega) (by simp [maxLen]; omega) (fun g n' h1 h2 h3 => ?_)) | (with_reducible first | refine A8 ?_ ?_ ?_ | exact AB | assumption | refine A2 ?_ | refine KM.of ?_ | refine AD ?_ | refine A3 ?_ | refine AI ?_ | refine A6 ?_ | refine AJ ?_ | refine AH ?_ | intro _g _hg | refine AE ?_ ?_ | intro _hc) | omega)
  ·simp [Ax, AV.fits, ones, AV.cells, AV.one]
  rename_i ga hga gb hgb gc hgc ge hge
  have hwh := h1
  refine SD (n := n) hv (by simp (disch := omega) only [upd_ne, AO] <;> rfl) (by simp (disch := omega) only [upd_ne, AO] <;> rfl) (by omega) (by omega) (by omega) (fun k hk => by simp (disch := omega) only [upd_ne]; exact hs k (by omega)) (fun e n2 z t H2 h1 h2 h3 h4 h5 h6 => ?_)
  subst hR
  have fr2 : ∀ k, k < _g → H2 k = _ := fun k hk => h3 k (by omega) (by omega)
  exact AK (r := .fn _ [] [.ptr ga 0, .ptr gc 0, .ptr _g 0]) (by simp [Bt, CF, FE, h1]) (by omega) h6 (Is (g := g) (xs := Gd [a, b, c]) (z := z) (t := t) (by rw [R6]; have := RX hv; omega) h5 hO (hwh.elim (fun h => .inl (by rw [h])) (fun h => .inr (by omega))) (by omega) (by omega) ⟨by omega, by omega, by omega⟩ ⟨by omega, by omega, by omega⟩ ⟨by omega, by omega, by omega⟩ (by rw [fr2 _ (by omega)]; exact (by simp (disch := omega) only [upd_ne, AO] <;> rfl)) (by rw [fr2 _ (by omega)]; exact (by rw [hcp]; simp (disch := omega) only [upd_ne, AO])) (by rw [fr2 _ (by omega)]; exact (by simp (disch := omega) only [upd_ne, AO] <;> rfl)) (by rw [fr2 _ (by omega)]; exact (by simp (disch := omega) only [upd_ne, AO] <;> rfl)) h4 (fun k h1 h2 h3 => by have : k ≠ gg := fun e => h3 (by rw [e]); rw [fr2 _ (by omega)]; simp (disch := omega) only [upd_ne]) h6)
theorem LS.more {gO n : Nat} {H H' : A7} {cs : Ad} {q : Option Nat} (h : LS gO cs H q) (hs : ∀ g, n ≤ g → H g = none) (hb : SameB n H H') : LS gO cs H' q := by
 obtain ⟨h1, h2⟩ := h.lt hs
 match q, h, h2 with
 | none, h, _ => exact ⟨h.1, (hb gO h1).trans h.2⟩
 | some gg, h, h2 => exact ⟨(hb gO h1).trans h.1, (hb gg (h2 gg rfl).1).trans h.2⟩
theorem OpenP.up {e : Bool} {gO n n1 n' : Nat} {H H1 H' : A7} {cs : Ad} {q : Option Nat} {F : Fut} {r : AV} (h : OpenP e gO cs q F n1 H1 r n' H') (hn : n ≤ n1) (hs : SameB n H H1) (hq : ∀ g, q = some g → g < n) : OpenP e gO cs q F n H r n' H' := by
 obtain ⟨h1, h2, h3, gg, h4, h5, h6, h7, O', h8, h9, h10⟩ := h
 exact ⟨h1, by omega, h3, gg, h4, h5.imp id (fun h => by omega), h6, fun g k1 k2 k3 => (h7 g (by omega) k2 k3).trans (hs g k1), O', fun g hg => ⟨by have := h8 g hg; omega, (h8 g hg).2⟩, h9, h10⟩
theorem OpenP.once {gO n n' n2 : Nat} {H H' H2 : A7} {cs : Ad} {q : Option Nat} {F : Fut} {r2 : AV} {gg : Nat} {O' : Nat → Prop} (hO : gO < n) (h2 : n ≤ n') (h4 : LS gO (cs ++ F.cur) H' (some gg)) (h5 : q = some gg ∨ n ≤ gg) (h6 : gg < n') (h7 : ∀ g, g < n → g ≠ gO → q ≠ some g → H' g = H g) (h8 : ∀ g, O' g → n ≤ g ∧ g < n') (h9 : ¬ O' gg) (k : NewS true gO cs.length F O' n' H' r2 n2 H2) : OpenP true gO cs q F n H r2 n2 H2 := by
 obtain ⟨k1, k2, k3, k4, O2, k5, k6, k7⟩ := k
 refine ⟨k1, by omega, k4, gg, ⟨(k3 gO (by omega)).trans h4.1, (k3 gg h6).trans h4.2⟩, h5, by omega, fun g a1 a2 a3 => (k3 g (by omega)).trans (h7 g a1 a2 a3), O2, fun g hg => ⟨?_, k6 g hg⟩, fun hg => (k5 gg hg).elim h9 (fun h => by omega), k7⟩
 exact (k5 g hg).elim (fun h => (h8 g h).1) (fun h => by omega)
theorem NewS.tr {gO lo n n1 n2 : Nat} {H H1 H2 : A7} {F : Fut} {O O1 : Nat → Prop} {r : AV} (hn : n ≤ n1) (hs : SameB n H H1) (h5 : ∀ g, O1 g → O g ∨ n ≤ g) (k : NewS true gO lo F O1 n1 H1 r n2 H2) : NewS true gO lo F O n H r n2 H2 := by
 obtain ⟨k1, k2, k3, k4, O2, k5, k6, k7⟩ := k
 exact ⟨k1, by omega, fun g hg => (k3 g (by omega)).trans (hs g hg), k4, O2, fun g hg => (k5 g hg).elim (h5 g) (fun h => .inr (by omega)), k6, k7⟩
theorem Ud (s : St) : (AQ s).cur.length ≤ Ah s := by
 refine St.ind (Q := fun s => (AQ s).cur.length ≤ Ah s) ?_ s
 intro k o n v p ih
 rw [AQ, GP, Ah]
 have hsum : ((p.map AQ).map fun F => F.cur.length).sum ≤ BL p := by
  induction p with
  | nil => simp [BL]
  | cons x r ihr =>
   have h1 := ih x List.mem_cons_self
   have h2 := ihr fun y hy => ih y (List.mem_cons_of_mem _ hy)
   simp only [List.map_cons, List.sum_cons, BL]; omega
 have hcha : ∀ Fs : List Fut, (De Fs).cur.length = (Fs.map fun F => F.cur.length).sum := by
  intro Fs
  induction Fs with
  | nil => rfl
  | cons F r ih => simp [De, ih]
 generalize p.map AQ = Fs at *
 unfold DE
 split
 ·simp [I7]
 ·split
  ·simp [I7]
  ·split
   ·rw [hcha]; omega
   ·split
    ·have e : (JA Fs).cur.length = (Fs.map fun F => F.cur.length).sum := by simp [JA, List.length_flatten, Function.comp_def]
     rw [e]; omega
    ·split
     ·rename_i F
      have e : (Bq k o n F).cur = F.cur := by
       unfold Bq; (repeat' split) <;> first | rfl | (unfold S8; split <;> rfl)
      rw [e]
      simp only [List.map_cons, List.map_nil, List.sum_cons, List.sum_nil] at hsum
      omega
     ·rename_i F G
      simp only [List.map_cons, List.map_nil, List.sum_cons, List.sum_nil] at hsum
      split <;> simp <;> omega
     ·simp
theorem V1 {gO n : Nat} {H : A7} {cs : Ad} {q : Option Nat} {k o m : Int} {v : List Int} (hk : k = 1 ∨ k = 2) (hn : NodeOk k o m v []) (hv : v.length ≤ 140737488355328) (hcs : cs.length ≤ 100) (hL : LS gO cs H q) : ACalls Tryz.prog 43 [.ptr gO 0, encS (.mk k o m v [])] n H (OpenP true gO cs q (AQ (.mk k o m v [])) n H) := by
 generalize hR : OpenP _ _ _ _ _ _ _ = R
 have main : ∀ n1 H1, LS gO cs H1 q → ACalls Tryz.prog 72 [.ptr gO 0, encS (.mk k o m v [])] n1 H1 (OpenP false gO cs q (AQ (.mk k o m v [])) n1 H1) := by
  intro n1 H1 h1
  rcases hk with rfl | rfl
  ·have e : AQ (.mk 1 o m v []) = I7 v := by simp [AQ, DE]
   rw [e]
   exact Uy hv hcs h1
  ·obtain ⟨a, b, c, rfl, h2⟩ := K2 (hn.rng rfl) hn.vals
   have e : AQ (.mk 2 o m [a, b, c] []) = I7 (Gd [a, b, c]) := by simp [AQ, DE]
   rw [e]
   exact W9 (by omega) hcs h1
 rw [AN] at main ⊢
 rw [show Ac [] = [] by simp [Ac]] at main ⊢
 generalize AQ (.mk k o m v []) = F at *
 refine AF Tryz.func43 Z5 rfl fun hs => ?_
 obtain ⟨hO, hgn⟩ := hL.lt hs
 repeat' (first | (simp -implicitDefEqProofs [BE, BI, BC, BF, BD, Qb, Q1, N4, NE, c43, -getElem?_pos, splice]) | (simp (disch := omega) only [AC]) | ((with_reducible refine Ae 72 ?_); refine ⟨_, main _ _ (hL.more hs (fun k hk => by simp (disch := omega) only [upd_ne])), ?_⟩; rintro r n' H' hle hsup ⟨h1, h2, h3, gg, h4, h5, h6, h7, O', h8, h9, h10⟩) | ((with_reducible refine Ae 71 ?_); refine ⟨_, WX h10 h1 (fun g hg => (h8 g hg).2) (fun h => by have := (h8 gO h).1; dsimp only at this hle; omega) (by dsimp only at hle ⊢; omega), ?_⟩; rintro r2 n2 H2 hle2 hsup2 hpost) | (with_reducible first | refine A8 ?_ ?_ ?_ | exact AB | assumption | refine A2 ?_ | refine KM.of ?_ | refine AD ?_ | refine A3 ?_ | refine AI ?_ | refine A6 ?_ | refine AJ ?_ | refine AH ?_ | intro _g _hg | refine AE ?_ ?_ | intro _hc) | omega)
 subst hR
 dsimp only at h2 h5 h7 h8 hle hle2 hpost
 exact AK rfl (by omega) hsup2 ((OpenP.once (n := _g + 1) (by omega) h2 h4 h5 h6 h7 h8 h9 hpost).up (by omega) (fun k hk => by simp (disch := omega) only [upd_ne]) (fun g hg => (hgn g hg).1))
def TokOkS (t : Tok) (k : Nat) (H : A7) (n : Nat) : Prop := match t with
 | .own g => H g = some (.row 76 k) ∧ g < n
 | .nil => k = 0
 | .ro => False
theorem Xj {t t2 : Tok} {xs : List AV} {x : AV} {z : Nat} {d : Option Nat} {K : AS → Prop} {en : AY} {n : Nat} {H : A7} (h : TokOkS t xs.length H n) (hz : t ≠ .nil → z = 1) (hl : xs.length ≤ 1000000) (hs : ∀ g, n ≤ g → H g = none)
  (hk : ∀ g' n' H', (Bh t g' ∨ n ≤ g') → n ≤ n' → g' < n' → (∀ k, k < n → ¬ Bh t k → H' k = H k) → H' g' = some (.row 76 (xs.length + 1)) → (∀ k, n' ≤ k → H' k = none) → (∀ k, Bh t k → k ≠ g' → H' k = none) → K ⟨AR en d (.sl 1 (xs ++ [x]) (.own g')), n', H'⟩) :
  appKS 76 1 8 d K ⟨en, n, H⟩ (.sl z xs t) (.sl 1 [x] t2) := by
 match t, h with
 | .nil, h =>
  have h0 : xs = [] := List.length_eq_zero_iff.1 h
  subst h0
  refine Oc (by simp) (by simp) (by simp [maxLen]) fun g hg => ?_
  exact hk g (g + 1) _ (.inr hg) (by omega) (by omega) (fun k h1 _ => by rw [upd_ne (by omega)]) (AO _ _ _) (fun k h1 => by rw [upd_ne (by omega)]; exact hs k (by omega)) (fun k h1 => h1.elim)
 | .own g0, h =>
  obtain ⟨h1, h2⟩ := h
  have hz := hz (by simp)
  subst hz
  refine Gg h1 (by simp; omega) (by simp [maxLen]; omega) fun g n' h3 h4 h5 => ?_
  refine hk g n' _ (h3.elim (fun h => .inl h) .inr) h4 h5 (fun k k1 k2 => ?_) (AO _ _ _) (fun k k1 => ?_) (fun k k1 k2 => ?_)
  ·have : k ≠ g0 := k2
   rw [upd_ne (by rcases h3 with h3 | h3 <;> omega), upd_ne this]
  ·rw [upd_ne (by omega), upd_ne (by omega)]; exact hs k (by omega)
  ·have e : k = g0 := k1
   subst e
   rw [upd_ne k2, AO]
theorem TokOkS.at_ {t : Tok} {k n n1 : Nat} {H H1 : A7} (h : TokOkS t k H n) (hH : ∀ g, Bh t g → H1 g = H g) (hn : n ≤ n1) : TokOkS t k H1 n1 := by
 match t, h with
 | .nil, h => exact h
 | .own g, h => exact ⟨(hH g rfl).trans h.1, by have := h.2; omega⟩
theorem TokOkS.lt {t : Tok} {k n : Nat} {H : A7} (h : TokOkS t k H n) : ∀ g, Bh t g → g < n := by
 match t, h with
 | .nil, h => exact fun g hg => hg.elim
 | .own k, h => intro g hg; have e : g = k := hg; subst e; exact h.2
structure Opnd (gO : Nat) (cs : Ad) (q : Option Nat) (n : Nat) (H : A7) (ps : List Pt) (q1 : Option Nat) (n1 : Nat) (H1 : A7) : Prop where
 ls : LS gO (cs ++ AP ps) H1 q1
 qn : ∀ g, q1 = some g → (q = some g ∨ n ≤ g) ∧ ¬ OU ps g
 sm : ps = [] ∨ ∃ g, q1 = some g
 pts : Pts gO cs.length ps H1 n1
 nw : ∀ g, OU ps g → n ≤ g
 all : K3 ps
 fr : ∀ g, g < n → g ≠ gO → q ≠ some g → H1 g = H g
 sup : ∀ k, n1 ≤ k → H1 k = none
 le : n ≤ n1
 lO : gO < n
theorem Pts.snoc : ∀ {ps : List Pt} {p : Pt} {gO lo n : Nat} {H : A7}, Pts gO lo ps H n → PtOk gO (lo + (AP ps).length) p H n → (∀ g, p.O g → g < n) → (∀ g, OU ps g → ¬ p.O g) → Pts gO lo (ps ++ [p]) H n
 | [], p, gO, lo, n, H, _, h1, h2, _ => ⟨by simpa [AP] using h1, h2, fun g _ h => h.elim, trivial⟩
 | x :: ps, p, gO, lo, n, H, h, h1, h2, h3 => by
  refine ⟨h.1, h.2.1, fun g hg hu => ?_, h.2.2.2.snoc (by simpa [AP, Nat.add_assoc] using h1) h2 fun g hg => h3 g (.inr hg)⟩
  rcases (FL ps [p] g).1 hu with h4 | h4 | h4
  ·exact h.2.2.1 g hg h4
  ·exact h3 g (.inl hg) h4
  ·exact h4
theorem Opnd.step {gO n n1 n2 : Nat} {cs : Ad} {q q1 : Option Nat} {H H1 H2 : A7} {ps : List Pt} {F : Fut} {r : AV} (h : Opnd gO cs q n H ps q1 n1 H1) (k : OpenP true gO (cs ++ AP ps) q1 F n1 H1 r n2 H2) (hm : Jj F) : ∃ (O' : Nat → Prop) (gg : Nat), Opnd gO cs q n H (ps ++ [⟨r, some F.l, F.cur, F.fin, O'⟩]) (some gg) n2 H2 ∧ (∀ g, O' g → n1 ≤ g) ∧ (∀ g, g < n1 → g ≠ gO → q1 ≠ some g → H2 g = H1 g) := by
 obtain ⟨k1, k2, k3, gg, k4, k5, k6, k7, O', k8, k9, k10⟩ := k
 have hou : ∀ g, OU (ps ++ [⟨r, some F.l, F.cur, F.fin, O'⟩]) g ↔ OU ps g ∨ O' g := fun g => by rw [FL]; simp [OU]
 have hb := h.pts.bel
 have hle := h.le
 have hlO := h.lO
 refine ⟨O', gg, ⟨?_, ?_, .inr ⟨gg, rfl⟩, ?_, ?_, ?_, ?_, k3, by omega, hlO⟩, fun g hg => (k8 g hg).1, k7⟩
 ·rw [Fc]; simpa [AP, List.append_assoc] using k4
 ·intro g hg
  injection hg with hg
  subst hg
  refine ⟨?_, fun hu => ?_⟩
  ·rcases k5 with k5 | k5
   ·exact (h.qn gg k5).1
   ·exact .inr (by omega)
  ·rcases (hou gg).1 hu with hu | hu
   ·rcases k5 with k5 | k5
    ·exact (h.qn gg k5).2 hu
    ·have := hb gg hu; omega
   ·exact k9 hu
 ·refine Pts.snoc (h.pts.at_ (fun g hg => k7 g (hb g hg) (fun e => by have := h.nw g hg; omega) (fun e => (h.qn g e).2 hg)) k2) ?_ (fun g hg => (k8 g hg).2) (fun g hg hO => by have := hb g hg; have := k8 g hO; omega)
  exact ⟨by simpa [List.length_append] using k10, hm.1⟩
 ·intro g hg
  rcases (hou g).1 hg with hg | hg
  ·exact h.nw g hg
  ·have := k8 g hg; omega
 ·intro p hp
  rcases List.mem_append.1 hp with hp | hp
  ·exact h.all p hp
  ·simp at hp; subst hp; exact ⟨⟨_, rfl⟩, k1⟩
 ·intro g a1 a2 a3
  rw [k7 g (by omega) a2 (fun e => (h.qn g e).1.elim a3 (fun h => by omega))]
  exact h.fr g a1 a2 a3
theorem Opnd.more {gO n n1 n2 : Nat} {cs : Ad} {q q1 : Option Nat} {H H1 H2 : A7} {ps : List Pt} {t : Tok} (h : Opnd gO cs q n H ps q1 n1 H1) (ht : ∀ g, Bh t g → n ≤ g ∧ ¬ OU ps g ∧ q1 ≠ some g) (hn : n1 ≤ n2) (hH : ∀ k, k < n1 → ¬ Bh t k → H2 k = H1 k) (hs : ∀ k, n2 ≤ k → H2 k = none) : Opnd gO cs q n H ps q1 n2 H2 := by
 have hle := h.le
 have hlO := h.lO
 refine ⟨?_, h.qn, h.sm, h.pts.at_ (fun g hg => hH g (h.pts.bel g hg) fun k => (ht g k).2.1 hg) hn, h.nw, h.all, fun g a1 a2 a3 => ?_, hs, by omega, hlO⟩
 ·have hlt := h.ls.lt h.sup
  have hgO : H2 gO = H1 gO := hH gO hlt.1 fun k => by have := (ht gO k).1; omega
  have h1 := h.ls
  match q1, h1, hlt, ht with
  | none, h1, _, _ => exact ⟨h1.1, hgO.trans h1.2⟩
  | some gg, h1, hlt, ht => exact ⟨hgO.trans h1.1, (hH gg (hlt.2 gg rfl).1 fun k => (ht gg k).2.2 rfl).trans h1.2⟩
 ·rw [hH g (by omega) fun k => by have := (ht g k).1; omega]
  exact h.fr g a1 a2 a3
theorem Opnd.fin_ {gO n n1 n2 : Nat} {cs : Ad} {q q1 : Option Nat} {H H1 H2 : A7} {ps : List Pt} {F : Fut} {r : AV} (h : Opnd gO cs q n H ps q1 n1 H1) (hp : ps ≠ []) (hc : F.cur = AP ps) (k : NewS true gO cs.length F (OU ps) n1 H1 r n2 H2) : OpenP true gO cs q F n H r n2 H2 := by
 obtain ⟨gg, hg⟩ := h.sm.resolve_left hp
 subst hg
 have hlt := h.ls.lt h.sup
 obtain ⟨k1, k2, k3, k4, O2, k5, k6, k7⟩ := k
 have h1 := h.le
 have hgl := (hlt.2 gg rfl).1
 refine ⟨k1, by omega, k4, gg, ?_, (h.qn gg rfl).1, by omega, fun g a1 a2 a3 => (k3 g (by omega)).trans (h.fr g a1 a2 a3), O2, fun g hg => ⟨(k5 g hg).elim (h.nw g) (fun h => by omega), k6 g hg⟩, fun hg => (k5 gg hg).elim (h.qn gg rfl).2 (fun h => by omega), k7⟩
 rw [hc]
 exact ⟨(k3 gO hlt.1).trans h.ls.1, (k3 gg hgl).trans h.ls.2⟩
theorem TokOkS.neq {t : Tok} {k n g gO : Nat} {H : A7} {cs : Ad} {q : Option Nat} (h : TokOkS t k H n) (hg : Bh t g) (hL : LS gO cs H q) : q ≠ some g := by
 intro e
 subst e
 have h2 := hL.2
 match t, h, hg with
 | .own j, h, hg =>
  have e2 : g = j := hg
  subst e2
  rw [h.1] at h2
  cases h2
theorem Jq : ∀ a b : List St, BL (a ++ b) = BL a + BL b
 | [], b => by simp [BL]
 | y :: a, b => by have := Jq a b; simp [BL, this]; omega
abbrev SW (s : St) : Prop := ∀ (gO n : Nat) (H : A7) (cs : Ad) (q : Option Nat), cs.length + Ah s ≤ 100 → LS gO cs H q → ACalls Tryz.prog 43 [.ptr gO 0, encS s] n H (OpenP true gO cs q (AQ s) n H)
theorem Td {gO n gs : Nat} {H : A7} {cs : Ad} {q : Option Nat} {k o m : Int} {v : List Int} {p : List St} {R : Bm} (hp0 : p ≠ []) (hp60 : p.length ≤ 60) (hsz : cs.length + BL p ≤ 99) (hx : ∀ x ∈ p, SW x) (hL : LS gO cs H q) (hs : ∀ g, n ≤ g → H g = none) (hgs : gs < n) (hgO : gO ≠ gs) (hq : q ≠ some gs) (qs : H gs = some (Ab k o m (.sl 1 (v.map aI) .ro) (.sl 5 (Ac p) .ro))) (nR : Nat)
  (hk : ∀ (ps : List Pt) (q1 : Option Nat) (n1 : Nat) (H1 : A7) (g5 : Nat), Opnd gO cs q n H ps q1 n1 H1 → ps.map Pt.fut = p.map AQ → H1 gs = some (Ab k o m (.sl 1 (v.map aI) .ro) (.sl 5 (Ac p) .ro)) → aw Tryz.prog c43_k5 (fin R nR [.tmp 4]) ⟨[(3, .ptr gs 0), (5, .sl 1 (ps.map Pt.x) (.own g5))], n1, H1⟩) :
  LoopK (fun Q s => aw Tryz.prog c43_L8 Q s) (DZ 0 (Dq (aw Tryz.prog c43_k5 (fin R nR [.tmp 4])) (fin R nR [.tmp 4]))) ⟨[(0, .ptr gO 0), (3, .ptr gs 0), (5, .sl 0 [] .nil), (17, .sl 5 (Ac p) .ro), (18, aI p.length), (19, aI 0)], n, H⟩ := by
 have hpl := BM p
 refine LoopK.go (fun r st => ∃ (j : Nat) (ps : List Pt) (q1 : Option Nat) (n1 z : Nat) (t : Tok) (H1 : A7), j + r = p.length ∧ st = ⟨[(0, .ptr gO 0), (3, .ptr gs 0), (5, .sl z (ps.map Pt.x) t), (17, .sl 5 (Ac p) .ro), (18, aI p.length), (19, aI j)], n1, H1⟩ ∧ Opnd gO cs q n H ps q1 n1 H1 ∧ ps.map Pt.fut = (p.take j).map AQ ∧ (AP ps).length ≤ BL (p.take j) ∧ (t ≠ .nil → z = 1) ∧ TokOkS t ps.length H1 n1 ∧ (∀ g, Bh t g → n ≤ g ∧ ¬ OU ps g)) p.length ?_ ?_
 ·refine ⟨0, [], q, n, 0, .nil, H, by omega, rfl, ⟨by simpa [AP] using hL, fun g hg => ⟨.inl hg, fun h => h⟩, .inl rfl, trivial, fun g hg => hg.elim, (fun p hp => by cases hp), fun _ _ _ _ => rfl, hs, Nat.le_refl _, (hL.lt hs).1⟩, rfl, by simp [AP], fun h => absurd rfl h, rfl, fun g hg => hg.elim⟩
 rintro r0 st ⟨j, ps, q1, n1, z, t, H1, hj, rfl, hO, hF, hcl, hz, hT, hTn⟩ J hJ
 have hle := hO.le
 have q3 : H1 gs = _ := (hO.fr gs hgs (Ne.symm hgO) hq).trans qs
 by_cases hjl : j < p.length
 ·obtain ⟨x, hxj⟩ : ∃ x, p[j]? = some x := ⟨_, List.getElem?_eq_getElem hjl⟩
  have hjl' : (j : Int) < p.length := by omega
  have hxe := Fa hxj
  have hxf := BG x
  have hop := hx x (List.mem_of_getElem? hxj)
  have htk : p.take (j + 1) = p.take j ++ [x] := by rw [List.take_succ, hxj]; rfl
  have hsizt : BL (p.take j) + Ah x ≤ BL p := by
   have h2 := Jq (p.take (j + 1)) (p.drop (j + 1))
   rw [List.take_append_drop, htk, Jq] at h2
   simp only [BL] at h2
   omega
  have hmon := Qm x
  have hcx := Ud x
  have hlen : ps.length = j := by have := congrArg List.length hF; simp at this; omega
  have hml : (ps.map Pt.x).length = ps.length := by simp
  obtain ⟨k', o', m', v', p'⟩ := x
  rw [AN] at hxe hxf
  have hop2 : ∀ (n : Nat) (H : A7), LS gO (cs ++ AP ps) H q1 → ACalls Tryz.prog 43 [.ptr gO 0, .agg [aI k', aI o', aI m', .sl 1 (v'.map aI) .ro, .sl 5 (Ac p') .ro]] n H (OpenP true gO (cs ++ AP ps) q1 (AQ (.mk k' o' m' v' p')) n H) := fun n H h => by
   have := hop gO n H (cs ++ AP ps) q1 (by rw [List.length_append]; omega) h
   rwa [AN] at this
  generalize hFe : AQ (.mk k' o' m' v' p') = F at *
  generalize Ac p = ep at *
  generalize Ac p' = ep' at *
  generalize v'.map aI = ev' at *
  
  repeat' (first | (simp -implicitDefEqProofs [BE, BI, BC, BF, BD, Qb, Q1, N4, NE, c43, -getElem?_pos, q3, hjl', hxe, splice]) | (simp (disch := omega) only [AC]) | ((with_reducible refine Ae 43 ?_); refine ⟨_, hop2 _ _ (hO.ls.more hO.sup (fun k hk => by simp (disch := omega) only [upd_ne])), ?_⟩; rintro r n2 H2 hle2 hsup2 hpost; dsimp only at hle2 hpost; have hpo := hpost.up (n := n1) (H := H1) (by omega) (fun k hk => by simp (disch := omega) only [upd_ne]) (fun g hg => ((hO.ls.lt hO.sup).2 g hg).1); obtain ⟨O', gg, hO2, hOn, hfr2⟩ := hO.step hpo hmon; have hT2 : TokOkS t ps.length H2 n2 := hT.at_ (fun g hg => hfr2 g (hT.lt g hg) (fun e => by have := (hTn g hg).1; have := hO.lO; omega) (hT.neq hg hO.ls)) (by omega)) | (refine Xj (by rw [hml]; exact hT2.at_ (fun k hk => by have := hT2.lt k hk; rw [upd_ne (by omega)]) (by omega)) hz (by rw [hml]; omega) (fun k hk => by rw [upd_ne (by omega)]; exact hsup2 k (by omega)) (fun g' n3 H3 k1 k2 k3 k4 k5 k6 k7 => ?_)) | (with_reducible first | refine A8 ?_ ?_ ?_ | exact AB | assumption | refine A2 ?_ | refine KM.of ?_ | refine AD ?_ | refine A3 ?_ | refine AI ?_ | refine A6 ?_ | refine AJ ?_ | refine AH ?_ | intro _g _hg | refine AE ?_ ?_ | intro _hc) | omega)
  ·obtain ⟨f1, f2, f3, rfl⟩ := hpo.1
   simp [Ax, AV.fits, ones, AV.cells, AV.one]
  have hou : ∀ g, OU (ps ++ [⟨r, some F.l, F.cur, F.fin, O'⟩]) g ↔ OU ps g ∨ O' g := fun g => by rw [FL]; simp [OU]
  have htk2 : ∀ g, Bh t g → n ≤ g ∧ ¬ OU (ps ++ [⟨r, some F.l, F.cur, F.fin, O'⟩]) g ∧ some gg ≠ some g := fun g hg =>
   ⟨(hTn g hg).1, fun h => ((hou g).1 h).elim (hTn g hg).2 (fun h => by have := hOn g h; have := hT.lt g hg; omega), hT2.neq hg hO2.ls⟩
  have hO3 := hO2.more (n2 := n3) (H2 := H3) htk2 (by omega) (fun k h1 h2 => (k4 k (by omega) h2).trans (upd_ne (by omega))) k6
  refine hJ (r0 - 1) _ (by omega) ⟨j + 1, ps ++ [⟨r, some F.l, F.cur, F.fin, O'⟩], some gg, n3, 1, .own g', H3, by omega, by simp, hO3, ?_, ?_, fun _ => rfl, ⟨by rw [k5]; simp, k3⟩, ?_⟩
  ·rw [htk, List.map_append, List.map_append, hF, List.map_singleton, List.map_singleton, hFe]; rfl
  ·rw [htk, Jq, Fc, List.length_append]; simp only [AP, List.append_nil, BL]; omega
  ·intro g hg
   have e : g = g' := hg
   subst e
   rcases k1 with k1 | k1
   ·exact ⟨(htk2 g k1).1, (htk2 g k1).2.1⟩
   ·exact ⟨by omega, fun h => by have := hO2.pts.bel g h; omega⟩
 ·have hjl' : ¬ (j : Int) < p.length := by omega
  have hlen : ps.length = j := by have := congrArg List.length hF; simp at this; omega
  have htk : p.take j = p := List.take_of_length_le (by omega)
  rw [htk] at hF
  have hpos : 0 < p.length := List.length_pos_iff.2 hp0
  match t, hT, hz with
  | .nil, hT, _ => exact absurd hT (by show ¬ ps.length = 0; omega)
  | .ro, hT, _ => exact hT.elim
  | .own g5, hT, hz =>
   have hz := hz (by simp)
   subst hz
   have hk2 := hk ps q1 n1 H1 g5 hO hF q3
   
   simp -implicitDefEqProofs [N4, -getElem?_pos, hjl']
   exact hk2
theorem Opnd.nO {gO n n1 : Nat} {cs : Ad} {q q1 : Option Nat} {H H1 : A7} {ps : List Pt} (h : Opnd gO cs q n H ps q1 n1 H1) : ¬ OU ps gO := fun hu => by have := h.nw gO hu; have := h.lO; omega
theorem Tj {l : List AV} {g : Nat} : A5 [.sl 1 l (.own g)] [.sl 1 l .ro] := ⟨_, _, rfl, ⟨1, l, .ro, rfl, .inl rfl, .inl rfl, A0 l⟩, rfl⟩
theorem ACalls.imp {f : Nat} {args : List AV} {n : Nat} {H : A7} {R R' : Bm} (h : ACalls Tryz.prog f args n H R) (k : ∀ r n' H', n ≤ n' → R r n' H' → R' r n' H') : ACalls Tryz.prog f args n H R' :=
 fun hs w0 G w vs hl hr hv => (h hs w0 G w vs hl hr hv).mono fun e w' ⟨v, r, G', n', H', e1, e2, e3, e4, e5, e6⟩ => ⟨v, r, G', n', H', e1, k r n' H' e5 e2, e3, e4, e5, e6⟩
theorem Dp {gO lo n1 n2 : Nat} {F : Fut} {O : Nat → Prop} {H1 H2 : A7} {r : AV} (hN : NewS false gO lo F O n1 H1 r n2 H2) (h1 : ¬ O gO) (h2 : gO < n1) : ACalls Tryz.prog 71 [r] n2 H2 (NewS true gO lo F O n1 H1) := by
 obtain ⟨m1, m2, m3, m4, O2, m5, m6, m7⟩ := hN
 exact (WX m7 m1 m6 (fun h => (m5 gO h).elim h1 (fun h => by omega)) (by omega)).imp fun r2 n3 H3 h3 hp => NewS.tr m2 m3 m5 hp
section
variable {gO n n1 gs g5 : Nat} {cs : Ad} {q q1 : Option Nat} {H H1 : A7} {ps : List Pt} {k o m : Int} {v : List Int} {p : List St}
theorem XF (h60 : ps.length ≤ 60) (hO : Opnd gO cs q n H ps q1 n1 H1) (hps : ps ≠ []) (q3 : H1 gs = some (Ab 13 o m (.sl 1 (v.map aI) .ro) (.sl 5 (Ac p) .ro))) : aw Tryz.prog c43_k5 (fin (OpenP true gO cs q (De (ps.map Pt.fut)) n H) n [.tmp 4]) ⟨[(3, .ptr gs 0), (5, .sl 1 (ps.map Pt.x) (.own g5))], n1, H1⟩ := by
 generalize hR : OpenP _ _ _ _ _ _ _ = R
 have hlO : gO < n1 := by have := hO.lO; have := hO.le; omega
 have hcc := Oa ps
 
 repeat' (first | (simp -implicitDefEqProofs [BD, BF, BC, BI, BE, -getElem?_pos, q3,  splice]) | (simp (disch := omega) only [AC]) | ((with_reducible refine Ae 73 ?_); refine ⟨_, (Y5 hO.pts hO.all hO.nO hlO h60).sim Tj, ?_⟩; rintro r n2 H2 hle2 hsup2 hpost) | ((with_reducible refine Ae 71 ?_); refine ⟨_, Dp hpost hO.nO hlO, ?_⟩; rintro r2 n3 H3 hle3 hsup3 hp2) | (with_reducible first | refine A8 ?_ ?_ ?_ | exact AB | assumption | refine A2 ?_ | refine KM.of ?_ | refine AD ?_ | refine A3 ?_ | refine AI ?_ | refine A6 ?_ | refine AJ ?_ | refine AH ?_ | intro _g _hg | refine AE ?_ ?_ | intro _hc) | omega)
 subst hR
 have hle := hO.le
 have ho := hO.fin_ hps (by first | rfl | assumption) hp2
 exact AK rfl ho.2.1 hsup3 ho
theorem WW (h60 : ps.length ≤ 60) (hO : Opnd gO cs q n H ps q1 n1 H1) (hps : ps ≠ []) (q3 : H1 gs = some (Ab 14 o m (.sl 1 (v.map aI) .ro) (.sl 5 (Ac p) .ro))) : aw Tryz.prog c43_k5 (fin (OpenP true gO cs q (JA (ps.map Pt.fut)) n H) n [.tmp 4]) ⟨[(3, .ptr gs 0), (5, .sl 1 (ps.map Pt.x) (.own g5))], n1, H1⟩ := by
 generalize hR : OpenP _ _ _ _ _ _ _ = R
 have hlO : gO < n1 := by have := hO.lO; have := hO.le; omega
 have hcc : (JA (ps.map Pt.fut)).cur = AP ps := by simp [JA, Hc, Pt.fut, Function.comp_def]
 
 repeat' (first | (simp -implicitDefEqProofs [BD, BF, BC, BI, BE, -getElem?_pos, q3,  splice]) | (simp (disch := omega) only [AC]) | ((with_reducible refine Ae 74 ?_); refine ⟨_, (Xv hO.pts hO.all hO.nO hlO h60).sim Tj, ?_⟩; rintro r n2 H2 hle2 hsup2 hpost) | ((with_reducible refine Ae 71 ?_); refine ⟨_, Dp hpost hO.nO hlO, ?_⟩; rintro r2 n3 H3 hle3 hsup3 hp2) | (with_reducible first | refine A8 ?_ ?_ ?_ | exact AB | assumption | refine A2 ?_ | refine KM.of ?_ | refine AD ?_ | refine A3 ?_ | refine AI ?_ | refine A6 ?_ | refine AJ ?_ | refine AH ?_ | intro _g _hg | refine AE ?_ ?_ | intro _hc) | omega)
 subst hR
 have hle := hO.le
 have ho := hO.fin_ hps (by first | rfl | assumption) hp2
 exact AK rfl ho.2.1 hsup3 ho
theorem Wy {f0 f1 : Nat} {a0 w0 a1 w1 : List AV} {la lb : Aw} {ca cb fa fb : Ad} {O1 O2 : Nat → Prop} (hop : 1 ≤ o ∧ o ≤ 5) (hra : rgE la) (hrb : rgE lb) (hO : Opnd gO cs q n H [⟨.fn f0 a0 w0, some la, ca, fa, O1⟩, ⟨.fn f1 a1 w1, some lb, cb, fb, O2⟩] q1 n1 H1)  (q3 : H1 gs = some (Ab 15 o m (.sl 1 (v.map aI) .ro) (.sl 5 (Ac p) .ro))) : aw Tryz.prog c43_k5 (fin (OpenP true gO cs q ⟨ca ++ cb, (HW (Dn o) fa fb la cb lb).1, (HW (Dn o) fa fb la cb lb).2⟩ n H) n [.tmp 4]) ⟨[(3, .ptr gs 0), (5, .sl 1 [.fn f0 a0 w0, .fn f1 a1 w1] (.own g5))], n1, H1⟩ := by
 generalize hR : OpenP _ _ _ _ _ _ _ = R
 have hlO : gO < n1 := by have := hO.lO; have := hO.le; omega
 
 repeat' (first | (simp -implicitDefEqProofs [BD, BF, BC, BI, BE, -getElem?_pos, q3,  splice]) | (simp (disch := omega) only [AC]) | ((with_reducible refine Ae 75 ?_); refine ⟨_, A17 hop hO.pts ⟨_, _, _, rfl⟩ ⟨_, _, _, rfl⟩ hra hrb hO.nO hlO, ?_⟩; rintro r n2 H2 hle2 hsup2 hpost) | ((with_reducible refine Ae 71 ?_); refine ⟨_, Dp hpost hO.nO hlO, ?_⟩; rintro r2 n3 H3 hle3 hsup3 hp2) | (with_reducible first | refine A8 ?_ ?_ ?_ | exact AB | assumption | refine A2 ?_ | refine KM.of ?_ | refine AD ?_ | refine A3 ?_ | refine AI ?_ | refine A6 ?_ | refine AJ ?_ | refine AH ?_ | intro _g _hg | refine AE ?_ ?_ | intro _hc) | omega)
 subst hR
 have hle := hO.le
 have ho := hO.fin_ (by simp) (by simp [AP]) hp2
 exact AK rfl ho.2.1 hsup3 ho
theorem Wj {f0 f1 : Nat} {a0 w0 a1 w1 : List AV} {la lb : Aw} {ca cb fa fb : Ad} {O1 O2 : Nat → Prop}  (hO : Opnd gO cs q n H [⟨.fn f0 a0 w0, some la, ca, fa, O1⟩, ⟨.fn f1 a1 w1, some lb, cb, fb, O2⟩] q1 n1 H1)  (q3 : H1 gs = some (Ab 16 o m (.sl 1 (v.map aI) .ro) (.sl 5 (Ac p) .ro))) : aw Tryz.prog c43_k5 (fin (OpenP true gO cs q ⟨ca ++ cb, CG fa fb la lb, fa ++ fb⟩ n H) n [.tmp 4]) ⟨[(3, .ptr gs 0), (5, .sl 1 [.fn f0 a0 w0, .fn f1 a1 w1] (.own g5))], n1, H1⟩ := by
 generalize hR : OpenP _ _ _ _ _ _ _ = R
 have hlO : gO < n1 := by have := hO.lO; have := hO.le; omega
 
 repeat' (first | (simp -implicitDefEqProofs [BD, BF, BC, BI, BE, -getElem?_pos, q3,  splice]) | (simp (disch := omega) only [AC]) | ((with_reducible refine Ae 76 ?_); refine ⟨_, (Y6 hO.pts ⟨_, _, _, rfl⟩ ⟨_, _, _, rfl⟩ hO.nO hlO).sim Tj, ?_⟩; rintro r n2 H2 hle2 hsup2 hpost) | ((with_reducible refine Ae 71 ?_); refine ⟨_, Dp hpost hO.nO hlO, ?_⟩; rintro r2 n3 H3 hle3 hsup3 hp2) | (with_reducible first | refine A8 ?_ ?_ ?_ | exact AB | assumption | refine A2 ?_ | refine KM.of ?_ | refine AD ?_ | refine A3 ?_ | refine AI ?_ | refine A6 ?_ | refine AJ ?_ | refine AH ?_ | intro _g _hg | refine AE ?_ ?_ | intro _hc) | omega)
 subst hR
 have hle := hO.le
 have ho := hO.fin_ (by simp) (by simp [AP]) hp2
 exact AK rfl ho.2.1 hsup3 ho
theorem Yl {f0 : Nat} {a0 w0 : List AV} {l : Aw} {cur fe : Ad} {O1 : Nat → Prop} (hop : 1 ≤ o ∧ o ≤ 6) (hm : B0 m) (h6 : o = 6 → 1 ≤ m) (hrg : rgE l) (hO : Opnd gO cs q n H [⟨.fn f0 a0 w0, some l, cur, fe, O1⟩] q1 n1 H1)  (q3 : H1 gs = some (Ab 3 o m (.sl 1 (v.map aI) .ro) (.sl 5 (Ac p) .ro))) : aw Tryz.prog c43_k5 (fin (OpenP true gO cs q ⟨cur, l.map fun e => (Dn o e.1 m, e.2), fe⟩ n H) n [.tmp 4]) ⟨[(3, .ptr gs 0), (5, .sl 1 [.fn f0 a0 w0] (.own g5))], n1, H1⟩ := by
 generalize hR : OpenP _ _ _ _ _ _ _ = R
 have hlO : gO < n1 := by have := hO.lO; have := hO.le; omega
 
 repeat' (first | (simp -implicitDefEqProofs [BD, BF, BC, BI, BE, -getElem?_pos, q3,  splice]) | (simp (disch := omega) only [AC]) | ((with_reducible refine Ae 77 ?_); refine ⟨_, V3 hop hm h6 hrg hO.pts ⟨_, _, _, rfl⟩ hO.nO hlO, ?_⟩; rintro r n2 H2 hle2 hsup2 hpost) | ((with_reducible refine Ae 71 ?_); refine ⟨_, Dp hpost hO.nO hlO, ?_⟩; rintro r2 n3 H3 hle3 hsup3 hp2) | (with_reducible first | refine A8 ?_ ?_ ?_ | exact AB | assumption | refine A2 ?_ | refine KM.of ?_ | refine AD ?_ | refine A3 ?_ | refine AI ?_ | refine A6 ?_ | refine AJ ?_ | refine AH ?_ | intro _g _hg | refine AE ?_ ?_ | intro _hc) | omega)
 subst hR
 have hle := hO.le
 have ho := hO.fin_ (by simp) (by simp [AP]) hp2
 exact AK rfl ho.2.1 hsup3 ho
theorem Ym {f0 : Nat} {a0 w0 : List AV} {l : Aw} {cur fe : Ad} {O1 : Nat → Prop} (hop : 1 ≤ o ∧ o ≤ 3) (hm : B0 m) (h3 : o = 3 → 1 ≤ m) (hrg : rgE l) (hO : Opnd gO cs q n H [⟨.fn f0 a0 w0, some l, cur, fe, O1⟩] q1 n1 H1)  (q3 : H1 gs = some (Ab 4 o m (.sl 1 (v.map aI) .ro) (.sl 5 (Ac p) .ro))) : aw Tryz.prog c43_k5 (fin (OpenP true gO cs q ⟨cur, l.filter fun e => GZ o e.1 m, fe⟩ n H) n [.tmp 4]) ⟨[(3, .ptr gs 0), (5, .sl 1 [.fn f0 a0 w0] (.own g5))], n1, H1⟩ := by
 generalize hR : OpenP _ _ _ _ _ _ _ = R
 have hlO : gO < n1 := by have := hO.lO; have := hO.le; omega
 
 repeat' (first | (simp -implicitDefEqProofs [BD, BF, BC, BI, BE, -getElem?_pos, q3,  splice]) | (simp (disch := omega) only [AC]) | ((with_reducible refine Ae 77 ?_); refine ⟨_, VG hop hm h3 hrg hO.pts ⟨_, _, _, rfl⟩ hO.nO hlO, ?_⟩; rintro r n2 H2 hle2 hsup2 hpost) | ((with_reducible refine Ae 71 ?_); refine ⟨_, Dp hpost hO.nO hlO, ?_⟩; rintro r2 n3 H3 hle3 hsup3 hp2) | (with_reducible first | refine A8 ?_ ?_ ?_ | exact AB | assumption | refine A2 ?_ | refine KM.of ?_ | refine AD ?_ | refine A3 ?_ | refine AI ?_ | refine A6 ?_ | refine AJ ?_ | refine AH ?_ | intro _g _hg | refine AE ?_ ?_ | intro _hc) | omega)
 subst hR
 have hle := hO.le
 have ho := hO.fin_ (by simp) (by simp [AP]) hp2
 exact AK rfl ho.2.1 hsup3 ho
theorem Xs {f0 : Nat} {a0 w0 : List AV} {l : Aw} {cur fe : Ad} {O1 : Nat → Prop} {j : Nat} (hm : j ≤ 5000) (hO : Opnd gO cs q n H [⟨.fn f0 a0 w0, some l, cur, fe, O1⟩] q1 n1 H1)  (q3 : H1 gs = some (Ab 5 o (j : Nat) (.sl 1 (v.map aI) .ro) (.sl 5 (Ac p) .ro))) : aw Tryz.prog c43_k5 (fin (OpenP true gO cs q ⟨cur, (Eb j cur l fe).1, (Eb j cur l fe).2⟩ n H) n [.tmp 4]) ⟨[(3, .ptr gs 0), (5, .sl 1 [.fn f0 a0 w0] (.own g5))], n1, H1⟩ := by
 generalize hR : OpenP _ _ _ _ _ _ _ = R
 have hlO : gO < n1 := by have := hO.lO; have := hO.le; omega
 
 repeat' (first | (simp -implicitDefEqProofs [BD, BF, BC, BI, BE, -getElem?_pos, q3,  splice]) | (simp (disch := omega) only [AC]) | ((with_reducible refine Ae 77 ?_); refine ⟨_, VQ (m := 0) hm hO.pts ⟨_, _, _, rfl⟩ hO.nO hlO, ?_⟩; rintro r n2 H2 hle2 hsup2 hpost) | ((with_reducible refine Ae 71 ?_); refine ⟨_, Dp hpost hO.nO hlO, ?_⟩; rintro r2 n3 H3 hle3 hsup3 hp2) | (with_reducible first | refine A8 ?_ ?_ ?_ | exact AB | assumption | refine A2 ?_ | refine KM.of ?_ | refine AD ?_ | refine A3 ?_ | refine AI ?_ | refine A6 ?_ | refine AJ ?_ | refine AH ?_ | intro _g _hg | refine AE ?_ ?_ | intro _hc) | omega)
 subst hR
 have hle := hO.le
 have ho := hO.fin_ (by simp) (by simp [AP]) hp2
 exact AK rfl ho.2.1 hsup3 ho
theorem Yf {f0 : Nat} {a0 w0 : List AV} {l : Aw} {cur fe : Ad} {O1 : Nat → Prop} {j : Nat} (hm : j ≤ 5000) (hO : Opnd gO cs q n H [⟨.fn f0 a0 w0, some l, cur, fe, O1⟩] q1 n1 H1)  (q3 : H1 gs = some (Ab 6 o (j : Nat) (.sl 1 (v.map aI) .ro) (.sl 5 (Ac p) .ro))) : aw Tryz.prog c43_k5 (fin (OpenP true gO cs q ⟨cur, l.drop j, fe⟩ n H) n [.tmp 4]) ⟨[(3, .ptr gs 0), (5, .sl 1 [.fn f0 a0 w0] (.own g5))], n1, H1⟩ := by
 generalize hR : OpenP _ _ _ _ _ _ _ = R
 have hlO : gO < n1 := by have := hO.lO; have := hO.le; omega
 
 repeat' (first | (simp -implicitDefEqProofs [BD, BF, BC, BI, BE, -getElem?_pos, q3,  splice]) | (simp (disch := omega) only [AC]) | ((with_reducible refine Ae 77 ?_); refine ⟨_, Up (m := 0) hm hO.pts ⟨_, _, _, rfl⟩ hO.nO hlO, ?_⟩; rintro r n2 H2 hle2 hsup2 hpost) | ((with_reducible refine Ae 71 ?_); refine ⟨_, Dp hpost hO.nO hlO, ?_⟩; rintro r2 n3 H3 hle3 hsup3 hp2) | (with_reducible first | refine A8 ?_ ?_ ?_ | exact AB | assumption | refine A2 ?_ | refine KM.of ?_ | refine AD ?_ | refine A3 ?_ | refine AI ?_ | refine A6 ?_ | refine AJ ?_ | refine AH ?_ | intro _g _hg | refine AE ?_ ?_ | intro _hc) | omega)
 subst hR
 have hle := hO.le
 have ho := hO.fin_ (by simp) (by simp [AP]) hp2
 exact AK rfl ho.2.1 hsup3 ho
theorem Xy {f0 : Nat} {a0 w0 : List AV} {l : Aw} {cur fe : Ad} {O1 : Nat → Prop} (hop : 1 ≤ o ∧ o ≤ 3) (hm : B0 m) (h3 : o = 3 → 1 ≤ m) (hrg : rgE l) (hO : Opnd gO cs q n H [⟨.fn f0 a0 w0, some l, cur, fe, O1⟩] q1 n1 H1)  (q3 : H1 gs = some (Ab 7 o m (.sl 1 (v.map aI) .ro) (.sl 5 (Ac p) .ro))) : aw Tryz.prog c43_k5 (fin (OpenP true gO cs q ⟨cur, (Fk (fun x => GZ o x m) l fe).1, (Fk (fun x => GZ o x m) l fe).2⟩ n H) n [.tmp 4]) ⟨[(3, .ptr gs 0), (5, .sl 1 [.fn f0 a0 w0] (.own g5))], n1, H1⟩ := by
 generalize hR : OpenP _ _ _ _ _ _ _ = R
 have hlO : gO < n1 := by have := hO.lO; have := hO.le; omega
 
 repeat' (first | (simp -implicitDefEqProofs [BD, BF, BC, BI, BE, -getElem?_pos, q3,  splice]) | (simp (disch := omega) only [AC]) | ((with_reducible refine Ae 77 ?_); refine ⟨_, Uw hop hm h3 hrg hO.pts ⟨_, _, _, rfl⟩ hO.nO hlO, ?_⟩; rintro r n2 H2 hle2 hsup2 hpost) | ((with_reducible refine Ae 71 ?_); refine ⟨_, Dp hpost hO.nO hlO, ?_⟩; rintro r2 n3 H3 hle3 hsup3 hp2) | (with_reducible first | refine A8 ?_ ?_ ?_ | exact AB | assumption | refine A2 ?_ | refine KM.of ?_ | refine AD ?_ | refine A3 ?_ | refine AI ?_ | refine A6 ?_ | refine AJ ?_ | refine AH ?_ | intro _g _hg | refine AE ?_ ?_ | intro _hc) | omega)
 subst hR
 have hle := hO.le
 have ho := hO.fin_ (by simp) (by simp [AP]) hp2
 exact AK rfl ho.2.1 hsup3 ho
theorem YW {f0 : Nat} {a0 w0 : List AV} {l : Aw} {cur fe : Ad} {O1 : Nat → Prop} (hop : 1 ≤ o ∧ o ≤ 3) (hm : B0 m) (h3 : o = 3 → 1 ≤ m) (hrg : rgE l) (hO : Opnd gO cs q n H [⟨.fn f0 a0 w0, some l, cur, fe, O1⟩] q1 n1 H1)  (q3 : H1 gs = some (Ab 8 o m (.sl 1 (v.map aI) .ro) (.sl 5 (Ac p) .ro))) : aw Tryz.prog c43_k5 (fin (OpenP true gO cs q ⟨cur, IG (fun x => GZ o x m) l, fe⟩ n H) n [.tmp 4]) ⟨[(3, .ptr gs 0), (5, .sl 1 [.fn f0 a0 w0] (.own g5))], n1, H1⟩ := by
 generalize hR : OpenP _ _ _ _ _ _ _ = R
 have hlO : gO < n1 := by have := hO.lO; have := hO.le; omega
 
 repeat' (first | (simp -implicitDefEqProofs [BD, BF, BC, BI, BE, -getElem?_pos, q3,  splice]) | (simp (disch := omega) only [AC]) | ((with_reducible refine Ae 77 ?_); refine ⟨_, Vw hop hm h3 hrg hO.pts ⟨_, _, _, rfl⟩ hO.nO hlO, ?_⟩; rintro r n2 H2 hle2 hsup2 hpost) | ((with_reducible refine Ae 71 ?_); refine ⟨_, Dp hpost hO.nO hlO, ?_⟩; rintro r2 n3 H3 hle3 hsup3 hp2) | (with_reducible first | refine A8 ?_ ?_ ?_ | exact AB | assumption | refine A2 ?_ | refine KM.of ?_ | refine AD ?_ | refine A3 ?_ | refine AI ?_ | refine A6 ?_ | refine AJ ?_ | refine AH ?_ | intro _g _hg | refine AE ?_ ?_ | intro _hc) | omega)
 subst hR
 have hle := hO.le
 have ho := hO.fin_ (by simp) (by simp [AP]) hp2
 exact AK rfl ho.2.1 hsup3 ho
theorem Yw {f0 : Nat} {a0 w0 : List AV} {l : Aw} {cur fe : Ad} {O1 : Nat → Prop} (hop : 1 ≤ o ∧ o ≤ 5) (hm : B0 m) (hrg : rgE l) (hO : Opnd gO cs q n H [⟨.fn f0 a0 w0, some l, cur, fe, O1⟩] q1 n1 H1)  (q3 : H1 gs = some (Ab 9 o m (.sl 1 (v.map aI) .ro) (.sl 5 (Ac p) .ro))) : aw Tryz.prog c43_k5 (fin (OpenP true gO cs q ⟨cur, J1 (Dn o) m l, fe⟩ n H) n [.tmp 4]) ⟨[(3, .ptr gs 0), (5, .sl 1 [.fn f0 a0 w0] (.own g5))], n1, H1⟩ := by
 generalize hR : OpenP _ _ _ _ _ _ _ = R
 have hlO : gO < n1 := by have := hO.lO; have := hO.le; omega
 
 repeat' (first | (simp -implicitDefEqProofs [BD, BF, BC, BI, BE, -getElem?_pos, q3,  splice]) | (simp (disch := omega) only [AC]) | ((with_reducible refine Ae 77 ?_); refine ⟨_, Vu hop hm hrg hO.pts ⟨_, _, _, rfl⟩ hO.nO hlO, ?_⟩; rintro r n2 H2 hle2 hsup2 hpost) | ((with_reducible refine Ae 71 ?_); refine ⟨_, Dp hpost hO.nO hlO, ?_⟩; rintro r2 n3 H3 hle3 hsup3 hp2) | (with_reducible first | refine A8 ?_ ?_ ?_ | exact AB | assumption | refine A2 ?_ | refine KM.of ?_ | refine AD ?_ | refine A3 ?_ | refine AI ?_ | refine A6 ?_ | refine AJ ?_ | refine AH ?_ | intro _g _hg | refine AE ?_ ?_ | intro _hc) | omega)
 subst hR
 have hle := hO.le
 have ho := hO.fin_ (by simp) (by simp [AP]) hp2
 exact AK rfl ho.2.1 hsup3 ho
theorem XW {f0 : Nat} {a0 w0 : List AV} {l : Aw} {cur fe : Ad} {O1 : Nat → Prop} {j : Nat} (hop : 1 ≤ o ∧ o ≤ 5) (hm : 1 ≤ j ∧ j ≤ 8) (hrg : rgE l) (hO : Opnd gO cs q n H [⟨.fn f0 a0 w0, some l, cur, fe, O1⟩] q1 n1 H1)  (q3 : H1 gs = some (Ab 10 o (j : Nat) (.sl 1 (v.map aI) .ro) (.sl 5 (Ac p) .ro))) : aw Tryz.prog c43_k5 (fin (OpenP true gO cs q ⟨cur, Gc (Dn o) j [] l, fe⟩ n H) n [.tmp 4]) ⟨[(3, .ptr gs 0), (5, .sl 1 [.fn f0 a0 w0] (.own g5))], n1, H1⟩ := by
 generalize hR : OpenP _ _ _ _ _ _ _ = R
 have hlO : gO < n1 := by have := hO.lO; have := hO.le; omega
 
 repeat' (first | (simp -implicitDefEqProofs [BD, BF, BC, BI, BE, -getElem?_pos, q3,  splice]) | (simp (disch := omega) only [AC]) | ((with_reducible refine Ae 77 ?_); refine ⟨_, U1 (m := 0) hop hm hrg hO.pts ⟨_, _, _, rfl⟩ hO.nO hlO, ?_⟩; rintro r n2 H2 hle2 hsup2 hpost) | ((with_reducible refine Ae 71 ?_); refine ⟨_, Dp hpost hO.nO hlO, ?_⟩; rintro r2 n3 H3 hle3 hsup3 hp2) | (with_reducible first | refine A8 ?_ ?_ ?_ | exact AB | assumption | refine A2 ?_ | refine KM.of ?_ | refine AD ?_ | refine A3 ?_ | refine AI ?_ | refine A6 ?_ | refine AJ ?_ | refine AH ?_ | intro _g _hg | refine AE ?_ ?_ | intro _hc) | omega)
 subst hR
 have hle := hO.le
 have ho := hO.fin_ (by simp) (by simp [AP]) hp2
 exact AK rfl ho.2.1 hsup3 ho
theorem Wg {f0 : Nat} {a0 w0 : List AV} {l : Aw} {cur fe : Ad} {O1 : Nat → Prop} (hrg : rgE l) (hO : Opnd gO cs q n H [⟨.fn f0 a0 w0, some l, cur, fe, O1⟩] q1 n1 H1)  (q3 : H1 gs = some (Ab 11 o m (.sl 1 (v.map aI) .ro) (.sl 5 (Ac p) .ro))) : aw Tryz.prog c43_k5 (fin (OpenP true gO cs q ⟨cur, J0 (-1) l, fe⟩ n H) n [.tmp 4]) ⟨[(3, .ptr gs 0), (5, .sl 1 [.fn f0 a0 w0] (.own g5))], n1, H1⟩ := by
 generalize hR : OpenP _ _ _ _ _ _ _ = R
 have hlO : gO < n1 := by have := hO.lO; have := hO.le; omega
 
 repeat' (first | (simp -implicitDefEqProofs [BD, BF, BC, BI, BE, -getElem?_pos, q3,  splice]) | (simp (disch := omega) only [AC]) | ((with_reducible refine Ae 77 ?_); refine ⟨_, T9 hrg hO.pts ⟨_, _, _, rfl⟩ hO.nO hlO, ?_⟩; rintro r n2 H2 hle2 hsup2 hpost) | ((with_reducible refine Ae 71 ?_); refine ⟨_, Dp hpost hO.nO hlO, ?_⟩; rintro r2 n3 H3 hle3 hsup3 hp2) | (with_reducible first | refine A8 ?_ ?_ ?_ | exact AB | assumption | refine A2 ?_ | refine KM.of ?_ | refine AD ?_ | refine A3 ?_ | refine AI ?_ | refine A6 ?_ | refine AJ ?_ | refine AH ?_ | intro _g _hg | refine AE ?_ ?_ | intro _hc) | omega)
 subst hR
 have hle := hO.le
 have ho := hO.fin_ (by simp) (by simp [AP]) hp2
 exact AK rfl ho.2.1 hsup3 ho
theorem Vd {f0 : Nat} {a0 w0 : List AV} {l : Aw} {cur fe : Ad} {O1 : Nat → Prop}  (hO : Opnd gO cs q n H [⟨.fn f0 a0 w0, some l, cur, fe, O1⟩] q1 n1 H1)  (q3 : H1 gs = some (Ab 12 o 0 (.sl 1 (v.map aI) .ro) (.sl 5 (Ac p) .ro))) : aw Tryz.prog c43_k5 (fin (OpenP true gO cs q ⟨cur, [], cur⟩ n H) n [.tmp 4]) ⟨[(3, .ptr gs 0), (5, .sl 1 [.fn f0 a0 w0] (.own g5))], n1, H1⟩ := by
 generalize hR : OpenP _ _ _ _ _ _ _ = R
 have hlO : gO < n1 := by have := hO.lO; have := hO.le; omega
 
 repeat' (first | (simp -implicitDefEqProofs [BD, BF, BC, BI, BE, -getElem?_pos, q3,  splice]) | (simp (disch := omega) only [AC]) | ((with_reducible refine Ae 77 ?_); refine ⟨_, Ro (m := 0) hO.pts ⟨_, _, _, rfl⟩ hO.nO hlO, ?_⟩; rintro r n2 H2 hle2 hsup2 hpost) | ((with_reducible refine Ae 71 ?_); refine ⟨_, Dp hpost hO.nO hlO, ?_⟩; rintro r2 n3 H3 hle3 hsup3 hp2) | (with_reducible first | refine A8 ?_ ?_ ?_ | exact AB | assumption | refine A2 ?_ | refine KM.of ?_ | refine AD ?_ | refine A3 ?_ | refine AI ?_ | refine A6 ?_ | refine AJ ?_ | refine AH ?_ | intro _g _hg | refine AE ?_ ?_ | intro _hc) | omega)
 subst hR
 have hle := hO.le
 have ho := hO.fin_ (by simp) (by simp [AP]) hp2
 exact AK rfl ho.2.1 hsup3 ho
theorem WM {f0 : Nat} {a0 w0 : List AV} {l : Aw} {cur fe : Ad} {O1 : Nat → Prop} {j : Nat} (hm : 1 ≤ j ∧ j ≤ 20) (hl : l.length ≤ 5000) (hO : Opnd gO cs q n H [⟨.fn f0 a0 w0, some l, cur, fe, O1⟩] q1 n1 H1)  (q3 : H1 gs = some (Ab 12 o (j : Nat) (.sl 1 (v.map aI) .ro) (.sl 5 (Ac p) .ro))) : aw Tryz.prog c43_k5 (fin (OpenP true gO cs q ⟨cur, l ++ Fm (l.map (·.1)) fe (j - 1), fe⟩ n H) n [.tmp 4]) ⟨[(3, .ptr gs 0), (5, .sl 1 [.fn f0 a0 w0] (.own g5))], n1, H1⟩ := by
 generalize hR : OpenP _ _ _ _ _ _ _ = R
 have hlO : gO < n1 := by have := hO.lO; have := hO.le; omega
 
 repeat' (first | (simp -implicitDefEqProofs [BD, BF, BC, BI, BE, -getElem?_pos, q3,  splice]) | (simp (disch := omega) only [AC]) | ((with_reducible refine Ae 77 ?_); refine ⟨_, U0 (m := 0) hm hl hO.pts ⟨_, _, _, rfl⟩ hO.nO hlO, ?_⟩; rintro r n2 H2 hle2 hsup2 hpost) | ((with_reducible refine Ae 71 ?_); refine ⟨_, Dp hpost hO.nO hlO, ?_⟩; rintro r2 n3 H3 hle3 hsup3 hp2) | (with_reducible first | refine A8 ?_ ?_ ?_ | exact AB | assumption | refine A2 ?_ | refine KM.of ?_ | refine AD ?_ | refine A3 ?_ | refine AI ?_ | refine A6 ?_ | refine AJ ?_ | refine AH ?_ | intro _g _hg | refine AE ?_ ?_ | intro _hc) | omega)
 subst hR
 have hle := hO.le
 have ho := hO.fin_ (by simp) (by simp [AP]) hp2
 exact AK rfl ho.2.1 hsup3 ho
end
theorem Yi {s : St} (h : T1 s) : AU s ≤ 5000 := by cases s; exact h.1
theorem Wv {p : Pt} {F : Fut} (h : p.fut = F) (ha : (∃ l, p.l = some l) ∧ Cq p.x) : ∃ f a b O, p = ⟨.fn f a b, some F.l, F.cur, F.fin, O⟩ := by
 obtain ⟨x, l, cur, fe, O⟩ := p
 obtain ⟨⟨l, rfl⟩, f, a, b, rfl⟩ := ha
 subst h
 exact ⟨f, a, b, O, rfl⟩
theorem Vc {gO n n1 gs g5 : Nat} {cs : Ad} {q q1 : Option Nat} {H H1 : A7} {ps : List Pt} {k o m : Int} {v : List Int} {p : List St} (hN : NodeOk k o m v p) (hok : Zw p) (hsm : Z4 p) (h1 : k ≠ 1) (h2 : k ≠ 2) (h60 : p.length ≤ 60) (hF : ps.map Pt.fut = p.map AQ) (hO : Opnd gO cs q n H ps q1 n1 H1) (hps : ps ≠ []) (q3 : H1 gs = some (Ab k o m (.sl 1 (v.map aI) .ro) (.sl 5 (Ac p) .ro))) :
  aw Tryz.prog c43_k5 (fin (OpenP true gO cs q (AQ (.mk k o m v p)) n H) n [.tmp 4]) ⟨[(3, .ptr gs 0), (5, .sl 1 (ps.map Pt.x) (.own g5))], n1, H1⟩ := by
 have hpl : ps.length = p.length := by have := congrArg List.length hF; simpa using this
 by_cases h13 : k = 13
 ·subst h13
  have e : AQ (.mk 13 o m v p) = De (ps.map Pt.fut) := by rw [AQ, GP, ← hF]; simp [DE]
  rw [e]; exact XF (by omega) hO hps q3
 by_cases h14 : k = 14
 ·subst h14
  have e : AQ (.mk 14 o m v p) = JA (ps.map Pt.fut) := by rw [AQ, GP, ← hF]; simp [DE]
  rw [e]; exact WW (by omega) hO hps q3
 by_cases h15 : k = 15 ∨ k = 16
 ·obtain ⟨x, y, rfl⟩ : ∃ x y, p = [x, y] := by
   match p, hN.two h15 with
   | [x, y], _ => exact ⟨x, y, rfl⟩
  obtain ⟨pa, pb, rfl⟩ : ∃ pa pb, ps = [pa, pb] := by
   match ps, hpl with
   | [pa, pb], _ => exact ⟨pa, pb, rfl⟩
  simp only [List.map_cons, List.map_nil, List.cons.injEq, and_true] at hF
  obtain ⟨f0, a0, w0, O1, rfl⟩ := Wv hF.1 (hO.all pa (by simp))
  obtain ⟨f1, a1, w1, O2, rfl⟩ := Wv hF.2 (hO.all pb (by simp))
  have bx := Gr x hok.1
  have by_ := Gr y hok.2.1
  rcases h15 with rfl | rfl
  ·have e : AQ (.mk 15 o m v [x, y]) = ⟨(AQ x).cur ++ (AQ y).cur, (HW (Dn o) (AQ x).fin (AQ y).fin (AQ x).l (AQ y).cur (AQ y).l).1, (HW (Dn o) (AQ x).fin (AQ y).fin (AQ x).l (AQ y).cur (AQ y).l).2⟩ := by simp [AQ, Fb, DE]
   rw [e]
   have hfn := hN.fn (by decide)
   exact Wy (by omega) bx.2 by_.2 hO q3
  ·have e : AQ (.mk 16 o m v [x, y]) = ⟨(AQ x).cur ++ (AQ y).cur, CG (AQ x).fin (AQ y).fin (AQ x).l (AQ y).l, (AQ x).fin ++ (AQ y).fin⟩ := by simp [AQ, Fb, DE]
   rw [e]
   exact Wj hO q3
 have hk1 := hN.k1
 have hk2 := hN.k2
 obtain ⟨x, rfl⟩ : ∃ x, p = [x] := by
  match p, hN.one h1 h2 h13 h14 (by omega) (by omega) with
  | [x], _ => exact ⟨x, rfl⟩
 obtain ⟨pa, rfl⟩ : ∃ pa, ps = [pa] := by
  match ps, hpl with
  | [pa], _ => exact ⟨pa, rfl⟩
 simp only [List.map_cons, List.map_nil, List.cons.injEq, and_true] at hF
 obtain ⟨f0, a0, w0, O1, rfl⟩ := Wv hF (hO.all pa (by simp))
 have bx := Gr x hok.1
 have hb5 := Yi hsm.1
 have e : AQ (.mk k o m v [x]) = Bq k o m (AQ x) := by simp [AQ, Fb, DE, h1, h2, h13, h14]
 rw [e]
 generalize AQ x = F at *
 have hfn := hN.fn
 have hcd := hN.cnd
 have hnm := hN.num
 by_cases k3 : k = 3
 ·subst k3
  have h1 := hfn (by decide); have h2 := hnm (by decide)
  simp only [IK, IS, Bj] at h2
  rw [show Bq 3 o m F = ⟨F.cur, F.l.map fun e => (Dn o e.1 m, e.2), F.fin⟩ by simp [Bq]]
  exact Yl (o := o) (m := m) (by omega) (show B0 m by unfold B0; grind) (by grind) bx.2 hO q3
 by_cases k4 : k = 4
 ·subst k4
  have h1 := hcd (by decide); have h2 := hnm (by decide)
  simp only [IK, IS, Bj] at h2
  rw [show Bq 4 o m F = ⟨F.cur, F.l.filter fun e => GZ o e.1 m, F.fin⟩ by simp [Bq]]
  exact Ym (o := o) (m := m) (by omega) (show B0 m by unfold B0; grind) (by grind) bx.2 hO q3
 by_cases k5 : k = 5
 ·subst k5
  have h2 := hnm (by decide)
  simp only [IK, IS, Bj] at h2
  obtain ⟨j, rfl⟩ : ∃ j : Nat, m = j := ⟨m.toNat, by grind⟩
  rw [show Bq 5 o j F = ⟨F.cur, (Eb j F.cur F.l F.fin).1, (Eb j F.cur F.l F.fin).2⟩ by simp [Bq]]
  exact Xs (j := j) (by grind) hO q3
 by_cases k6 : k = 6
 ·subst k6
  have h2 := hnm (by decide)
  simp only [IK, IS, Bj] at h2
  obtain ⟨j, rfl⟩ : ∃ j : Nat, m = j := ⟨m.toNat, by grind⟩
  rw [show Bq 6 o j F = ⟨F.cur, F.l.drop j, F.fin⟩ by simp [Bq]]
  exact Yf (j := j) (by grind) hO q3
 by_cases k7 : k = 7
 ·subst k7
  have h1 := hcd (by decide); have h2 := hnm (by decide)
  simp only [IK, IS, Bj] at h2
  rw [show Bq 7 o m F = ⟨F.cur, (Fk (fun x => GZ o x m) F.l F.fin).1, (Fk (fun x => GZ o x m) F.l F.fin).2⟩ by simp [Bq]]
  exact Xy (o := o) (m := m) (by omega) (show B0 m by unfold B0; grind) (by grind) bx.2 hO q3
 by_cases k8 : k = 8
 ·subst k8
  have h1 := hcd (by decide); have h2 := hnm (by decide)
  simp only [IK, IS, Bj] at h2
  rw [show Bq 8 o m F = ⟨F.cur, IG (fun x => GZ o x m) F.l, F.fin⟩ by simp [Bq]]
  exact YW (o := o) (m := m) (by omega) (show B0 m by unfold B0; grind) (by grind) bx.2 hO q3
 by_cases k9 : k = 9
 ·subst k9
  have h1 := hfn (by decide); have h2 := hnm (by decide)
  simp only [IK, IS, Bj] at h2
  rw [show Bq 9 o m F = ⟨F.cur, J1 (Dn o) m F.l, F.fin⟩ by simp [Bq]]
  exact Yw (o := o) (m := m) (by omega) (show B0 m by unfold B0; grind) bx.2 hO q3
 by_cases k10 : k = 10
 ·subst k10
  have h1 := hfn (by decide); have h2 := hnm (by decide)
  simp only [IK, IS, Bj] at h2
  obtain ⟨j, rfl⟩ : ∃ j : Nat, m = j := ⟨m.toNat, by grind⟩
  rw [show Bq 10 o j F = ⟨F.cur, Gc (Dn o) j [] F.l, F.fin⟩ by simp [Bq]]
  exact XW (o := o) (j := j) (by omega) (by grind) bx.2 hO q3
 by_cases k11 : k = 11
 ·subst k11
  rw [show Bq 11 o m F = ⟨F.cur, J0 (-1) F.l, F.fin⟩ by simp [Bq]]
  exact Wg (o := o) (m := m) bx.2 hO q3
 have k12 : k = 12 := by omega
 subst k12
 have h2 := hnm (by decide)
 simp only [IK, IS, Bj] at h2
 obtain ⟨j, rfl⟩ : ∃ j : Nat, m = j := ⟨m.toNat, by grind⟩
 by_cases j0 : j = 0
 ·subst j0
  rw [show Bq 12 o (0 : Nat) F = ⟨F.cur, [], F.cur⟩ by simp [Bq, S8]]
  exact Vd (o := o) hO q3
 ·rw [show Bq 12 o j F = ⟨F.cur, F.l ++ Fm (F.l.map (·.1)) F.fin (j - 1), F.fin⟩ by simp [Bq, S8, j0]]
  exact WM (o := o) (j := j) (by grind) (by omega) hO q3
theorem YZ {R R' : Bm} {n n0 : Nat} {res : List ARes} {e : AExit} {s : AS} (hn : n ≤ n0) (hR : ∀ r n' H', n0 ≤ n' → R r n' H' → R' r n' H') (h : fin R n0 res e s) : fin R' n res e s := by
 cases e with
 | normal => obtain ⟨r, n', H', h1, h2, h3, h4, h5, h6⟩ := h; exact ⟨r, n', H', h1, by omega, h3, h4, h5, hR _ _ _ h2 h6⟩
 | ret => obtain ⟨r, n', H', h1, h2, h3, h4, h5, h6⟩ := h; exact ⟨r, n', H', h1, by omega, h3, h4, h5, hR _ _ _ h2 h6⟩
 | exit id => exact h
theorem Zd (s : St) : BK s → OY s → T1 s → Ah s ≤ 60 → SW s := by
 refine St.ind (Q := fun s => BK s → OY s → T1 s → Ah s ≤ 60 → SW s) ?_ s
 intro k o m v p ih hfit hok hsm hsz gO n H cs q hcs hL
 obtain ⟨hv, hp, hpp⟩ := hfit
 obtain ⟨hn, hop⟩ := hok
 have hN := Hh hn
 simp only [Ah] at hsz hcs
 by_cases hlf : k = 1 ∨ k = 2
 ·have hp0 := hN.leaf hlf
  subst hp0
  exact V1 hlf hN hv (by omega) hL
 have hp0 : p ≠ [] := by
  intro e
  subst e
  by_cases h13 : k = 13 ∨ k = 14
  ·exact hN.many h13 rfl
  ·by_cases h15 : k = 15 ∨ k = 16
   ·have := hN.two h15; simp at this
   ·have := hN.one (by omega) (by omega) (by omega) (by omega) (by omega) (by omega); simp at this
 have h60 : p.length ≤ 60 := by have := EO p; omega
 have hx : ∀ x ∈ p, SW x := fun x hx => ih x hx (DL hpp x hx) (Fu hop x hx) (KA hsm.2 x hx) (by have := EQ x hx; omega)
 have hpl := BM p
 have hl0 : ¬ p.length = 0 := fun e => hp0 (List.length_eq_zero_iff.1 e)
 have hl0' : ¬ (p.length : Int) = 0 := by omega
 generalize hR : OpenP _ _ _ _ _ _ _ = R
 rw [AN]
 refine AF Tryz.func43 Z5 rfl fun hs => ?_
 obtain ⟨hO, hgn⟩ := hL.lt hs
 repeat' (first | (simp -implicitDefEqProofs [c43, NE, -getElem?_pos, hpl, hl0, hl0', splice]) | (simp (disch := omega) only [AC]) | (with_reducible first | refine A8 ?_ ?_ ?_ | exact AB | assumption | refine A2 ?_ | refine KM.of ?_ | refine AD ?_ | refine A3 ?_ | refine AI ?_ | refine A6 ?_ | refine AJ ?_ | refine AH ?_ | intro _g _hg | refine AE ?_ ?_ | intro _hc) | omega)
 refine Td (gO := gO) (n := _g + 1) (gs := _g) (cs := cs) (q := q) (k := k) (o := o) (m := m) (v := v) hp0 h60 (by omega) hx (hL.more hs (fun k hk => by simp (disch := omega) only [upd_ne])) (fun k hk => by simp (disch := omega) only [upd_ne]; exact hs k (by omega)) (by omega) (by omega) (fun e => by have := hgn _ e; omega) (by simp (disch := omega) only [upd_ne, AO] <;> rfl) n ?_
 intro ps q1 n1 H1 g5 hO2 hF q3
 subst hR
 have hps : ps ≠ [] := by
  intro e
  subst e
  have := congrArg List.length hF
  simp at this
  exact hp0 (List.length_eq_zero_iff.1 this.symm)
 refine IW (Vc hN hop hsm.2 (by omega) (by omega) h60 hF hO2 hps q3) fun e st he => YZ (by omega) (fun r n' H' _ h => h.up (by omega) (fun k hk => by simp (disch := omega) only [upd_ne]) fun g hg => (hgn g hg).1) he
end Go.Proofs.YtjdccdelcnmocaaGreatDoor
