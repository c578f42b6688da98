/- Streams: what the reference gives: streams with one part, walked; no condition. -/
import Derived.Test.YtjdccdelcnmocaaGreatDoorMdU
import Derived.Test.YtjdccdelcnmocaaGreatDoorMdQ
import Derived.Test.YtjdccdelcnmocaaGreatDoorMgK
import Derived.Test.YtjdccdelcnmocaaGreatDoorMdL
import Derived.Test.YtjdccdelcnmocaaGreatDoorMdM
import Derived.WalkKit
import Derived.ProofKit
import Derived.OpenShut
import Derived.LaidLaws
import Derived.Deep.DeepHandedRow
import Derived.Deep.DeepWitnessRowRef
import Derived.Lib.LaidTab
import Derived.Lib.LaidU8
import Derived.MakeChecks
import Derived.Lay
set_option linter.all false
set_option maxHeartbeats 4000000
namespace Go.Proofs.YtjdccdelcnmocaaGreatDoor
abbrev Tp (n : Nat) (H : A1) (g2 g3 g4 g5 : Nat) (xv tv : List AV) (k o N : Int) (w w2 : AV) (c0 : AQ) (d : Ad) (z : Nat) (t : Tok) (z2 : Nat) (t2 : Tok) (n' : Nat) (H' : A1) : Prop := GivI n H g5 g4 [(g3, Cq (.sl 1 xv .ro) (.sl 1 tv .ro)), (g2, Ah k o N w w2)] c0 d z t z2 t2 n' H'
attribute [local simp] Ng FD FC Lc MV LI Ni FN FF HQ HO Lg MC Nq MZ Ny No NG NY LV LZ M0 MT Ly LJ Tq pe N9 Ld MD Lv N1 Nf Li O7 Mz N4 Mx Mc Ln FU O5 OC Lk Nt NR Na Mr Ma OD Mh LX NT LR Ms MX LN Np N0 Ls LH Lf Ey MY F4 LL Lo OA O0 M9 Nj M4 MF MA MG NF N7 Mt Mi Mo Lw Mq MQ MH Mj N8 Nv Nr Ns Nm FX M1 Nh Mw Lu Mk Md M8 NZ O8 NJ MJ MS Nd M2 Lp NA N5 Mn Lt NQ NX NN MI Nc NW LW NK Mf Mp Nu Ja Ll List.mem_cons guardK EE G9 GK HN LK F3 FL F8 FO FJ FG FQ FY Ez LF ME FV LM MP M7 Lh N3 MM F1 MW NL NV LG LU Lr HS FT FB FS FM Nn M5 FP LQ F9 Lj F6 FA Nz F5 F2 Lq My ND NU NH MB Lm OB Tt KK Ki Hc KI Ju K7 Eb Gt HA MN Gm Gu EZ ED Wm Jx Kn Gq Ji Js E5 Dd BZ B9 CA DW AA ev get put Fc AC EC Mb MK Lx O4 KL NP Eu part B8 HY N2 HB isNil DA DG Dz DK DH NO O6 OF NS M3 Ke LY Mu Nl MR OE Nk Nb LT Nw Mv AV.fits AV.cells ones AV.one EP Bw EN DX Fb Ev Mm Fy GE CW Bd CB F7 GI AP BD Xd HU N6 Me List.getElem?_cons_zero List.getElem?_cons_succ FW FH F0 NB NM NI HW Ml MO NE Lz ML M6 Mg MU Nx O9 LP
theorem Uv {R : AExit → AS → Prop} {e : AJ} {g2 g3 g4 g5 n n1 i : Nat} {H H1 : A1} {m l : Int} {s : Bool} {en c0 : AQ} {k o N : Int} {w w2 : AV} {xv tv : List AV} {d : Ad} {z z2 : Nat} {t t2 : Tok} {V : AV} (hk5 : k ≠ 5) (hp : PE e g2 g3 g4 g5 m l s en i) (hd : d.length ≤ 100000) (hgg : n ≤ g2 ∧ g2 < g3 ∧ g3 < g4 ∧ g4 < g5) (hw : w.one = true) (hw2 : w2.one = true)
  (_hO : Tp n H g2 g3 g4 g5 xv tv k o N w w2 c0 d z t z2 t2 n1 H1) (hV : V = .agg [.sl 1 (eX d) .ro, .sl 1 (eT c0 d ++ [BX en]) .ro]) (hR : R = GD V n H c51.res) :
  aw Tryz.prog c51_k2 R ⟨e, n1, H1⟩ := by
 obtain ⟨e2, e3, e4, e5, e6, e7, e8, e9, ex⟩ := hp
 have hxL := EX d
 have htL := EH c0 d
 have hk' : (k == 5) = false := by simpa using hk5
 have _hb := Owns.boxF _hO
 dsimp only [AE, A7, AF] at _hb
 subst hR
 
 repeat' (first | simp -implicitDefEqProofs [K9, Jo, c51, -getElem?_pos, Ay, Ax, Es, e2, e3, e4, e5, e6, e7, e8, e9, ex, hk', hk5, _hb] | simp (disch := omega) only [A6] | ((with_reducible refine appKS.chk ?_); refine Owns.appS (by assumption) (A0 _) (by simp; omega) (by decide) (fun _z2 _t2 _n _H _hle _hO => ?_); have _hb := Owns.boxF _hO; dsimp only [AE, A7, AF] at _hb) | (with_reducible first | exact AG | refine BB ?_) | ((with_reducible refine EO (fun _g _hg _hO => ?_)); (have _hb := And.intro _hb _hO.boxF); dsimp only [AE, A7, AF] at _hb) | ((with_reducible refine EL (fun _g _hg _hO => ?_))) | (with_reducible first | exact AG | refine Bv ?_ | intro _g _hg | refine A5 ?_ ?_ | intro _hc) | omega)
 rw [hV]
 exact Df (Af (_hO.sim0 (A0 _)) (Af (_hO.sim1 (A0 _)) (A0 _)))
theorem A1d {k o N : Int} {F : Fut} (hk : WM k) : (B6 k o N F).l.length ≤ F.l.length := by
 have hw : ∀ (p : Int → Bool) (l : Ad) (c : AQ), (Di p l c).1.length ≤ l.length := fun p l => by
  induction l with
  | nil => intro c; simp [Di]
  | cons x l ih => intro c; obtain ⟨x, d⟩ := x; rw [Di]; split <;> simp; exact ih c
 have hs : ∀ (p : Int → Bool) (l : Ad), (GG p l).length ≤ l.length := fun p l => by
  induction l with
  | nil => simp [GG]
  | cons x l ih => obtain ⟨x, d⟩ := x; rw [GG]; split <;> simp; omega
 have hc : ∀ (f : Int → Int → Int) (l : Ad) (m : Int), (IT f m l).length = l.length := fun f l => by
  induction l with
  | nil => intro m; rfl
  | cons x l ih => intro m; obtain ⟨x, d⟩ := x; simp [IT, ih]
 have hwi : ∀ (f : Int → Int → Int) (M : Nat) (l : Ad) (q : List Int), (EB f M q l).length ≤ l.length := fun f M l => by
  induction l with
  | nil => intro q; simp [EB]
  | cons x l ih => intro q; obtain ⟨x, d⟩ := x; rw [EB]; split <;> simp <;> (have := ih (q ++ [x]); have := ih ((q ++ [x]).drop (q.length + 1 - M)); omega)
 have hr : ∀ (l : Ad) (q : Int), (GB q l).length ≤ l.length := fun l => by
  induction l with
  | nil => intro q; simp [GB]
  | cons x l ih => intro q; obtain ⟨x, d⟩ := x; rw [GB]; split <;> simp <;> (have := ih x; have := ih q; omega)
 unfold B6
 rcases hk with rfl | rfl | rfl | rfl | rfl | rfl | rfl | rfl <;> simp
 ·exact List.length_filter_le _ _
 ·exact hw _ _ _
 ·exact hs _ _
 ·rw [hc]; exact Nat.le_refl _
 ·exact hwi _ _ _ _
 ·exact hr _ _
theorem Y8 (k o N : Int) (hk : WM k) (F : Fut) (hG : Oj k o N F) (hFl : F.l.length ≤ 6000) (hN : AW N) (n : Nat) (H : A1) (w w2 : AV) (hw : w.one = true) (hw2 : w2.one = true) (xv tv : List AV) (hA : GivB F xv tv) (V : AV) (hV : V = .agg [.sl 1 (eX (B6 k o N F).l) .ro, .sl 1 (eT F.cur (B6 k o N F).l ++ [BX (B6 k o N F).fin]) .ro]) (g2 g3 g4 g5 : Nat) (hgg : n ≤ g2 ∧ g2 < g3 ∧ g3 < g4 ∧ g4 < g5) (n1 : Nat) (H1 : A1) (z : Nat) (t : Tok) (z2 : Nat) (t2 : Tok)
  (_hO : Tp n H g2 g3 g4 g5 xv tv k o N w w2 F.cur [] z t z2 t2 n1 H1) (R : AExit → AS → Prop) (hR : R = GD V n H c51.res) :
  LoopK (fun Q s => aw Tryz.prog c51_L24 Q s) (CD 0 (D6 (aw Tryz.prog c51_k2 R) R)) ⟨[(2, .ptr g2 0), (3, .ptr g3 0), (4, .ptr g4 0), (5, .ptr g5 0), (6, aI N), (7, aI (-1)), (8, .bool true), (9, BX F.fin), (10, aI 0)], n1, H1⟩ := by
 have hk5 : k ≠ 5 := by rcases hk with rfl | rfl | rfl | rfl | rfl | rfl | rfl | rfl <;> decide
 have hk' : (k == 5) = false := by simpa using hk5
 have hbeg := Z2 (o := o) (N := N) (F := F) hk
 have hol := A1d (o := o) (N := N) (F := F) hk
 have hA0 := hA
 obtain ⟨hxl, htl, haa, hea⟩ := hA0
 
 refine LoopK.go (fun q st => ∃ (i n' : Nat) (H' : A1) (m l : Int) (s : Bool) (d : Ad) (z : Nat) (t : Tok) (z2 : Nat) (t2 : Tok), i + q = F.l.length ∧ AW m ∧ (k ≠ 9 → m = N) ∧ (B6 k o N F).l = d ++ (Fd k o N F i m l s).1 ∧ (B6 k o N F).fin = (Fd k o N F i m l s).2 ∧ st = ⟨[(2, .ptr g2 0), (3, .ptr g3 0), (4, .ptr g4 0), (5, .ptr g5 0), (6, aI m), (7, aI l), (8, .bool s), (9, BX F.fin), (10, aI i)], n', H'⟩ ∧ Tp n H g2 g3 g4 g5 xv tv k o N w w2 F.cur d z t z2 t2 n' H') F.l.length ⟨0, _, _, N, -1, true, [], _, _, _, _, by omega, hN, fun _ => rfl, by rw [hbeg]; rfl, by rw [hbeg], rfl, _hO⟩ ?_
 clear _hO hbeg
 rintro q st ⟨i, n1, H1, m, l, s, d, z, t, z2, t2, hq, hm, hmN, hl, hf, rfl, _hO⟩ J hJ
 have _hb := Owns.boxF _hO
 dsimp only [AE, A7, AF] at _hb
 have hdl : d.length ≤ 100000 := by
  rw [hl, List.length_append] at hol; omega
 by_cases hi : i < F.l.length
 ·obtain ⟨x, c, hxc⟩ : ∃ x c, F.l[i]? = some (x, c) := ⟨F.l[i].1, F.l[i].2, List.getElem?_eq_getElem hi⟩
  have hx1 := hea i x c hxc
  have hi' : (i : Int) < F.l.length := by omega
  have h2 := (_hO.box (g2, Ah k o N w w2) (by simp)).1
  have h3 := (_hO.box (g3, Cq (.sl 1 xv .ro) (.sl 1 tv .ro)) (by simp)).1
  repeat' (first | simp -implicitDefEqProofs [G5, Ij, -getElem?_pos, Ay, Ax, hxl, hi', hx1, hk', hk5, _hb] | simp (disch := omega) only [A6] | (with_reducible first | exact AG | refine BB ?_) | ((with_reducible refine EO (fun _g _hg _hO => ?_)); (have _hb := And.intro _hb _hO.boxF); dsimp only [AE, A7, AF] at _hb) | ((with_reducible refine EL (fun _g _hg _hO => ?_))) | ((with_reducible refine appKS.chk ?_); first | ((refine Ih ?_ ?_ (fun _x _n _H _hle _hO _hb => ?_)); rotate_left 2; dsimp only [AE, A7, AF] at _hb) | ((refine Im ?_ ?_ (fun _x _n _H _hle _hO _hb => ?_)); rotate_left 2; dsimp only [AE, A7, AF] at _hb)) | (with_reducible first | exact AG | refine Bv ?_ | intro _g _hg | refine A5 ?_ ?_ | intro _hc) | omega)
  refine hG i x c m l s hxc hm hmN _ _ g2 g3 g4 g5 _ _ F.fin w w2 xv tv hA ⟨rfl, rfl, rfl, rfl, rfl, rfl, rfl, rfl, rfl⟩ rfl rfl h2 h3 hw hw2 (fun give x' m' l' s' hm2 hmN2 hres e' hp e11 e12 => ?_) (fun en' hres e' hp => ?_)
  ·refine Ys hp e11 e12 hA hxc hdl hFl hgg _hO (fun e n2 H2 z z2 t t2 hp hO2 => ?_)
   obtain ⟨e2, e3, e4, e5, e6, e7, e8, e9, ex⟩ := hp
   repeat' (first | simp -implicitDefEqProofs [Qj, -getElem?_pos, e2, e3, e4, e5, e6, e7, e8, e9, ex] | simp (disch := omega) only [A6] | (with_reducible first | exact AG | refine Bu ?_ | intro _g _hg | refine A5 ?_ ?_ | intro _hc) | omega)
   rw [hres] at hl hf
   refine hJ (q - 1) _ (by omega) ⟨i + 1, _, _, m', l', s', _, _, _, _, _, by omega, hm2, hmN2, ?_, hf, rfl, hO2⟩
   rw [hl]
   cases give <;> simp
  ·have hp2 := hp
   obtain ⟨e2, e3, e4, e5, e6, e7, e8, e9, ex⟩ := hp
   rw [hres] at hl hf
   rw [List.append_nil] at hl
   repeat' (first | simp -implicitDefEqProofs [c51, -getElem?_pos, e2, e3, e4, e5, e6, e7, e8, e9, ex] | simp (disch := omega) only [A6] | (with_reducible first | exact AG | refine Bu ?_ | intro _g _hg | refine A5 ?_ ?_ | intro _hc) | omega)
   exact Uv (m := m) (l := l) (s := s) (i := i) hk5 hp2 hdl hgg hw hw2 _hO (by rw [hV, hl, hf]) hR
 ·have hie : i = F.l.length := by omega
  have hi' : ¬ (i : Int) < F.l.length := by omega
  rw [hie, YU hk] at hl hf
  rw [List.append_nil] at hl
  have hf : (B6 k o N F).fin = F.fin := hf
  repeat' (first | simp -implicitDefEqProofs [G5, -getElem?_pos, Ay, Ax, hxl, hi', _hb] | simp (disch := omega) only [A6] | (with_reducible first | exact AG | refine BB ?_) | ((with_reducible refine EO (fun _g _hg _hO => ?_)); (have _hb := And.intro _hb _hO.boxF); dsimp only [AE, A7, AF] at _hb) | ((with_reducible refine EL (fun _g _hg _hO => ?_))) | ((with_reducible refine appKS.chk ?_); first | ((refine Ih ?_ ?_ (fun _x _n _H _hle _hO _hb => ?_)); rotate_left 2; dsimp only [AE, A7, AF] at _hb) | ((refine Im ?_ ?_ (fun _x _n _H _hle _hO _hb => ?_)); rotate_left 2; dsimp only [AE, A7, AF] at _hb)) | (with_reducible first | exact AG | refine Bv ?_ | intro _g _hg | refine A5 ?_ ?_ | intro _hc) | omega)
  exact Uv (m := m) (l := l) (s := s) (i := i) hk5 ⟨rfl, rfl, rfl, rfl, rfl, rfl, rfl, rfl, rfl⟩ hdl hgg hw hw2 _hO (by rw [hV, hl, hf]) hR
theorem VH : ∀ (n : Nat) (cur : AQ) (l : Ad) (fin : AQ), Da n cur l fin = (l.take n, if n ≤ l.length then (cur :: l.map (·.2)).getD n [] else fin)
 | 0, cur, l, fin => by simp [Da]
 | n + 1, cur, [], fin => by simp [Da]
 | n + 1, cur, (x, c) :: r, fin => by
  rw [Da, VH n c r fin]
  simp
theorem A1e (n : Nat) (F : Fut) : Da n F.cur F.l F.fin = (F.l.take n, if n ≤ F.l.length then GC F n else F.fin) := by
 rw [VH]
 split
 ·rename_i h
  unfold GC J3
  rw [List.getD_eq_getElem?_getD, List.getD_eq_getElem?_getD, ← List.cons_append, List.getElem?_append_left (by simp; omega)]
 ·rfl
theorem ZU (o : Int) (N : Nat) (F : Fut) (hFl : F.l.length ≤ 6000) (hN : N ≤ 6000) (n : Nat) (H : A1) (w w2 : AV) (hw : w.one = true) (hw2 : w2.one = true) (xv tv : List AV) (hA : GivB F xv tv) (V : AV) (hV : V = .agg [.sl 1 (eX (F.l.take N)) .ro, .sl 1 (eT F.cur (F.l.take N) ++ [BX (if N ≤ F.l.length then GC F N else F.fin)]) .ro]) (g2 g3 g4 g5 : Nat) (hgg : n ≤ g2 ∧ g2 < g3 ∧ g3 < g4 ∧ g4 < g5) (n1 : Nat) (H1 : A1) (z : Nat) (t : Tok) (z2 : Nat) (t2 : Tok)
  (_hO : Tp n H g2 g3 g4 g5 xv tv 5 o N w w2 F.cur [] z t z2 t2 n1 H1) (R : AExit → AS → Prop) (hR : R = GD V n H c51.res) :
  LoopK (fun Q s => aw Tryz.prog c51_L24 Q s) (CD 0 (D6 (aw Tryz.prog c51_k2 R) R)) ⟨[(2, .ptr g2 0), (3, .ptr g3 0), (4, .ptr g4 0), (5, .ptr g5 0), (6, aI N), (7, aI (-1)), (8, .bool true), (9, BX F.fin), (10, aI 0)], n1, H1⟩ := by
 have hA0 := hA
 obtain ⟨hxl, htl, haa, hea⟩ := hA0
 have hfin : ∀ (e : AJ) (n1 : Nat) (H1 : A1) (z : Nat) (t : Tok) (z2 : Nat) (t2 : Tok), Tp n H g2 g3 g4 g5 xv tv 5 o N w w2 F.cur (F.l.take N) z t z2 t2 n1 H1 → get e 2 = .ptr g2 0 → get e 3 = .ptr g3 0 → get e 4 = .ptr g4 0 → get e 5 = .ptr g5 0 → (¬ N ≤ F.l.length → get e 9 = BX F.fin) → aw Tryz.prog c51_k2 R ⟨e, n1, H1⟩ := by
  intro e n1 H1 z t z2 t2 _hO e2 e3 e4 e5 e9
  have hxL := EX (F.l.take N)
  have htL := EH F.cur (F.l.take N)
  have htk : (F.l.take N).length ≤ 6000 := by rw [List.length_take]; omega
  have hVV : ∀ (_z2 : Nat) (_t2 : Tok) (_n : Nat) (_H : A1), Owns n H [(g5, Cq (.sl z (eX (F.l.take N)) t) (.sl z2 (eT F.cur (F.l.take N)) t2)), (g4, Cq CV CV), (g3, Cq (.sl 1 xv .ro) (.sl 1 tv .ro)), (g2, Ah 5 o N w w2)] [⟨3, 1, .sl z (eX (F.l.take N)) t, eX (F.l.take N)⟩, ⟨22, 1, .sl _z2 (eT F.cur (F.l.take N) ++ [BX (if N ≤ F.l.length then GC F N else F.fin)]) _t2, eT F.cur (F.l.take N) ++ [BX (if N ≤ F.l.length then GC F N else F.fin)]⟩] _n _H → AH (.agg [.sl z (eX (F.l.take N)) t, .sl _z2 (eT F.cur (F.l.take N) ++ [BX (if N ≤ F.l.length then GC F N else F.fin)]) _t2]) V := by
   intro _z2 _t2 _n _H _hO
   rw [hV]
   exact Df (Af (_hO.sim0 (A0 _)) (Af (_hO.sim1 (A0 _)) (A0 _)))
  have _hb := Owns.boxF _hO
  dsimp only [AE, A7, AF] at _hb
  subst hR
  clear hV
  
  by_cases hl : N ≤ F.l.length
  ·rw [if_pos hl] at hVV
   clear e9
   have hl' : (N : Int) ≤ F.l.length := by omega
   have htx := haa N (by omega)
   repeat' (first | simp -implicitDefEqProofs [K9, Jo, c51, -getElem?_pos, Ay, Ax, Es, e2, e3, e4, e5, hl', hl, htx, hxl, _hb] | simp (disch := omega) only [A6] | ((with_reducible refine appKS.chk ?_); refine Owns.appS (by assumption) (A0 _) (by simp; omega) (by decide) (fun _z2 _t2 _n _H _hle _hO => ?_); have _hb := Owns.boxF _hO; dsimp only [AE, A7, AF] at _hb) | (with_reducible first | exact AG | refine BB ?_) | ((with_reducible refine EO (fun _g _hg _hO => ?_)); (have _hb := And.intro _hb _hO.boxF); dsimp only [AE, A7, AF] at _hb) | ((with_reducible refine EL (fun _g _hg _hO => ?_))) | (with_reducible first | exact AG | refine Bv ?_ | intro _g _hg | refine A5 ?_ ?_ | intro _hc) | omega)
   exact hVV _ _ _ _ _hO
  ·rw [if_neg hl] at hVV
   have e9 := e9 hl
   have hl' : ¬ (N : Int) ≤ F.l.length := by omega
   repeat' (first | simp -implicitDefEqProofs [K9, Jo, c51, -getElem?_pos, Ay, Ax, Es, e2, e3, e4, e5, e9, hl', hl, hxl, _hb] | simp (disch := omega) only [A6] | ((with_reducible refine appKS.chk ?_); refine Owns.appS (by assumption) (A0 _) (by simp; omega) (by decide) (fun _z2 _t2 _n _H _hle _hO => ?_); have _hb := Owns.boxF _hO; dsimp only [AE, A7, AF] at _hb) | (with_reducible first | exact AG | refine BB ?_) | ((with_reducible refine EO (fun _g _hg _hO => ?_)); (have _hb := And.intro _hb _hO.boxF); dsimp only [AE, A7, AF] at _hb) | ((with_reducible refine EL (fun _g _hg _hO => ?_))) | (with_reducible first | exact AG | refine Bv ?_ | intro _g _hg | refine A5 ?_ ?_ | intro _hc) | omega)
   exact hVV _ _ _ _ _hO
 clear hV hR
 
 refine LoopK.go (fun q st => ∃ (i n' : Nat) (H' : A1) (z : Nat) (t : Tok) (z2 : Nat) (t2 : Tok), i + q = F.l.length ∧ i ≤ N ∧ st = ⟨[(2, .ptr g2 0), (3, .ptr g3 0), (4, .ptr g4 0), (5, .ptr g5 0), (6, aI N), (7, aI (-1)), (8, .bool true), (9, BX F.fin), (10, aI i)], n', H'⟩ ∧ Tp n H g2 g3 g4 g5 xv tv 5 o N w w2 F.cur (F.l.take i) z t z2 t2 n' H') F.l.length ⟨0, _, _, _, _, _, _, by omega, by omega, rfl, _hO⟩ ?_
 clear _hO
 rintro q st ⟨i, n1, H1, z, t, z2, t2, hq, hiN, rfl, _hO⟩ J hJ
 have _hb := Owns.boxF _hO
 dsimp only [AE, A7, AF] at _hb
 have hdl : (F.l.take i).length ≤ 100000 := by rw [List.length_take]; omega
 by_cases hi : i < F.l.length
 ·obtain ⟨x, c, hxc⟩ : ∃ x c, F.l[i]? = some (x, c) := ⟨F.l[i].1, F.l[i].2, List.getElem?_eq_getElem hi⟩
  have hx1 := hea i x c hxc
  have hi' : (i : Int) < F.l.length := by omega
  by_cases hN2 : N ≤ i
  ·have hie : i = N := by omega
   have hN' : (N : Int) ≤ i := by omega
   have htx := haa N (by omega)
   have hl : N ≤ F.l.length := by omega
   subst hie
   repeat' (first | simp -implicitDefEqProofs [G5, Ij, -getElem?_pos, Ay, Ax, hxl, hi', hx1, hN', htx, _hb] | simp (disch := omega) only [A6] | (with_reducible first | exact AG | refine BB ?_) | ((with_reducible refine EO (fun _g _hg _hO => ?_)); (have _hb := And.intro _hb _hO.boxF); dsimp only [AE, A7, AF] at _hb) | ((with_reducible refine EL (fun _g _hg _hO => ?_))) | ((with_reducible refine appKS.chk ?_); first | ((refine Ih ?_ ?_ (fun _x _n _H _hle _hO _hb => ?_)); rotate_left 2; dsimp only [AE, A7, AF] at _hb) | ((refine Im ?_ ?_ (fun _x _n _H _hle _hO _hb => ?_)); rotate_left 2; dsimp only [AE, A7, AF] at _hb)) | (with_reducible first | exact AG | refine Bv ?_ | intro _g _hg | refine A5 ?_ ?_ | intro _hc) | omega)
   exact hfin _ _ _ _ _ _ _ _hO rfl rfl rfl rfl (fun h => absurd hl h)
  ·have hN' : ¬ (N : Int) ≤ i := by omega
   have htk : F.l.take (i + 1) = F.l.take i ++ [(x, c)] := by rw [List.take_add_one, hxc]; rfl
   repeat' (first | simp -implicitDefEqProofs [G5, Ij, BO, Be, Bp, CC, Cs, Ej, G8, HF, -getElem?_pos, Ay, Ax, hxl, hi', hx1, hN', _hb] | simp (disch := omega) only [A6] | (with_reducible first | exact AG | refine BB ?_) | ((with_reducible refine EO (fun _g _hg _hO => ?_)); (have _hb := And.intro _hb _hO.boxF); dsimp only [AE, A7, AF] at _hb) | ((with_reducible refine EL (fun _g _hg _hO => ?_))) | ((with_reducible refine appKS.chk ?_); first | ((refine Ih ?_ ?_ (fun _x _n _H _hle _hO _hb => ?_)); rotate_left 2; dsimp only [AE, A7, AF] at _hb) | ((refine Im ?_ ?_ (fun _x _n _H _hle _hO _hb => ?_)); rotate_left 2; dsimp only [AE, A7, AF] at _hb)) | (with_reducible first | exact AG | refine Bv ?_ | intro _g _hg | refine A5 ?_ ?_ | intro _hc) | omega)
   refine Ys (i := i) (m := N) (l := -1) (s := true) (en := F.fin) (give := true) ⟨rfl, rfl, rfl, rfl, rfl, rfl, rfl, rfl, rfl⟩ rfl rfl hA hxc hdl hFl hgg _hO (fun e n2 H2 z z2 t t2 hp hO2 => ?_)
   obtain ⟨e2, e3, e4, e5, e6, e7, e8, e9, ex⟩ := hp
   repeat' (first | simp -implicitDefEqProofs [Qj, -getElem?_pos, e2, e3, e4, e5, e6, e7, e8, e9, ex] | simp (disch := omega) only [A6] | (with_reducible first | exact AG | refine Bu ?_ | intro _g _hg | refine A5 ?_ ?_ | intro _hc) | omega)
   exact hJ (q - 1) _ (by omega) ⟨i + 1, _, _, _, _, _, _, by omega, by omega, rfl, by rw [htk]; exact hO2⟩
 ·have hie : i = F.l.length := by omega
  have hi' : ¬ (i : Int) < F.l.length := by omega
  have e1 : F.l.take i = F.l := List.take_of_length_le (by omega)
  have e2 : F.l.take N = F.l := List.take_of_length_le (by omega)
  rw [e2] at hfin
  rw [e1] at _hO
  repeat' (first | simp -implicitDefEqProofs [G5, -getElem?_pos, Ay, Ax, hxl, hi', _hb] | simp (disch := omega) only [A6] | (with_reducible first | exact AG | refine BB ?_) | ((with_reducible refine EO (fun _g _hg _hO => ?_)); (have _hb := And.intro _hb _hO.boxF); dsimp only [AE, A7, AF] at _hb) | ((with_reducible refine EL (fun _g _hg _hO => ?_))) | ((with_reducible refine appKS.chk ?_); first | ((refine Ih ?_ ?_ (fun _x _n _H _hle _hO _hb => ?_)); rotate_left 2; dsimp only [AE, A7, AF] at _hb) | ((refine Im ?_ ?_ (fun _x _n _H _hle _hO _hb => ?_)); rotate_left 2; dsimp only [AE, A7, AF] at _hb)) | (with_reducible first | exact AG | refine Bv ?_ | intro _g _hg | refine A5 ?_ ?_ | intro _hc) | omega)
  exact hfin _ _ _ _ _ _ _ _hO rfl rfl rfl rfl (fun _ => rfl)
theorem Ze (k o N : Int) (v : List Int) (p : List St) (F : Fut) (hk : (WM k ∧ Oj k o N F ∧ AW N) ∨ (k = 5 ∧ 0 ≤ N ∧ N ≤ 6000)) (hFl : F.l.length ≤ 6000) : APure Tryz.prog 51 [encS (.mk k o N v p), aG F] (aG (B6 k o N F)) := by
 have hA := R7 F
 have hA0 := hA
 have hV := FZ (B6 k o N F)
 have hcur : (B6 k o N F).cur = F.cur := by
  unfold B6
  rcases hk with ⟨hk, _⟩ | ⟨rfl, _⟩
  ·rcases hk with rfl | rfl | rfl | rfl | rfl | rfl | rfl | rfl <;> simp
  ·simp
 rw [hcur] at hV
 have hl : ∀ (n : Nat) (H : A1) (g2 g3 g4 g5 : Nat), (n ≤ g2 ∧ g2 < g3 ∧ g3 < g4 ∧ g4 < g5) → ∀ (n1 : Nat) (H1 : A1) (z : Nat) (t : Tok) (z2 : Nat) (t2 : Tok), Tp n H g2 g3 g4 g5 (eX F.l) (eT F.cur F.l ++ [BX F.fin]) k o N (BX v) (.sl 5 (AZ p) .ro) F.cur [] z t z2 t2 n1 H1 → ∀ (R : AExit → AS → Prop), R = GD (aG (B6 k o N F)) n H c51.res →
   LoopK (fun Q s => aw Tryz.prog c51_L24 Q s) (CD 0 (D6 (aw Tryz.prog c51_k2 R) R)) ⟨[(2, .ptr g2 0), (3, .ptr g3 0), (4, .ptr g4 0), (5, .ptr g5 0), (6, aI N), (7, aI (-1)), (8, .bool true), (9, BX F.fin), (10, aI 0)], n1, H1⟩ := by
  intro n H g2 g3 g4 g5 hgg n1 H1 z t z2 t2 hO R hR
  rcases hk with ⟨hk, hG, hN⟩ | ⟨rfl, hN0, hN1⟩
  ·exact Y8 k o N hk F hG hFl hN n H (BX v) (.sl 5 (AZ p) .ro) rfl rfl _ _ hA (aG (B6 k o N F)) hV g2 g3 g4 g5 hgg n1 H1 z t z2 t2 hO R hR
  ·obtain ⟨M, rfl⟩ : ∃ M : Nat, N = M := ⟨N.toNat, by omega⟩
   have e1 : (B6 5 o M F).l = F.l.take M ∧ (B6 5 o M F).fin = if M ≤ F.l.length then GC F M else F.fin := by
    unfold B6
    simp [A1e]
   rw [e1.1, e1.2] at hV
   exact ZU o M F hFl (by omega) n H (BX v) (.sl 5 (AZ p) .ro) rfl rfl _ _ hA (aG (B6 5 o M F)) hV g2 g3 g4 g5 hgg n1 H1 z t z2 t2 hO R hR
 rw [FZ F, AN]
 obtain ⟨hxl, htl, haa, hea⟩ := hA0
 have hx0 := haa 0 (by omega)
 have hxe := haa (F.l.length + 1) (by omega)
 rw [PK] at hx0
 rw [Dh] at hxe
 generalize eX F.l = xv at *
 generalize eT F.cur F.l ++ [BX F.fin] = tv at *
 generalize aG (B6 k o N F) = V at *
 refine A8 Tryz.func51 A4t rfl fun n H hH => ?_
 have hl := hl n H
 have _hb : True := trivial
 have _hO : Owns n H [] [⟨3, 1, CV, []⟩] n H := (Owns.start hH).addNil _ _ _
 repeat' (first | simp -implicitDefEqProofs [c51, -getElem?_pos, Ay, Ax, Es, hxl, htl, hx0, hxe, _hb] | simp (disch := omega) only [A6] | (refine Hj (by assumption) (fun _g _hg _hO => ?_); simp only [List.length_cons, List.length_nil, Nat.zero_add] at _hO; have _hb := _hO.boxF; dsimp only [AE, A7, AF] at _hb) | (with_reducible first | exact AG | refine BB ?_) | ((with_reducible refine EO (fun _g _hg _hO => ?_)); (have _hb := And.intro _hb _hO.boxF); dsimp only [AE, A7, AF] at _hb) | ((with_reducible refine EL (fun _g _hg _hO => ?_))) | ((with_reducible refine appKS.chk ?_); first | ((refine Ih ?_ ?_ (fun _x _n _H _hle _hO _hb => ?_)); rotate_left 2; dsimp only [AE, A7, AF] at _hb) | ((refine Im ?_ ?_ (fun _x _n _H _hle _hO _hb => ?_)); rotate_left 2; dsimp only [AE, A7, AF] at _hb)) | (with_reducible first | exact AG | refine Bv ?_ | intro _g _hg | refine A5 ?_ ?_ | intro _hc) | omega)
 refine hl _ _ _ _ ⟨?_, ?_, ?_, ?_⟩ _ _ 0 .nil _ _ (_hO.set0 (by simp; omega) _ _) _ rfl <;> omega
theorem TC : ∀ {l : Ad} {cur fin : AQ}, monL cur l fin → (∀ e ∈ l, e.2.length = cur.length) ∧ fin.length = cur.length
 | [], cur, fin, h => ⟨by simp, h.1.symm⟩
 | (x, c) :: r, cur, fin, h => by
  obtain ⟨h1, h2⟩ := TC h.2
  have h3 : cur.length = c.length := h.1.1
  refine ⟨fun e he => ?_, by omega⟩
  rcases List.mem_cons.1 he with rfl | he
  ·exact h3.symm
  ·rw [h1 e he]; exact h3.symm
theorem A2s {F : Fut} (h : Jk F) (hl : F.cur.length ≤ 100) : fewF F := by
 obtain ⟨h1, h2⟩ := TC h.1
 intro c hc
 unfold J3 at hc
 rcases List.mem_cons.1 hc with rfl | hc
 ·exact hl
 ·rcases List.mem_append.1 hc with hc | hc
  ·obtain ⟨e, he, rfl⟩ := List.mem_map.1 hc
   rw [h1 e he]; exact hl
  ·rw [List.mem_singleton.1 hc, h2]; exact hl
theorem T2 : ∀ Fs : List Fut, (Fs.map (·.cur)).flatten.length = (Fs.map fun F => F.cur.length).sum
 | [] => rfl
 | F :: Fs => by simp [T2 Fs]
theorem ZM : ∀ Fs : List Fut, (BU Fs).cur.length = (Fs.map fun F => F.cur.length).sum
 | [] => rfl
 | F :: Fs => by simp [BU, ZM Fs]
theorem A0w (k o n : Int) (F : Fut) : (B6 k o n F).cur = F.cur := by
 unfold B6
 (repeat' split) <;> first | rfl | (unfold FR; split <;> rfl)
theorem Z0 : ∀ s : St, (AR s).cur.length ≤ Bj s := by
 intro s
 refine St.ind (Q := fun s => (AR s).cur.length ≤ Bj s) ?_ s
 intro k o n v p ih
 have hp : ((BA p).map fun F => F.cur.length).sum ≤ CX p := by
  clear k o n v
  induction p with
  | nil => simp [BA, CX]
  | cons q r ihr =>
   have := ih q List.mem_cons_self
   have := ihr fun s hs => ih s (List.mem_cons_of_mem _ hs)
   simp [BA, CX]; omega
 rw [AR, Bj]
 unfold DZ
 split
 ·simp [EK]
 split
 ·simp [EK]
 split
 ·rw [ZM]; omega
 split
 ·show (Dc (BA p)).cur.length ≤ _
  unfold Dc
  dsimp only
  rw [T2]; omega
 split
 ·rename_i F e
  rw [e] at hp
  rw [A0w]; simp at hp; omega
 ·rename_i F G e
  rw [e] at hp
  simp at hp
  split <;> simp <;> omega
 ·simp
theorem Vl {s : St} (h : Bj s ≤ 60) : fewF (AR s) := A2s (Rk s) (by have := Z0 s; omega)
section
variable {n0 n : Nat} {H0 H : A1} {bs : List (Nat × AObj)} {os : List OwnR} {d : Option Nat} {e : AJ} {K : AS → Prop} {x : AV} {l m m' : List AV} {el sz by_ : Nat} {t : Tok}
theorem Owns.appZ (h : Owns n0 H0 bs (⟨el, sz, x, l⟩ :: os) n H) (hs : AK m m') (hl : l.length + m.length ≤ 1000000) (hby : by_ ≤ 100)
  (hk : ∀ z' t' n' H', n ≤ n' → Owns n0 H0 bs (⟨el, sz, .sl z' (l ++ m') t', l ++ m'⟩ :: os) n' H' → K ⟨AC e d (.sl z' (l ++ m') t'), n', H'⟩) : appKS el sz by_ d K ⟨e, n, H⟩ x (.sl sz m t) := by
 refine h.app (.inl rfl) hs (Nat.le_trans (Nat.mul_le_mul hl hby) (by decide)) (Nat.le_trans hl (by simp [maxLen])) fun x' n' H' hle hO _ => ?_
 obtain ⟨z', t', h1, _⟩ := hO.len0
 dsimp only at h1
 subst h1
 exact hk _ _ n' H' hle hO
end
theorem A0k (k o n : Int) (v : List Int) (p : List St) (N : NodeOk k o n v p) (h1 : k ≠ 1) (h2 : k ≠ 2) (h3 : k ≠ 12) (h4 : k ≠ 13) (h5 : k ≠ 14) (h6 : k ≠ 15) (h7 : k ≠ 16) (F : Fut) (hFl : F.l.length ≤ 6000) (hF : It F) : (WM k ∧ Oj k o n F ∧ AW n) ∨ (k = 5 ∧ 0 ≤ n ∧ n ≤ 6000) := by
 obtain ⟨k1, k2, _, _, _, _, _, _, hfn, hcn, _, hnum, hnon, _⟩ := N
 rcases (by omega : k = 3 ∨ k = 4 ∨ k = 5 ∨ k = 6 ∨ k = 7 ∨ k = 8 ∨ k = 9 ∨ k = 10 ∨ k = 11) with rfl | rfl | rfl | rfl | rfl | rfl | rfl | rfl | rfl
 ·have a := hfn (by decide)
  have b := hnum (by decide)
  simp [Io, Iv, Cj] at b
  have c : 1 ≤ o ∧ o ≤ 6 := by omega
  have d : AW n := ⟨by split at b <;> omega, b.2⟩
  exact .inl ⟨.inl rfl, A51 o n F c d (fun h => by rw [if_pos h] at b; omega) hF, d⟩
 ·have a := hcn (by decide)
  have b := hnum (by decide)
  simp [Io, Iv, Cj] at b
  have d : AW n := ⟨by split at b <;> omega, b.2⟩
  exact .inl ⟨.inr (.inl rfl), A5c o n F a d (fun h => by rw [if_pos h] at b; omega) hF, d⟩
 ·have b := hnum (by decide)
  simp [Io, Iv, Cj] at b
  exact .inr ⟨rfl, b.1, by omega⟩
 ·have b := hnum (by decide)
  simp [Io, Iv, Cj] at b
  exact .inl ⟨.inr (.inr (.inl rfl)), A4m o n F b.1, ⟨b.1, by omega⟩⟩
 ·have a := hcn (by decide)
  have b := hnum (by decide)
  simp [Io, Iv, Cj] at b
  have d : AW n := ⟨by split at b <;> omega, b.2⟩
  exact .inl ⟨.inr (.inr (.inr (.inl rfl))), A4h o n F hFl a d (fun h => by rw [if_pos h] at b; omega) hF, d⟩
 ·have a := hcn (by decide)
  have b := hnum (by decide)
  simp [Io, Iv, Cj] at b
  have d : AW n := ⟨by split at b <;> omega, b.2⟩
  exact .inl ⟨.inr (.inr (.inr (.inr (.inl rfl)))), A52 o n F a d (fun h => by rw [if_pos h] at b; omega) hF, d⟩
 ·have a := hfn (by decide)
  have b := hnum (by decide)
  simp [Io, Iv, Cj] at b
  exact .inl ⟨.inr (.inr (.inr (.inr (.inr (.inl rfl))))), A4q o n F (by omega) hF, b⟩
 ·have a := hfn (by decide)
  have b := hnum (by decide)
  simp [Io, Iv, Cj] at b
  exact .inl ⟨.inr (.inr (.inr (.inr (.inr (.inr (.inl rfl)))))), A49 o n F hFl (by omega) b hF, ⟨by omega, by omega⟩⟩
 ·have b := hnon (by decide)
  exact .inl ⟨.inr (.inr (.inr (.inr (.inr (.inr (.inr rfl)))))), A3u o n F, ⟨by omega, by omega⟩⟩
theorem Oz : ∀ p : List St, (BA p).length = p.length
 | [] => rfl
 | s :: r => by simp [BA, Oz r]
theorem A03 {p : List St} {j : Nat} {s : St} (h : p[j]? = some s) : ((BA p).take (j + 1)).map aG = ((BA p).take j).map aG ++ [aG (AR s)] := by
 have e : (BA p)[j]? = some (AR s) := by rw [D5, List.getElem?_map, h]; rfl
 rw [List.take_add_one, e]; simp
theorem A1g {α : Type} {l : List α} (h : l.length = 2) : ∃ a b, l = [a, b] := by
 rcases l with _ | ⟨a, _ | ⟨b, _ | ⟨c, l⟩⟩⟩ <;> simp at h
 exact ⟨a, b, rfl⟩
structure AllC (s : St) : Prop where
 fit : EG s
 ok : T8 s
 sm : smS s
 sz : Bj s ≤ 60
theorem A53 (s : St) : AllC s → APure Tryz.prog 21 [encS s] (aG (AR s)) := by
 refine St.ind (Q := fun s => AllC s → APure Tryz.prog 21 [encS s] (aG (AR s))) ?_ s
 intro k o m v p ih ⟨hfit, hok, hsm, hsz⟩
 have N := Hk hok.1
 have hbnd : (AR (.mk k o m v p)).l.length ≤ 5000 := Nat.le_trans (IN _ hok).1 hsm.1
 have hszp : CX p + 1 ≤ 60 := hsz
 have hsub : ∀ s ∈ p, AllC s := fun s hs => ⟨EF hfit.2.2 s hs, GM hok.2 s hs, Rc hsm.2 s hs, by have := Fz s hs; omega⟩
 have hsl : ∀ s ∈ p, (AR s).l.length ≤ 6000 ∧ fewF (AR s) ∧ It (AR s) := fun s hs => by
  obtain ⟨_, h2, h3, h4⟩ := hsub s hs
  have h5 := IN s h2
  have h6 : Ac s ≤ 5000 := by obtain ⟨k, o, m, v, p⟩ := s; exact h3.1
  exact ⟨by omega, Vl h4, h5.2⟩
 have hFs : FsOk (BA p) := by
  have hpl := EI p
  refine ⟨by rw [Oz]; omega, fun F hF => ?_, fun F hF => ?_⟩
  ·rw [D5] at hF; obtain ⟨s, hs, rfl⟩ := List.mem_map.1 hF; exact (hsl s hs).1
  ·rw [D5] at hF; obtain ⟨s, hs, rfl⟩ := List.mem_map.1 hF; exact (hsl s hs).2.1
 have hleaf := PV k
 have hk2 := N.k2
 by_cases hl : DY k = true
 ·have hk12 : k = 1 ∨ k = 2 := by unfold DY at hl; simpa using hl
  have hlo : Yu k v := by
   rcases hk12 with rfl | rfl
   ·have h1 := hsm.1
    rw [Ac, Ei, if_pos rfl] at h1
    exact .inl ⟨rfl, by omega⟩
   ·obtain ⟨a, b, c, rfl⟩ : ∃ a b c : Int, v = [a, b, c] := by
     have := N.rng rfl
     rcases v with _ | ⟨a, _ | ⟨b, _ | ⟨c, _ | ⟨d, v⟩⟩⟩⟩ <;> simp at this
     exact ⟨a, b, c, rfl⟩
    have hv := N.vals
    simp [B5, Fw] at hv
    have h1 := hsm.1
    rw [Ac, Ei, if_neg (by decide), if_pos rfl] at h1
    refine .inr ⟨rfl, a, b, c, rfl, ?_⟩
    omega
  have hlg := Sh k o m v p hlo
  have e : AR (.mk k o m v p) = EK (if k = 1 then v else E7 v) := by
   rw [AR]; unfold DZ
   rcases hk12 with rfl | rfl <;> simp
  rw [e]
  rw [hl] at hleaf
  have hpe : (AV.sl 5 (AZ p) .ro).one = true := rfl
  unfold aG BX aT at hlg ⊢
  rw [AN] at hlg ⊢
  generalize (RQ (EK (if k = 1 then v else E7 v))).map aI = xv at *
  generalize (J3 (EK (if k = 1 then v else E7 v))).map BX = tv at *
  generalize v.map aI = va at *
  generalize AZ p = ep at *
  
  refine A8 Tryz.func21 A2b rfl fun n H hH => ?_
  repeat' (first | simp -implicitDefEqProofs [c21, -getElem?_pos, splice] | simp (disch := omega) only [A6] | ((with_reducible refine AO 44 ?_); refine' Aa (hleaf) ?_) | ((with_reducible refine AO 45 ?_); refine' Aa (hlg) ?_) | (with_reducible first | exact AG | refine Bu ?_ | intro _g _hg | refine A5 ?_ ?_ | intro _hc) | omega)
  all_goals first | exact A4 _ | (intro q hq; simp (disch := omega) only [upd_ne])
 ·have hl' : DY k = false := by simpa using hl
  rw [hl'] at hleaf
  have hk12 : k ≠ 1 ∧ k ≠ 2 := by unfold DY at hl'; simpa using hl'
  have hpl := Bn p
  have hpl2 := Oz p
  have hplen := EI p
  have heq : AR (.mk k o m v p) = DZ k o m v (BA p) := by rw [AR]
  have hlen2 := fun h => N.two h
  have hlen1 := fun a b c d => N.one hk12.1 hk12.2 a b c d
  -- the parts of a kind that has one, or two
  have hone : ∀ F, BA p = [F] → F.l.length ≤ 6000 ∧ fewF F ∧ It F := fun F h => by
   have : F ∈ BA p := by rw [h]; exact List.mem_cons_self
   rw [D5] at this; obtain ⟨s, hs, rfl⟩ := List.mem_map.1 this; exact hsl s hs
  have htwo : ∀ F G, BA p = [F, G] → (F.l.length ≤ 6000 ∧ fewF F ∧ It F) ∧ (G.l.length ≤ 6000 ∧ fewF G ∧ It G) := fun F G h => by
   have h1 : F ∈ BA p := by rw [h]; exact List.mem_cons_self
   have h2 : G ∈ BA p := by rw [h]; simp
   rw [D5] at h1 h2
   obtain ⟨s, hs, rfl⟩ := List.mem_map.1 h1
   obtain ⟨t, ht, rfl⟩ := List.mem_map.1 h2
   exact ⟨hsl s hs, hsl t ht⟩
  have hl13 : k = 13 → (BU (BA p)).l.length ≤ 20000 := fun h => by
   rw [heq] at hbnd; unfold DZ at hbnd
   rw [if_neg hk12.1, if_neg hk12.2, if_pos h] at hbnd; omega
  have hl14 : k = 14 → (Dc (BA p)).l.length ≤ 20000 := fun h => by
   rw [heq] at hbnd; unfold DZ at hbnd
   rw [if_neg hk12.1, if_neg hk12.2, if_neg (by omega), if_pos h] at hbnd; omega
  have hend : ∀ (n : Nat) (H : A1) (e : AJ) (n1 : Nat) (H1 : A1) (g1 g2 z : Nat) (t : Tok) (ob : AObj), n ≤ g1 → g1 < g2 → Owns n H [(g2, Cq CV CV), (g1, Ah k o m (BX v) (.sl 5 (AZ p) .ro))] [⟨40, 2, .sl z ((BA p).map aG) t, (BA p).map aG⟩] n1 H1 → get e 1 = .ptr g1 0 → get e 2 = .ptr g2 0 → get e 3 = .sl z ((BA p).map aG) t → aw Tryz.prog c21_k6 (GD (aG (AR (.mk k o m v p))) n H c21.res) ⟨e, n1, H1⟩ := by
   intro n H e n1 H1 g1 g2 z t ob hg1 hg2 _hO e1 e2 e3
   rw [heq]
   unfold DZ
   rw [if_neg hk12.1, if_neg hk12.2]
   have _hb := Owns.boxF _hO
   dsimp only [AE, A7, AF] at _hb
   
   by_cases h13 : k = 13
   ·have hc := Wk (BA p) hFs (hl13 h13)
    rw [if_pos h13]
    unfold Qb at hc
    generalize (BA p).map aG = fv at *
    unfold aG BX aT at hc ⊢
    generalize (RQ (BU (BA p))).map aI = xv at *
    generalize (J3 (BU (BA p))).map BX = tv at *
    repeat' (first | simp -implicitDefEqProofs [Fr, c21, -getElem?_pos, splice, e1, e2, e3, h13, _hb] | simp (disch := omega) only [A6] | ((with_reducible refine AO 46 ?_); (refine' CallP.sf ?_ (hc) ?_); (focus first | (with_reducible exact A0 _) | (exact Owns.simC0 (by assumption)) | (exact Owns.simC1 (by assumption)) | (simp [AK, AH, A4, A0]; done))) | (with_reducible first | exact AG | refine BB ?_) | ((with_reducible refine EO (fun _g _hg _hO => ?_)); (have _hb := And.intro _hb _hO.boxF); dsimp only [AE, A7, AF] at _hb) | ((with_reducible refine EL (fun _g _hg _hO => ?_))) | ((with_reducible refine appKS.chk ?_); first | ((refine Ih ?_ ?_ (fun _x _n _H _hle _hO _hb => ?_)); rotate_left 2; dsimp only [AE, A7, AF] at _hb) | ((refine Im ?_ ?_ (fun _x _n _H _hle _hO _hb => ?_)); rotate_left 2; dsimp only [AE, A7, AF] at _hb)) | (with_reducible first | exact AG | refine Bv ?_ | intro _g _hg | refine A5 ?_ ?_ | intro _hc) | omega)
    all_goals exact A4 _
   by_cases h14 : k = 14
   ·have hc := Xj (BA p) hFs (hl14 h14)
    rw [if_neg h13, if_pos h14]
    unfold Qb at hc
    generalize (BA p).map aG = fv at *
    unfold aG BX aT at hc ⊢
    generalize (RQ (Dc (BA p))).map aI = xv at *
    generalize (J3 (Dc (BA p))).map BX = tv at *
    repeat' (first | simp -implicitDefEqProofs [Fr, GX, c21, -getElem?_pos, splice, e1, e2, e3, h13, h14, _hb] | simp (disch := omega) only [A6] | ((with_reducible refine AO 47 ?_); (refine' CallP.sf ?_ (hc) ?_); (focus first | (with_reducible exact A0 _) | (exact Owns.simC0 (by assumption)) | (exact Owns.simC1 (by assumption)) | (simp [AK, AH, A4, A0]; done))) | (with_reducible first | exact AG | refine BB ?_) | ((with_reducible refine EO (fun _g _hg _hO => ?_)); (have _hb := And.intro _hb _hO.boxF); dsimp only [AE, A7, AF] at _hb) | ((with_reducible refine EL (fun _g _hg _hO => ?_))) | ((with_reducible refine appKS.chk ?_); first | ((refine Ih ?_ ?_ (fun _x _n _H _hle _hO _hb => ?_)); rotate_left 2; dsimp only [AE, A7, AF] at _hb) | ((refine Im ?_ ?_ (fun _x _n _H _hle _hO _hb => ?_)); rotate_left 2; dsimp only [AE, A7, AF] at _hb)) | (with_reducible first | exact AG | refine Bv ?_ | intro _g _hg | refine A5 ?_ ?_ | intro _hc) | omega)
    all_goals exact A4 _
   rw [if_neg h13, if_neg h14]
   by_cases h15 : k = 15 ∨ k = 16
   ·obtain ⟨F, G, hFG⟩ : ∃ F G, BA p = [F, G] := by
     have := hlen2 h15
     rw [← hpl2] at this
     exact A1g this
    obtain ⟨⟨f1, f2, f3⟩, ⟨g1', g2', g3'⟩⟩ := htwo F G hFG
    rw [hFG] at e3 _hO _hb ⊢
    simp only [List.map_cons, List.map_nil] at e3 _hO _hb
    rcases h15 with h15 | h16
    ·have hof := N.fn (by subst h15; rfl)
     have hc := Zi o (by omega) F G f1 g1' f2 g2' f3 g3'
     dsimp only
     rw [if_pos h15]
     change APure _ _ _ (aG ⟨F.cur ++ G.cur, (De (CH o) F.fin G.fin F.l G.cur G.l).1, (De (CH o) F.fin G.fin F.l G.cur G.l).2⟩) at hc
     generalize (⟨F.cur ++ G.cur, (De (CH o) F.fin G.fin F.l G.cur G.l).1, (De (CH o) F.fin G.fin F.l G.cur G.l).2⟩ : Fut) = R0 at *
     unfold aG BX aT at hc e3 _hO _hb ⊢
     generalize (RQ R0).map aI = xv at *
     generalize (J3 R0).map BX = tv at *
     generalize (RQ F).map aI = xa at *
     generalize (J3 F).map BX = ta at *
     generalize (RQ G).map aI = xb at *
     generalize (J3 G).map BX = tb at *
     repeat' (first | simp -implicitDefEqProofs [Fr, GX, IA, c21, -getElem?_pos, splice, e1, e2, e3, h15, _hb] | simp (disch := omega) only [A6] | ((with_reducible refine AO 48 ?_); (refine' CallP.sf ?_ (hc) ?_); (focus first | (with_reducible exact A0 _) | (exact Owns.simC0 (by assumption)) | (exact Owns.simC1 (by assumption)) | (simp [AK, AH, A4, A0]; done))) | (with_reducible first | exact AG | refine BB ?_) | ((with_reducible refine EO (fun _g _hg _hO => ?_)); (have _hb := And.intro _hb _hO.boxF); dsimp only [AE, A7, AF] at _hb) | ((with_reducible refine EL (fun _g _hg _hO => ?_))) | ((with_reducible refine appKS.chk ?_); first | ((refine Ih ?_ ?_ (fun _x _n _H _hle _hO _hb => ?_)); rotate_left 2; dsimp only [AE, A7, AF] at _hb) | ((refine Im ?_ ?_ (fun _x _n _H _hle _hO _hb => ?_)); rotate_left 2; dsimp only [AE, A7, AF] at _hb)) | (with_reducible first | exact AG | refine Bv ?_ | intro _g _hg | refine A5 ?_ ?_ | intro _hc) | omega)
     all_goals exact A4 _
    ·have hc := Zc F G f1 g1' f2 g2'
     dsimp only
     rw [if_neg (by omega)]
     change APure _ _ _ (aG ⟨F.cur ++ G.cur, Bf F.fin G.fin F.l G.l, F.fin ++ G.fin⟩) at hc
     generalize (⟨F.cur ++ G.cur, Bf F.fin G.fin F.l G.l, F.fin ++ G.fin⟩ : Fut) = R0 at *
     unfold aG BX aT at hc e3 _hO _hb ⊢
     generalize (RQ R0).map aI = xv at *
     generalize (J3 R0).map BX = tv at *
     generalize (RQ F).map aI = xa at *
     generalize (J3 F).map BX = ta at *
     generalize (RQ G).map aI = xb at *
     generalize (J3 G).map BX = tb at *
     repeat' (first | simp -implicitDefEqProofs [Fr, GX, IA, Jj, c21, -getElem?_pos, splice, e1, e2, e3, h16, _hb] | simp (disch := omega) only [A6] | ((with_reducible refine AO 49 ?_); (refine' CallP.sf ?_ (hc) ?_); (focus first | (with_reducible exact A0 _) | (exact Owns.simC0 (by assumption)) | (exact Owns.simC1 (by assumption)) | (simp [AK, AH, A4, A0]; done))) | (with_reducible first | exact AG | refine BB ?_) | ((with_reducible refine EO (fun _g _hg _hO => ?_)); (have _hb := And.intro _hb _hO.boxF); dsimp only [AE, A7, AF] at _hb) | ((with_reducible refine EL (fun _g _hg _hO => ?_))) | ((with_reducible refine appKS.chk ?_); first | ((refine Ih ?_ ?_ (fun _x _n _H _hle _hO _hb => ?_)); rotate_left 2; dsimp only [AE, A7, AF] at _hb) | ((refine Im ?_ ?_ (fun _x _n _H _hle _hO _hb => ?_)); rotate_left 2; dsimp only [AE, A7, AF] at _hb)) | (with_reducible first | exact AG | refine Bv ?_ | intro _g _hg | refine A5 ?_ ?_ | intro _hc) | omega)
     all_goals exact A4 _
   ·obtain ⟨F, hF1⟩ : ∃ F, BA p = [F] := by
     have := hlen1 h13 h14 (fun h => h15 (.inl h)) (fun h => h15 (.inr h))
     rw [← hpl2] at this
     exact List.length_eq_one_iff.1 this
    obtain ⟨f1, f2, f3⟩ := hone F hF1
    have h15' : k ≠ 15 := fun h => h15 (.inl h)
    have h16' : k ≠ 16 := fun h => h15 (.inr h)
    rw [hF1] at e3 _hO _hb ⊢
    simp only [List.map_cons, List.map_nil] at e3 _hO _hb
    dsimp only
    by_cases h12 : k = 12
    ·subst h12
     have hm := N.num (by decide)
     simp [Io, Iv, Cj] at hm
     obtain ⟨M, rfl⟩ : ∃ M : Nat, m = M := ⟨m.toNat, by omega⟩
     have hc := UP M (by omega) F f1
     have e12 : B6 12 o M F = FR M F := by unfold B6; simp
     rw [e12]
     generalize FR M F = R0 at *
     unfold aG BX aT at hc e3 _hO _hb ⊢
     generalize (RQ R0).map aI = xv at *
     generalize (J3 R0).map BX = tv at *
     generalize (RQ F).map aI = xa at *
     generalize (J3 F).map BX = ta at *
     repeat' (first | simp -implicitDefEqProofs [Fr, GX, IA, Jj, QB, c21, -getElem?_pos, splice, e1, e2, e3, _hb] | simp (disch := omega) only [A6] | ((with_reducible refine AO 50 ?_); (refine' CallP.sf ?_ (hc) ?_); (focus first | (with_reducible exact A0 _) | (exact Owns.simC0 (by assumption)) | (exact Owns.simC1 (by assumption)) | (simp [AK, AH, A4, A0]; done))) | (with_reducible first | exact AG | refine BB ?_) | ((with_reducible refine EO (fun _g _hg _hO => ?_)); (have _hb := And.intro _hb _hO.boxF); dsimp only [AE, A7, AF] at _hb) | ((with_reducible refine EL (fun _g _hg _hO => ?_))) | ((with_reducible refine appKS.chk ?_); first | ((refine Ih ?_ ?_ (fun _x _n _H _hle _hO _hb => ?_)); rotate_left 2; dsimp only [AE, A7, AF] at _hb) | ((refine Im ?_ ?_ (fun _x _n _H _hle _hO _hb => ?_)); rotate_left 2; dsimp only [AE, A7, AF] at _hb)) | (with_reducible first | exact AG | refine Bv ?_ | intro _g _hg | refine A5 ?_ ?_ | intro _hc) | omega)
     all_goals exact A4 _
    ·have hc := Ze k o m v p F (A0k k o m v p N hk12.1 hk12.2 h12 h13 h14 h15' h16' F f1 f3) f1
     generalize B6 k o m F = R0 at *
     rw [AN] at hc
     unfold aG BX aT at hc e3 _hO _hb ⊢
     generalize (RQ R0).map aI = xv at *
     generalize (J3 R0).map BX = tv at *
     generalize (RQ F).map aI = xa at *
     generalize (J3 F).map BX = ta at *
     repeat' (first | simp -implicitDefEqProofs [Fr, GX, IA, Jj, QB, XX, c21, -getElem?_pos, splice, e1, e2, e3, h12, h13, h14, h15', h16', _hb] | simp (disch := omega) only [A6] | ((with_reducible refine AO 51 ?_); (refine' CallP.sf ?_ (hc) ?_); (focus first | (with_reducible exact A0 _) | (exact Owns.simC0 (by assumption)) | (exact Owns.simC1 (by assumption)) | (simp [AK, AH, A4, A0]; done))) | (with_reducible first | exact AG | refine BB ?_) | ((with_reducible refine EO (fun _g _hg _hO => ?_)); (have _hb := And.intro _hb _hO.boxF); dsimp only [AE, A7, AF] at _hb) | ((with_reducible refine EL (fun _g _hg _hO => ?_))) | ((with_reducible refine appKS.chk ?_); first | ((refine Ih ?_ ?_ (fun _x _n _H _hle _hO _hb => ?_)); rotate_left 2; dsimp only [AE, A7, AF] at _hb) | ((refine Im ?_ ?_ (fun _x _n _H _hle _hO _hb => ?_)); rotate_left 2; dsimp only [AE, A7, AF] at _hb)) | (with_reducible first | exact AG | refine Bv ?_ | intro _g _hg | refine A5 ?_ ?_ | intro _hc) | omega)
     all_goals exact A4 _
  have hfl : ∀ j, j ≤ p.length → (((BA p).take j).map aG).length = j := fun j hj => by simp [hpl2]; omega
  have hall : ((BA p).take p.length).map aG = (BA p).map aG := by rw [List.take_of_length_le (by omega)]
  have hat := fun (j : Nat) (s : St) (h : p[j]? = some s) => A03 h
  generalize hV : aG (AR (.mk k o m v p)) = V at *
  rw [AN]
  
  refine A8 Tryz.func21 A2b rfl fun n H hH => ?_
  have hend := hend n H
  have _hb : True := trivial
  have _hO : Owns n H [] [⟨40, 2, CV, []⟩] n H := (Owns.start hH).addNil _ _ _
  repeat' (first | simp -implicitDefEqProofs [c21, TZ, -getElem?_pos, splice, _hb] | simp (disch := omega) only [A6] | ((with_reducible refine AO 44 ?_); (refine' CallP.sf ?_ (hleaf) ?_); (focus first | (with_reducible exact A0 _) | (exact Owns.simC0 (by assumption)) | (exact Owns.simC1 (by assumption)) | (simp [AK, AH, A4, A0]; done))) | (with_reducible first | exact AG | refine BB ?_) | ((with_reducible refine EO (fun _g _hg _hO => ?_)); (have _hb := And.intro _hb _hO.boxF); dsimp only [AE, A7, AF] at _hb) | ((with_reducible refine EL (fun _g _hg _hO => ?_))) | ((with_reducible refine appKS.chk ?_); first | ((refine Ih ?_ ?_ (fun _x _n _H _hle _hO _hb => ?_)); rotate_left 2; dsimp only [AE, A7, AF] at _hb) | ((refine Im ?_ ?_ (fun _x _n _H _hle _hO _hb => ?_)); rotate_left 2; dsimp only [AE, A7, AF] at _hb)) | (with_reducible first | exact AG | refine Bv ?_ | intro _g _hg | refine A5 ?_ ?_ | intro _hc) | omega)
  rename_i g1 hg1 hO1 hb1
  generalize hg2 : _g = g2 at *
  clear hO1 hb1 _hb
  refine LoopK.go (fun q st => ∃ (j n' : Nat) (H' : A1) (z : Nat) (t : Tok), j + q = p.length ∧ st = ⟨[(1, .ptr g1 0), (2, .ptr g2 0), (3, .sl z (((BA p).take j).map aG) t), (4, aI j)], n', H'⟩ ∧ Owns n H [(g2, Cq CV CV), (g1, Ah k o m (BX v) (.sl 5 (AZ p) .ro))] [⟨40, 2, .sl z (((BA p).take j).map aG) t, ((BA p).take j).map aG⟩] n' H') p.length ⟨0, _, _, _, _, by omega, rfl, _hO⟩ ?_
  clear _hO
  rintro q st ⟨j, n1, H1, z, t, hq, rfl, _hO⟩ J hJ
  have _hb := Owns.boxF _hO
  dsimp only [AE, A7, AF] at _hb
  have hle := _hO.le
  have hjl := hfl j (by omega)
  by_cases hj : j < p.length
  ·obtain ⟨s, hs⟩ : ∃ s, p[j]? = some s := ⟨_, List.getElem?_eq_getElem hj⟩
   have hsm := List.mem_of_getElem? hs
   have hrec := ih s hsm (hsub s hsm)
   have hse := GN hs
   have hj' : (j : Int) < p.length := by omega
   have hnx := hat j s hs
   obtain ⟨k', o', m', v', p'⟩ := s
   rw [AN] at hrec hse
   generalize AR (.mk k' o' m' v' p') = F at *
   generalize ((BA p).take j).map aG = fv at *
   unfold aG BX aT at hrec
   repeat' (first | simp -implicitDefEqProofs [Q3, WS, WZ, -getElem?_pos, splice, hj', hpl, hse, _hb] | simp (disch := omega) only [A6] | ((with_reducible refine appKS.chk ?_); refine Owns.appZ (by assumption) (A0 _) (by simp; omega) (by decide) (fun _z _t _n _H _hle _hO => ?_); have _hb := Owns.boxF _hO; dsimp only [AE, A7, AF] at _hb) | ((with_reducible refine AO 21 ?_); (refine' CallP.sf ?_ (hrec) ?_); (focus first | (with_reducible exact A0 _) | (exact Owns.simC0 (by assumption)) | (exact Owns.simC1 (by assumption)) | (simp [AK, AH, A4, A0]; done))) | (with_reducible first | exact AG | refine BB ?_) | ((with_reducible refine EO (fun _g _hg _hO => ?_)); (have _hb := And.intro _hb _hO.boxF); dsimp only [AE, A7, AF] at _hb) | ((with_reducible refine EL (fun _g _hg _hO => ?_))) | (with_reducible first | exact AG | refine Bv ?_ | intro _g _hg | refine A5 ?_ ?_ | intro _hc) | omega)
   exact hJ (q - 1) _ (by omega) ⟨j + 1, _, _, _, _, by omega, by rw [hnx]; rfl, by rw [hnx]; exact _hO⟩
  ·have hje : j = p.length := by omega
   have hj' : ¬ (j : Int) < p.length := by omega
   subst hje
   rw [hall] at _hO ⊢
   clear _hb
   have _hb := Owns.boxF _hO
   dsimp only [AE, A7, AF] at _hb
   generalize (BA p).map aG = fv at *
   repeat' (first | simp -implicitDefEqProofs [Q3, -getElem?_pos, splice, hj', hpl, _hb] | simp (disch := omega) only [A6] | (with_reducible first | exact AG | refine BB ?_) | ((with_reducible refine EO (fun _g _hg _hO => ?_)); (have _hb := And.intro _hb _hO.boxF); dsimp only [AE, A7, AF] at _hb) | ((with_reducible refine EL (fun _g _hg _hO => ?_))) | ((with_reducible refine appKS.chk ?_); first | ((refine Ih ?_ ?_ (fun _x _n _H _hle _hO _hb => ?_)); rotate_left 2; dsimp only [AE, A7, AF] at _hb) | ((refine Im ?_ ?_ (fun _x _n _H _hle _hO _hb => ?_)); rotate_left 2; dsimp only [AE, A7, AF] at _hb)) | (with_reducible first | exact AG | refine Bv ?_ | intro _g _hg | refine A5 ?_ ?_ | intro _hc) | omega)
   exact hend _ _ _ g1 g2 _ _ (.cells 0 []) (by omega) (by omega) _hO rfl rfl rfl
def sF : List UInt8 := [112, 108, 117, 115, 32, 109, 105, 110, 117, 115, 32, 116, 105, 109, 101, 115, 32, 109, 97, 120, 32, 109, 105, 110, 32, 109, 111, 100]
def sC : List UInt8 := [98, 101, 108, 111, 119, 32, 97, 98, 111, 118, 101, 32, 100, 105, 118, 105, 115, 105, 98, 108, 101]
def kn0 : Jq := [(139, [.str sF], .sl 1 ((Lib.fields sF).map .str) .ro), (139, [.str sC], .sl 1 ((Lib.fields sC).map .str) .ro),
 (120, [.int .i64 0], .str (Lib.itoa 0)), (120, [.int .i64 1], .str (Lib.itoa 1)), (120, [.int .i64 2], .str (Lib.itoa 2)), (120, [.int .i64 3], .str (Lib.itoa 3)), (120, [.int .i64 100], .str (Lib.itoa 100)),
 (83, [aSs [[48], [51], [49]], .str [44]], .str (Lib.join [[48], [51], [49]] [44]))]
theorem UH : VG Tryz.prog kn0 :=
 ⟨Sp sF (by decide) (by decide) (by decide +kernel), by decide +kernel, Sp sC (by decide) (by decide) (by decide +kernel), by decide +kernel,
 Oe 0 (by decide), rfl, Oe 1 (by decide), rfl, Oe 2 (by decide), rfl, Oe 3 (by decide), rfl, Oe 100 (by decide), rfl,
 A3i [[48], [51], [49]] [44] (by decide) (by decide), rfl, trivial⟩
def xp0 (P : Program) (T : Jq) : XP := ⟨P, DF, fun _ => false, fun e => Nat.beq e 25 || Nat.beq e 3, Zx T, fun f => Nat.beq f 61 || Nat.beq f 18⟩
def txq : List UInt8 := [116, 97, 107, 101, 40, 50, 44, 102, 105, 108, 116, 101, 114, 40, 100, 105, 118, 105, 115, 105, 98, 108, 101, 32, 51, 44, 114, 97, 110, 103, 101, 40, 49, 44, 49, 48, 48, 44, 49, 41, 41, 41]
def s0q : AV := .agg [.int .i64 5, .int .i64 0, .int .i64 2, .sl 0 [] .nil, .sl 5 [.agg [.int .i64 4, .int .i64 3, .int .i64 3, .sl 0 [] .nil, .sl 5 [.agg [.int .i64 2, .int .i64 0, .int .i64 0, .sl 1 [.int .i64 1, .int .i64 100, .int .i64 1] .ro, .sl 0 [] .nil]] .ro]] .ro]
def f0q : AV := .agg [.int .i64 0, .int .i64 0]
theorem pq : APure Tryz.prog 25 [.str txq] (.tup [s0q, f0q]) := run_pure (X := xp0 Tryz.prog kn0) (OJ UH) 3000 (by kernel_rfl) rfl rfl
theorem rq : APure Tryz.prog 18 [s0q, .int .i64 5] (.tup [.sl 1 [.int .i64 3, .int .i64 6] .ro, .sl 1 [.int .i64 6] .ro, .bool true, f0q]) := run_pure (X := xp0 Tryz.prog kn0) (OJ UH) 3000 (by kernel_rfl) rfl rfl
def kn1 : Jq := (25, [.str txq], .tup [s0q, f0q]) :: (18, [s0q, .int .i64 5], .tup [.sl 1 [.int .i64 3, .int .i64 6] .ro, .sl 1 [.int .i64 6] .ro, .bool true, f0q]) :: kn0
theorem A3c : VG Tryz.prog kn1 := ⟨pq, rfl, rq, rfl, UH⟩
theorem U1 : APure Tryz.prog 16 [] (.bool true) := run_pure (X := xp0 Tryz.prog kn1) (OJ A3c) 3000 (by kernel_rfl) rfl rfl
open Go.ChangeShapes Go.WideShapes Go.ChangeAt Go.RowKit Go.Deep
theorem A6h : ownKnob Tryz.prog.godebug = none := by kernel_rfl
theorem A55 : laidOutB Tryz.prog = true := by kernel_rfl
theorem ZH {w : World} {v : Value} {x : AV} (h : RepL (U9 w) [v] [x]) : Rep (U9 w) v x := by cases h; assumption
abbrev laidL : List (String × DataW Unit) := Rows.streamsBoundMatchesSpecRow.laid
abbrev A5k : String := Rows.streamsBoundMatchesSpecRow.laid[2].1
abbrev A4o : String := Rows.streamsBoundMatchesSpecRow.laid[6].1
theorem Zj {P : Program} {w : World} {name : String} {d : DataW Unit} {k : IntKind} {zs : List Int} {g t e : Nat} {n : Nat} (h : Lib.VarReads P w name d) (hd : d = Lib.tabData k zs) (hg : P.globalNamed name = some g) (hty : (P.globals[g]?).map (·.type) = some t)
  (ht : P.underlying t = some (.array n e)) (he : P.underlying e = some (.int k)) (hce : P.cellsOf e = 1) (hct : P.cellsOf t = n) : ∃ t fz, w.heap[g]? = some (.cells (zs.map fun z => Value.int k z).toArray t fz) := by
 subst hd
 obtain ⟨g', t', cs, fuel, p, hg', ht', hvar, htr⟩ := h
 obtain rfl := Option.some.inj (hg.symm.trans hg')
 obtain rfl := Option.some.inj (hty.symm.trans ht')
 have hc := Lib.cells_of_tab ht he hce hct htr
 unfold World.var? at hvar
 rw [hg, Option.bind_some] at hvar
 split at hvar
 ·rename_i cs' t2 fz hh
  injection hvar with hvar
  subst hvar
  exact ⟨t2, fz, by rw [hh, ← hc]⟩
 ·cases hvar
theorem ZC {P : Program} {w : World} {name nm : String} {d0 d : DataW Unit} {g t : Nat} {ms : Array (String × TypeId)} (h : Lib.VarReads P w name d0) (hd : d0 = .iface nm d) (hg : P.globalNamed name = some g) (hty : (P.globals[g]?).map (·.type) = some t)
  (ht : P.underlying t = some (.interface ms)) : ∃ v, w.cell? ⟨g, 0, none⟩ = some v ∧ (v = .nilIface ∨ ∃ te pe, v = .iface te pe) := by
 subst hd
 obtain ⟨g', t', cs, fuel, p, hg', ht', hvar, htr⟩ := h
 obtain rfl := Option.some.inj (hg.symm.trans hg')
 obtain rfl := Option.some.inj (hty.symm.trans ht')
 obtain ⟨_, u, v, hcs, _, _⟩ := iface_of_trod ht htr
 unfold World.var? at hvar
 rw [hg, Option.bind_some] at hvar
 split at hvar
 ·rename_i cs' t2 fz hh
  injection hvar with hvar
  subst hvar
  refine ⟨.iface u v, ?_, .inr ⟨u, v, rfl⟩⟩
  simp [World.cell?, hh, hcs]
  rw [← Array.getElem?_toList, hcs]; rfl
 ·cases hvar
theorem A1c {w : World} (h : laidMetH Tryz.prog laidL w) : Laid w := by
 rw [MakeChecks.laidMetH_plain _ _ _ (by kernel_rfl)] at h
 exact ⟨Zj (Lib.laidMet.reads h (n := A4o) (d := Rows.streamsBoundMatchesSpecRow.laid[6].2) (List.getElem_mem (by decide : 6 < laidL.length))) (by kernel_rfl) (by kernel_rfl) (by kernel_rfl) Tryz.underlying145 Tryz.underlying5 (by kernel_rfl) (by kernel_rfl),
  Zj (Lib.laidMet.reads h (n := A5k) (d := Rows.streamsBoundMatchesSpecRow.laid[2].2) (List.getElem_mem (by decide : 2 < laidL.length))) (by kernel_rfl) (by kernel_rfl) (by kernel_rfl) Tryz.underlying184 Tryz.underlying160 (by kernel_rfl) (by kernel_rfl),
  ZC (Lib.laidMet.reads h (n := Rows.streamsBoundMatchesSpecRow.laid[4].1) (d := Rows.streamsBoundMatchesSpecRow.laid[4].2) (List.getElem_mem (by decide : 4 < laidL.length))) (by rfl) (by kernel_rfl) (by kernel_rfl) Tryz.underlying132,
  ZC (Lib.laidMet.reads h (n := Rows.streamsBoundMatchesSpecRow.laid[3].1) (d := Rows.streamsBoundMatchesSpecRow.laid[3].2) (List.getElem_mem (by decide : 3 < laidL.length))) (by rfl) (by kernel_rfl) (by kernel_rfl) Tryz.underlying132⟩
noncomputable def Kb (os : Os) : World := World.laidAll Tryz.prog os laidL
instance : Inhabited St := ⟨.mk 0 0 0 [] []⟩
section
variable {H : Type} {enc : TypeId × Value → H} {w : World} {base : Nat} {spare : Nat → Bool} {held : Bool} {fuel : Nat}
theorem A3m : Tryz.prog.cellsOf 3 = 1 := by kernel_rfl
theorem Yv : Tryz.prog.cellsOf 25 = 5 := by kernel_rfl
theorem A2g : Tryz.prog.bytesOf 3 = 8 := by kernel_rfl
theorem A3f : Tryz.prog.bytesOf 25 = 72 := by kernel_rfl
theorem Zs : Tryz.prog.underlying 25 = some (.struct (Tryz.prog.fieldsOf 25)) := by kernel_rfl
theorem fsS : (Tryz.prog.fieldsOf 25).toList.map (fun f => (f.type, f.offset, Tryz.prog.cellsOf f.type)) = [(3, 0, 1), (3, 1, 1), (3, 2, 1), (22, 3, 1), (23, 4, 1)] := by kernel_rfl
theorem Ia {α : Type} {l : List α} (h : l.length = 5) : ∃ a0 a1 a2 a3 a4, l = [a0, a1, a2, a3, a4] := by
 rcases l with _ | ⟨a0, _ | ⟨a1, _ | ⟨a2, _ | ⟨a3, _ | ⟨a4, _ | ⟨a5, l⟩⟩⟩⟩⟩⟩
 ·simp at h
 ·simp at h
 ·simp at h
 ·simp at h
 ·simp at h
 ·exact ⟨a0, a1, a2, a3, a4, rfl⟩
 ·simp at h
theorem Tu {v : Value} {x : DataW H × List MemPlace} (h : DataW.trod enc Tryz.prog w base spare held fuel 22 [v] = some x) : ∃ l : List Int, RepL (U9 w) [v] [BX l] ∧ ((∀ y ∈ x.1.weights Tryz.prog 22, y ≤ reachBytes) → l.length ≤ 140737488355328) := by
 obtain ⟨l, h1, h2, _⟩ := open_list (P := Tryz.prog) aI (fun _ => True) (fun _ => 0) Tryz.underlying22 A3m (by decide) (fun a => ⟨rfl, fun y hy => by simp [AV.cells] at hy; subst hy; rfl⟩) (fun k cs y _ hy => by
  obtain ⟨n, e, _, _⟩ := DataW.trod_int Tryz.underlying3 hy
  subst e
  exact ⟨n, .cons .int .nil, fun _ => trivial, Nat.zero_le _⟩) h
 refine ⟨l, h1, fun hw => ?_⟩
 have := (h2 hw).1
 rw [A2g] at this
 have hr : reachBytes ≤ 140737488355328 := by decide
 omega
theorem Tw {es sp : List (DataW H)} {d : DataW H} (h : d ∈ es) : SizeOf.sizeOf d < SizeOf.sizeOf (DataW.slice es sp) := by
 have := List.sizeOf_lt_of_mem h
 simp only [DataW.slice.sizeOf_spec]; omega
theorem Xl {es : List (DataW H)} {d : DataW H} (h : d ∈ es) : SizeOf.sizeOf d < SizeOf.sizeOf (DataW.agg es) := by
 have := List.sizeOf_lt_of_mem h
 simp only [DataW.agg.sizeOf_spec]; omega
theorem SB {v : Value} {x : DataW H × List MemPlace} (he : ∀ k cs (y : DataW H × List MemPlace), SizeOf.sizeOf y.1 < SizeOf.sizeOf x.1 → DataW.trod enc Tryz.prog w base spare held k 25 cs = some y → ∃ s : St, RepL (U9 w) cs (encS s).cells ∧ ((∀ z ∈ y.1.weights Tryz.prog 25, z ≤ reachBytes) → EG s))
  (h : DataW.trod enc Tryz.prog w base spare held fuel 23 [v] = some x) : ∃ p : List St, Rep (U9 w) v (.sl 5 (AZ p) .ro) ∧ ((∀ z ∈ x.1.weights Tryz.prog 23, z ≤ reachBytes) → p.length ≤ 140737488355328 ∧ Yq p) := by
 obtain ⟨n, k, X, Y, hr, hX, hY⟩ := P8 Tryz.underlying23 Yv (by decide) h
 have hlt : ∀ i, i < n → SizeOf.sizeOf (Y i).1 < SizeOf.sizeOf x.1 := fun i hi => by
  rcases hY with ⟨h0, _⟩ | ⟨sp, h1⟩
  ·omega
  ·rw [h1]; exact Tw (List.mem_map.2 ⟨i, List.mem_range.2 hi, rfl⟩)
 obtain ⟨f, hf⟩ := choose_lt (n := n) (p := fun i (s : St) => RepL (U9 w) (X i) (encS s).cells ∧ ((∀ z ∈ (Y i).1.weights Tryz.prog 25, z ≤ reachBytes) → EG s)) (fun i hi => he k (X i) (Y i) (hlt i hi) (hX i hi).2)
 have hlen : (((List.range n).map f).map encS).length = n := by simp
 have hu : ∀ s : St, (encS s).cells.length = 5 ∧ ∀ y ∈ (encS s).cells, y.one = true := fun s => by
  obtain ⟨k, o, m, v, p⟩ := s
  rw [AN]
  refine ⟨rfl, fun y hy => ?_⟩
  simp only [AV.cells, List.mem_cons, List.not_mem_nil, or_false] at hy
  rcases hy with rfl | rfl | rfl | rfl | rfl <;> rfl
 refine ⟨(List.range n).map f, ?_, fun hw => ?_⟩
 ·rw [JH]
  refine QA hr ?_ hlen (by decide) ?_ ?_
  ·rw [List.map_map]
   exact Qu fun i hi => (hf i hi).1
  ·intro y hy
   obtain ⟨a, _, rfl⟩ := List.mem_map.1 hy
   exact (hu a).1
  ·intro y hy
   obtain ⟨z, hz, hy⟩ := List.mem_flatMap.1 hy
   obtain ⟨a, _, rfl⟩ := List.mem_map.1 hz
   exact (hu a).2 y hy
 ·have key : ∀ p : List St, (∀ s ∈ p, EG s) → Yq p := by
   intro p
   induction p with
   | nil => intro _; trivial
   | cons s r ih => intro h; exact ⟨h s List.mem_cons_self, ih fun y hy => h y (List.mem_cons_of_mem _ hy)⟩
  rcases hY with ⟨h0, h1⟩ | ⟨sp, h1⟩
  ·subst h0; exact ⟨by simp, trivial⟩
  ·rw [h1] at hw
   simp only [DataW.weights, Tryz.underlying23, List.mem_cons, List.mem_append, List.length_map, List.length_range] at hw
   refine ⟨?_, key _ fun s hs => ?_⟩
   ·have := hw _ (.inl rfl)
    rw [A3f] at this
    have hr : reachBytes ≤ 140737488355328 := by decide
    simp; omega
   ·obtain ⟨i, hi, rfl⟩ := List.mem_map.1 hs
    have hi' : i < n := List.mem_range.1 hi
    exact (hf i hi').2 fun y hy => hw y (.inr (.inl (L4 (List.mem_map.2 ⟨i, hi, rfl⟩) hy)))
set_option maxRecDepth 100000 in
theorem RV : ∀ (N : Nat) {fuel : Nat} {cs : List Value} {x : DataW H × List MemPlace}, SizeOf.sizeOf x.1 ≤ N → DataW.trod enc Tryz.prog w base spare held fuel 25 cs = some x → ∃ s : St, RepL (U9 w) cs (encS s).cells ∧ ((∀ z ∈ x.1.weights Tryz.prog 25, z ≤ reachBytes) → EG s) := by
 intro N
 induction N with
 | zero =>
  intro fuel cs x hN h
  obtain ⟨ys, m, _, hx, _⟩ := DataW.trod_struct Zs h
  rw [hx] at hN
  simp at hN
 | succ N ih =>
  intro fuel cs x hN h
  obtain ⟨ys, m, _, hx, hcl, hyl, hf⟩ := DataW.trod_struct Zs h
  have hfs := fsS
  obtain ⟨f0, f1, f2, f3, f4, hq⟩ := Ia (by have := congrArg List.length fsS; simpa using this : (Tryz.prog.fieldsOf 25).toList.length = 5)
  rw [hq] at hfs
  simp only [List.map_cons, List.map_nil, List.cons.injEq, Prod.mk.injEq, and_true] at hfs
  obtain ⟨⟨t0, o0, k0⟩, ⟨t1, o1, k1⟩, ⟨t2, o2, k2⟩, ⟨t3, o3, k3⟩, ⟨t4, o4, k4⟩⟩ := hfs
  have h0 : (Tryz.prog.fieldsOf 25)[0]? = some f0 := by rw [← Array.getElem?_toList, hq]; rfl
  have h1 : (Tryz.prog.fieldsOf 25)[1]? = some f1 := by rw [← Array.getElem?_toList, hq]; rfl
  have h2 : (Tryz.prog.fieldsOf 25)[2]? = some f2 := by rw [← Array.getElem?_toList, hq]; rfl
  have h3 : (Tryz.prog.fieldsOf 25)[3]? = some f3 := by rw [← Array.getElem?_toList, hq]; rfl
  have h4 : (Tryz.prog.fieldsOf 25)[4]? = some f4 := by rw [← Array.getElem?_toList, hq]; rfl
  have hn : (Tryz.prog.fieldsOf 25).size = 5 := by rw [← Array.length_toList, hq]; rfl
  have g0 := hf 0 f0 h0
  rw [k0, o0, t0] at g0
  have g1 := hf 1 f1 h1
  rw [k1, o1, t1] at g1
  have g2 := hf 2 f2 h2
  rw [k2, o2, t2] at g2
  have g3 := hf 3 f3 h3
  rw [k3, o3, t3] at g3
  have g4 := hf 4 f4 h4
  rw [k4, o4, t4] at g4
  rw [hn] at hyl
  obtain ⟨y0, y1, y2, y3, y4, hys⟩ := Ia hyl
  subst hys
  obtain ⟨z0, z1, z2, z3, z4, hz⟩ := Ia (hcl.trans Yv)
  subst hz
  simp only [List.drop, List.take] at g0 g1 g2 g3 g4
  obtain ⟨n0, e0, _, w0⟩ := DataW.trod_int Tryz.underlying3 g0
  simp at e0
  subst e0
  obtain ⟨n1, e1, _, w1⟩ := DataW.trod_int Tryz.underlying3 g1
  simp at e1
  subst e1
  obtain ⟨n2, e2, _, w2⟩ := DataW.trod_int Tryz.underlying3 g2
  simp at e2
  subst e2
  obtain ⟨n3, r3, v3⟩ := Tu g3
  have hy4 : SizeOf.sizeOf y4.1 < SizeOf.sizeOf x.1 := by rw [hx]; exact Xl (by simp)
  obtain ⟨n4, r4, v4⟩ := SB (fun k cs y hy hk => ih (by omega) hk) g4
  refine ⟨.mk n0 n1 n2 n3 n4, ?_, fun hw => ?_⟩
  ·rw [AN]
   exact .cons .int (.cons .int (.cons .int (.cons (ZH r3) (.cons r4 .nil))))
  ·rw [hx] at hw
   simp only [DataW.weights, Zs, hq, List.map_cons, List.map_nil, DataW.weightsEach, t0, t1, t2, t3, t4, List.mem_append] at hw
   obtain ⟨a1, a2⟩ := v4 fun z hz => hw z (by simp [hz])
   exact ⟨v3 fun z hz => hw z (by simp [hz]), a1, a2⟩
end
set_option maxRecDepth 100000 in
theorem YM {H : Type} {enc : TypeId × Value → H} {w : World} {base b0 : Nat} {spare : Nat → Bool} {held : Bool} {r : Reach} {v : Value} {fuel : Nat} {x : DataW H × List MemPlace}
  (hv : Value.okWide Tryz.prog w r b0 25 v) (hf : DataW.trod enc Tryz.prog w base spare held fuel 25 v.cells.toList = some x) : ∃ s : St, Rep (U9 w) v (encS s) ∧ ((∀ z ∈ x.1.weights Tryz.prog 25, z ≤ reachBytes) → EG s) := by
 obtain ⟨cs, rfl, hsz⟩ := okWide_struct Zs hv
 obtain ⟨s, hs, hw⟩ := RV _ (Nat.le_refl _) hf
 refine ⟨s, ?_, hw⟩
 obtain ⟨k, o, m, l, p⟩ := s
 rw [AN] at hs ⊢
 have h2 : Rep (U9 w) (.agg cs.toList.toArray) (.agg [aI k, aI o, aI m, BX l, .sl 5 (AZ p) .ro]) := .agg hs (by intro y hy; simp only [List.mem_cons, List.not_mem_nil, or_false] at hy; rcases hy with rfl | rfl | rfl | rfl | rfl <;> rfl)
 simpa only [Array.toArray_toList] using h2
end Go.Proofs.YtjdccdelcnmocaaGreatDoor
