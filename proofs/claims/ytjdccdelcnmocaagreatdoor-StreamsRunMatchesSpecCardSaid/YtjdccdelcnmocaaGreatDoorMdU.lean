/- Streams: what the reference gives: chains; no condition. -/
import Derived.Test.YtjdccdelcnmocaaGreatDoorMgK
import Derived.Test.YtjdccdelcnmocaaGreatDoorMdT
import Derived.Test.YtjdccdelcnmocaaGreatDoorAdG
set_option linter.all false
set_option maxHeartbeats 4000000
namespace Go.Proofs.YtjdccdelcnmocaaGreatDoor
def PM (Fs : List Fut) (a : List Nat) : AQ := ((Fs.zip a).map fun p => GC p.1 p.2).flatten
abbrev Qb (Fs : List Fut) : AV := .sl 2 (Fs.map aG) .ro
def atOk (Fs : List Fut) (a : List Nat) : Prop := a.length = Fs.length ∧ ∀ (i k : Nat) (F : Fut), Fs[i]? = some F → a[i]? = some k → k ≤ F.l.length + 1
structure FsOk (Fs : List Fut) : Prop where
 len : Fs.length ≤ 100
 l : ∀ F ∈ Fs, F.l.length ≤ 6000
 few : ∀ F ∈ Fs, fewF F
theorem TO {Fs : List Fut} {a : List Nat} {i k : Nat} {F : Fut} (h1 : Fs[i]? = some F) (h2 : a[i]? = some k) : PM (Fs.take (i + 1)) (a.take (i + 1)) = PM (Fs.take i) (a.take i) ++ GC F k := by
 have e1 : Fs.take (i + 1) = Fs.take i ++ [F] := by rw [List.take_add_one, h1]; rfl
 have e2 : a.take (i + 1) = a.take i ++ [k] := by rw [List.take_add_one, h2]; rfl
 have l1 := (List.getElem?_eq_some_iff.1 h1).1
 have l2 := (List.getElem?_eq_some_iff.1 h2).1
 unfold PM
 rw [e1, e2, List.zip_append (by simp; omega)]
 simp
theorem VK {Fs : List Fut} {a : List Nat} (h : FsOk Fs) (ha : atOk Fs a) : ∀ i, i ≤ Fs.length → (PM (Fs.take i) (a.take i)).length ≤ 100 * i
 | 0, _ => by simp [PM]
 | i + 1, hi => by
  have h1 : Fs[i]? = some Fs[i] := List.getElem?_eq_getElem (by omega)
  have hia : i < a.length := by have := ha.1; omega
  have h2 : a[i]? = some a[i] := List.getElem?_eq_getElem hia
  rw [TO h1 h2, List.length_append]
  have := VK h ha i (by omega)
  have := (h.few _ (List.mem_of_getElem? h1)).at_ (ha.2 i _ _ h1 h2)
  omega
attribute [local simp] Ng FD FC Lc MV LI Ni FN FF HQ HO Lg MC Nq MZ Ny No NG NY LV LZ M0 MT Ly LJ Tq pe N9 Ld MD Lv N1 Nf Li O7 Mz N4 Mx Mc Ln FU O5 OC Lk Nt NR Na Mr Ma OD Mh LX NT LR Ms MX LN Np N0 Ls LH Lf Ey MY F4 LL Lo OA O0 M9 Nj M4 MF MA MG NF N7 Mt Mi Mo Lw Mq MQ MH Mj N8 Nv Nr Ns Nm FX M1 Nh Mw Lu Mk Md M8 NZ O8 NJ MJ MS Nd M2 Lp NA N5 Mn Lt NQ NX NN MI Nc NW LW NK Mf Mp Nu Ja Ll List.mem_cons guardK EE G9 GK HN LK F3 FL F8 FO FJ FG FQ FY Ez LF ME FV LM MP M7 Lh N3 MM F1 MW NL NV LG LU Lr HS FT FB FS FM Nn M5 FP LQ F9 Lj F6 FA Nz F5 F2 Lq My ND NU NH MB Lm OB Tt KK Ki Hc KI Ju K7 Eb Gt HA MN Gm Gu EZ ED Wm Jx Kn Gq Ji Js E5 Dd BZ B9 CA DW AA ev get put Fc AC EC Mb MK Lx O4 KL NP Eu part B8 HY N2 HB isNil DA DG Dz DK DH NO O6 OF NS M3 Ke LY Mu Nl MR OE Nk Nb LT Nw Mv AV.fits AV.cells ones AV.one EP Bw EN DX Fb Ev Mm Fy GE CW Bd CB F7 GI AP BD Xd HU N6 Me List.getElem?_cons_zero List.getElem?_cons_succ FW FH F0 NB NM NI HW Ml MO NE Lz ML M6 Mg MU Nx O9 LP
theorem IE (Fs : List Fut) (hFs : FsOk Fs) (a : List Nat) (ha : atOk Fs a) (g n : Nat) (H : A1) (hg : H g = some (.cells 3 (a.map fun (k : Nat) => aI k))) : APureAt Tryz.prog 78 [Qb Fs, .slm 1 g 0 Fs.length] n H (BX (PM Fs a)) := by
 have hal := ha.1
 have hfl : (Fs.map aG).length = Fs.length := by simp
 refine CE Tryz.func78 A69 rfl fun hH => ?_
 have hgn : g < n := by
  rcases Nat.lt_or_ge g n with h | h
  ·exact h
  ·rw [hH g h] at hg; cases hg
 
 repeat' (first | simp -implicitDefEqProofs [c78, -getElem?_pos, splice] | simp (disch := omega) only [A6] | (with_reducible first | exact AG | refine Bb ?_ | intro _g _hg | refine A5 ?_ ?_ | intro _hc) | omega)
 refine LoopK.go (fun q st => ∃ (i z : Nat) (t : Tok), i + q = Fs.length ∧ (i = 0 ∨ z = 1) ∧ st = ⟨[(0, Qb Fs), (1, .slm 1 g 0 Fs.length), (5, .sl z ((PM (Fs.take i) (a.take i)).map aI) t), (6, aI i)], n, H⟩) Fs.length ⟨0, 0, .nil, by omega, .inl rfl, by simp [PM]⟩ ?_
 rintro q st ⟨i, z, t, hq, hz, rfl⟩ J hJ
 have hz1 : z = 1 ∨ (PM (Fs.take i) (a.take i)).map aI = [] := by
  rcases hz with rfl | rfl
  ·exact .inr (by simp [PM])
  ·exact .inl rfl
 by_cases hi : i < Fs.length
 ·obtain ⟨F, hF⟩ : ∃ F, Fs[i]? = some F := ⟨_, List.getElem?_eq_getElem hi⟩
  obtain ⟨k, hk⟩ : ∃ k, a[i]? = some k := ⟨_, List.getElem?_eq_getElem (by omega)⟩
  have hkb := ha.2 i k F hF hk
  have hF2 : (Fs.map aG)[i]? = some (aG F) := by rw [List.getElem?_map, hF]; rfl
  have hk2 : (a.map fun (k : Nat) => aI k)[i]? = some (aI k) := by rw [List.getElem?_map, hk]; rfl
  rw [FZ] at hF2
  have hB := R7 F
  generalize eX F.l = xa at *
  generalize eT F.cur F.l ++ [BX F.fin] = ta at *
  obtain ⟨_, _, haa, _⟩ := hB
  have hx := haa k hkb
  have hsl := VK hFs ha i (by omega)
  have hfl2 := hFs.len
  have hcl := (hFs.few _ (List.mem_of_getElem? hF)).at_ hkb
  have hbo := Il (PM (Fs.take i) (a.take i)) (GC F k) (by omega)
  have hsn := TO hF hk
  rw [← hsn] at hbo
  have hi' : (i : Int) < Fs.length := by omega
  unfold BX at hbo
  generalize (PM (Fs.take i) (a.take i)).map aI = sv at *
  unfold Qb
  generalize hfv : Fs.map aG = fv at *
  generalize (a.map fun (k : Nat) => aI k) = av at *
  repeat' (first | simp -implicitDefEqProofs [Qv, XR, X4, -getElem?_pos, splice, hfl, hi', hi, hF2, hk2, hx, hg] | simp (disch := omega) only [A6] | ((with_reducible refine AO 79 ?_); refine CallP.of hbo (Af (Gy hz1) (A0 _)) ?_) | (with_reducible first | exact AG | refine Bb ?_ | intro _g _hg | refine A5 ?_ ?_ | intro _hc) | omega)
  subst hfv
  exact hJ (q - 1) _ (by omega) ⟨i + 1, 1, .ro, by omega, .inr rfl, rfl⟩
 ·have hie : i = Fs.length := by omega
  have hi' : ¬ (i : Int) < Fs.length := by omega
  have e1 : Fs.take i = Fs := List.take_of_length_le (by omega)
  have e2 : a.take i = a := List.take_of_length_le (by omega)
  rw [e1, e2] at hz1 ⊢
  unfold Qb
  generalize Fs.map aG = fv at *
  repeat' (first | simp -implicitDefEqProofs [Qv, XW, c78, -getElem?_pos, splice, hfl, hi', hi] | simp (disch := omega) only [A6] | (with_reducible first | exact AG | refine Bb ?_ | intro _g _hg | refine A5 ?_ ?_ | intro _hc) | omega)
  all_goals first | exact Gy hz1 | exact KeepM.rfl_ _ _
theorem Ay (x y v : AV) : splice [x, y] 0 [v] = [v, y] := rfl
theorem Ax (x y v : AV) : splice [x, y] 1 [v] = [x, v] := rfl
theorem OY : ∀ (l : List AV) (i : Nat) (v : AV), i < l.length → splice l i [v] = l.set i v := fun l i v h => by
 unfold splice
 rw [List.set_eq_take_append_cons_drop, if_pos h]; simp
theorem Owns.set1 {n0 n : Nat} {H0 H : A1} {bs : List (Nat × AObj)} {os : List OwnR} {b0 : Nat × AObj} {g : Nat} {ob : AObj} (h : Owns n0 H0 (b0 :: (g, ob) :: bs) os n H) (h0 : b0.1 ≠ g) (hne : ∀ b ∈ bs, b.1 ≠ g) (e : TypeId) (cs : List AV) : Owns n0 H0 (b0 :: (g, .cells e cs) :: bs) os n (upd H g (some (.cells e cs))) := by
 have h1 : Owns n0 H0 ((g, ob) :: b0 :: bs) os n H := ⟨h.mem, fun b hb => h.box b (by simp at hb ⊢; rcases hb with h | h | h <;> simp [h]), h.row, h.apart⟩
 have h2 := h1.set0 (by intro b hb; rcases List.mem_cons.1 hb with rfl | hb; exact h0; exact hne b hb) e cs
 exact ⟨h2.mem, fun b hb => h2.box b (by simp at hb ⊢; rcases hb with h | h | h <;> simp [h]), h2.row, h2.apart⟩
def OR : List Fut → Nat → Nat → Ad
 | [], _, _ => []
 | F :: Fs, 0, k => (F.l.take k).map fun e => (e.1, e.2 ++ (BU Fs).cur)
 | F :: Fs, i + 1, k => F.l.map (fun e => (e.1, e.2 ++ (BU Fs).cur)) ++ (OR Fs i k).map fun e => (e.1, F.fin ++ e.2)
def HG : List Fut → Nat → Nat → List Nat
 | [], _, _ => []
 | _ :: Fs, 0, k => k :: Fs.map fun _ => 0
 | F :: Fs, i + 1, k => (F.l.length + 1) :: HG Fs i k
theorem OI : ∀ (Fs : List Fut) (i k : Nat), (HG Fs i k).length = Fs.length
 | [], _, _ => rfl
 | _ :: Fs, 0, k => by simp [HG]
 | F :: Fs, i + 1, k => by simp [HG, OI Fs i k]
theorem J8 (F : Fut) (Fs : List Fut) (k : Nat) (a : List Nat) : PM (F :: Fs) (k :: a) = GC F k ++ PM Fs a := by simp [PM]
theorem Ot : ∀ Fs : List Fut, PM Fs (Fs.map fun _ => 0) = (BU Fs).cur
 | [] => rfl
 | F :: Fs => by rw [List.map_cons, J8, Ot Fs, PK]; rfl
theorem Qx : ∀ (Fs : List Fut) (i k : Nat), (∀ F, Fs[i]? = some F → k ≤ F.l.length + 1) → atOk Fs (HG Fs i k) := by
 intro Fs
 induction Fs with
 | nil => intro i k _; exact ⟨rfl, fun i k F h => by simp at h⟩
 | cons F Fs ih =>
  intro i k h
  refine ⟨OI _ _ _, ?_⟩
  cases i with
  | zero =>
   intro j m G hj hm
   cases j with
   | zero => simp at hj hm; simp [HG] at hm; subst hj; have := h F rfl; omega
   | succ j => simp [HG] at hm; omega
  | succ i =>
   intro j m G hj hm
   cases j with
   | zero => simp [HG] at hj hm; subst hj; omega
   | succ j => exact (ih i k (fun G hG => h G (by simpa using hG))).2 j m G (by simpa using hj) (by simpa [HG] using hm)
theorem VA : ∀ (Fs : List Fut) (i k k' : Nat), (HG Fs i k).set i k' = if i < Fs.length then HG Fs i k' else HG Fs i k
 | [], _, _, _ => rfl
 | _ :: Fs, 0, k, k' => by simp [HG]
 | F :: Fs, i + 1, k, k' => by
  simp only [HG, List.set_cons_succ, VA Fs i k k', List.length_cons]
  by_cases h : i < Fs.length
  ·rw [if_pos h, if_pos (by omega)]
  ·rw [if_neg h, if_neg (by omega)]
theorem Sc : ∀ {Fs : List Fut} {i : Nat} {F : Fut}, Fs[i]? = some F → HG Fs i (F.l.length + 1) = HG Fs (i + 1) 0
 | [], _, _, h => by simp at h
 | F :: Fs, 0, G, h => by
  simp at h; subst h
  cases Fs with
  | nil => rfl
  | cons G Fs => simp [HG]
 | F :: Fs, i + 1, G, h => by
  simp only [HG]
  rw [Sc (Fs := Fs) (i := i) (by simpa using h)]
theorem TT : ∀ {Fs : List Fut} {i : Nat} {F : Fut}, Fs[i]? = some F → OR Fs i F.l.length = OR Fs (i + 1) 0
 | [], _, _, h => by simp at h
 | F :: Fs, 0, G, h => by
  simp at h; subst h
  cases Fs with
  | nil => simp [OR]
  | cons G Fs => simp [OR]
 | F :: Fs, i + 1, G, h => by
  simp only [OR]
  rw [TT (Fs := Fs) (i := i) (by simpa using h)]
theorem ST : ∀ {Fs : List Fut} {i k : Nat} {F : Fut} {x : Int} {c : AQ}, Fs[i]? = some F → F.l[k]? = some (x, c) → OR Fs i (k + 1) = OR Fs i k ++ [(x, PM Fs (HG Fs i (k + 1)))]
 | [], _, _, _, _, _, h, _ => by simp at h
 | F :: Fs, 0, k, G, x, c, h, hx => by
  simp at h; subst h
  simp only [OR, HG]
  rw [J8, Ot, FI hx, List.take_add_one, hx]
  simp
 | F :: Fs, i + 1, k, G, x, c, h, hx => by
  simp only [OR, HG]
  rw [ST (Fs := Fs) (i := i) (by simpa using h) hx, J8, Dh]
  simp
theorem U6 : ∀ Fs : List Fut, OR Fs Fs.length 0 = (BU Fs).l ∧ PM Fs (HG Fs Fs.length 0) = (BU Fs).fin
 | [] => ⟨rfl, rfl⟩
 | F :: Fs => by
  obtain ⟨h1, h2⟩ := U6 Fs
  refine ⟨?_, ?_⟩
  ·simp only [List.length_cons, OR]; rw [h1]; rfl
  ·simp only [List.length_cons, HG]; rw [J8, h2, Dh]; rfl
theorem Jv (Fs : List Fut) : OR Fs 0 0 = [] ∧ HG Fs 0 0 = Fs.map fun _ => 0 := by
 cases Fs with
 | nil => exact ⟨rfl, rfl⟩
 | cons F Fs => simp [OR, HG]
theorem Zy {Fs : List Fut} : ∀ {i k : Nat}, (∀ F, Fs[i]? = some F → k ≤ F.l.length) → (i = Fs.length → k = 0) → i ≤ Fs.length → (OR Fs i k).length ≤ (BU Fs).l.length := by
 induction Fs with
 | nil => intro i k _ _ _; simp [OR]
 | cons F Fs ih =>
  intro i k h1 h2 h3
  cases i with
  | zero => simp [OR, BU]; omega
  | succ i =>
   have := ih (i := i) (k := k) (fun G hG => h1 G (by simpa using hG)) (fun e => h2 (by simp [e])) (by simpa using h3)
   simp [OR, BU]; omega
theorem Es (x y v w : AV) : splice [x, y] 0 [v, w] = [v, w] := rfl
abbrev aN (a : List Nat) : List AV := a.map fun (k : Nat) => aI k
abbrev atO (a : List Nat) : AObj := .cells 3 (aN a)
theorem YL (a : List Nat) (i k : Nat) : (aN a).set i (aI k) = aN (a.set i k) := by simp [aN]
theorem RY (a : List Nat) : (aN a).length = a.length := by simp [aN]
theorem A2e {a : List Nat} {i k : Nat} (h : a[i]? = some k) : (aN a)[i]? = some (aI k) := by simp [aN, h]
abbrev GivC (n : Nat) (H : A1) (g g3 g2 : Nat) (a : List Nat) (c : AQ) (d : Ad) (z : Nat) (t : Tok) (z2 : Nat) (t2 : Tok) (n' : Nat) (H' : A1) : Prop := Owns n H [(g, Cq (.sl z (eX d) t) (.sl z2 (eT c d) t2)), (g3, atO a), (g2, Cq CV CV)] [⟨3, 1, .sl z (eX d) t, eX d⟩, ⟨22, 1, .sl z2 (eT c d) t2, eT c d⟩] n' H'
theorem GivC.snoc {n : Nat} {H : A1} {g g3 g2 : Nat} {a : List Nat} {c : AQ} {d : Ad} {z : Nat} {t : Tok} {z2 : Nat} {t2 : Tok} {n' : Nat} {H' : A1} {x : Int} {c' : AQ} {ob : AObj} (h : Owns n H [(g, ob), (g3, atO a), (g2, Cq CV CV)] [⟨3, 1, .sl z (eX d ++ [aI x]) t, eX d ++ [aI x]⟩, ⟨22, 1, .sl z2 (eT c d ++ [BX c']) t2, eT c d ++ [BX c']⟩] n' H') (hne : g3 ≠ g ∧ g2 ≠ g) :
  GivC n H g g3 g2 a c (d ++ [(x, c')]) z t z2 t2 n' (upd H' g (some (Cq (.sl z (eX d ++ [aI x]) t) (.sl z2 (eT c d ++ [BX c']) t2)))) := by
 have h2 := h.set0 (by simp; exact hne) 40 [.sl z (eX d ++ [aI x]) t, .sl z2 (eT c d ++ [BX c']) t2]
 unfold GivC
 rw [VE, VN]
 exact h2
theorem Yg (Fs : List Fut) (hFs : FsOk Fs) (hL : (BU Fs).l.length ≤ 20000) (n : Nat) (H : A1) (V : AV) (hV : V = .agg [.sl 1 (eX (BU Fs).l) .ro, .sl 1 (eT (BU Fs).cur (BU Fs).l ++ [BX (BU Fs).fin]) .ro]) (g2 g3 g4 : Nat) (hgg : n ≤ g2 ∧ g2 < g3 ∧ g3 < g4) (n1 : Nat) (H1 : A1) (z : Nat) (t : Tok) (z2 : Nat) (t2 : Tok)
  (_hO : GivC n H g4 g3 g2 (HG Fs 0 0) (BU Fs).cur [] z t z2 t2 n1 H1) (R : AExit → AS → Prop) (hR : R = GD V n H c46.res) :
  LoopK (fun Q s => aw Tryz.prog c46_L8 Q s) (CD 0 (D6 (aw Tryz.prog c46_k1 R) R)) ⟨[(0, Qb Fs), (2, .ptr g2 0), (3, .slm 1 g3 0 Fs.length), (4, .ptr g4 0), (5, aI 0)], n1, H1⟩ := by
 have hfl : (Fs.map aG).length = Fs.length := by simp
 have hf1 := hFs.len
 
 refine LoopK.go (fun q st => ∃ (i n' : Nat) (H' : A1) (z : Nat) (t : Tok) (z2 : Nat) (t2 : Tok), i + q = Fs.length ∧ st = ⟨[(0, Qb Fs), (2, .ptr g2 0), (3, .slm 1 g3 0 Fs.length), (4, .ptr g4 0), (5, aI i)], n', H'⟩ ∧ GivC n H g4 g3 g2 (HG Fs i 0) (BU Fs).cur (OR Fs i 0) z t z2 t2 n' H') Fs.length ⟨0, _, _, _, _, _, _, by omega, rfl, by rw [(Jv Fs).1]; exact _hO⟩ ?_
 clear _hO
 rintro q st ⟨i, n1, H1, z, t, z2, t2, hq, rfl, _hO⟩ J hJ
 have _hb := Owns.boxF _hO
 dsimp only [AE, A7, AF] at _hb
 by_cases hi : i < Fs.length
 ·obtain ⟨F, hF⟩ : ∃ F, Fs[i]? = some F := ⟨_, List.getElem?_eq_getElem hi⟩
  have hFl := hFs.l F (List.mem_of_getElem? hF)
  have hF2 : (Fs.map aG)[i]? = some (aG F) := by rw [List.getElem?_map, hF]; rfl
  rw [FZ] at hF2
  have hB := R7 F
  generalize eX F.l = xa at *
  generalize eT F.cur F.l ++ [BX F.fin] = ta at *
  obtain ⟨hxl, htl, haa, hea⟩ := hB
  have hi' : (i : Int) < Fs.length := by omega
  clear hR
  unfold Qb
  generalize hfv : Fs.map aG = fv at *
  repeat' (first | simp -implicitDefEqProofs [Qf, XM, -getElem?_pos, Ay, Ax, hfl, hi', hi, _hb] | simp (disch := omega) only [A6] | (with_reducible first | exact AG | refine BB ?_) | ((with_reducible refine EO (fun _g _hg _hO => ?_)); (have _hb := And.intro _hb _hO.boxF); dsimp only [AE, A7, AF] at _hb) | ((with_reducible refine EL (fun _g _hg _hO => ?_))) | ((with_reducible refine appKS.chk ?_); first | ((refine Ih ?_ ?_ (fun _x _n _H _hle _hO _hb => ?_)); rotate_left 2; dsimp only [AE, A7, AF] at _hb) | ((refine Im ?_ ?_ (fun _x _n _H _hle _hO _hb => ?_)); rotate_left 2; dsimp only [AE, A7, AF] at _hb)) | (with_reducible first | exact AG | refine IX ?_ | intro _g _hg | refine A5 ?_ ?_ | intro _hc) | omega)
  refine LoopK.go (fun q2 st => ∃ (k n' : Nat) (H' : A1) (z : Nat) (t : Tok) (z2 : Nat) (t2 : Tok), k + q2 = F.l.length ∧ st = ⟨[(0, .sl 2 fv .ro), (2, .ptr g2 0), (3, .slm 1 g3 0 Fs.length), (4, .ptr g4 0), (5, aI i), (6, aI k)], n', H'⟩ ∧ GivC n H g4 g3 g2 (HG Fs i k) (BU Fs).cur (OR Fs i k) z t z2 t2 n' H') F.l.length ⟨0, _, _, _, _, _, _, by omega, rfl, _hO⟩ ?_
  clear _hO _hb
  rintro q2 st ⟨k, n1, H1, z, t, z2, t2, hq2, rfl, _hO⟩ J2 hJ2
  have _hb := Owns.boxF _hO
  dsimp only [AE, A7, AF] at _hb
  have hxL := EX (OR Fs i k)
  have htL := EH (BU Fs).cur (OR Fs i k)
  have hpl : (OR Fs i k).length ≤ 20000 := Nat.le_trans (Zy (fun G hG => by rw [hF] at hG; injection hG with hG; subst hG; omega) (fun e => by omega) (by omega)) hL
  have hsl : ∀ k', splice (aN (HG Fs i k)) i [aI (k' : Nat)] = aN (HG Fs i k') := fun k' => by
   rw [OY _ _ _ (by rw [RY, OI]; exact hi), YL, VA, if_pos hi]
  have hal : ∀ k', (aN (HG Fs i k')).length = Fs.length := fun k' => by rw [RY, OI]
  by_cases hk : k < F.l.length
  ·obtain ⟨x, c, hxc⟩ : ∃ x c, F.l[k]? = some (x, c) := ⟨F.l[k].1, F.l[k].2, List.getElem?_eq_getElem hk⟩
   have hx1 := hea k x c hxc
   have hnx := ST hF hxc
   have hk' : (k : Int) < F.l.length := by omega
   have hst := IE Fs hFs (HG Fs i (k + 1)) (Qx Fs i (k + 1) fun G hG => by rw [hF] at hG; injection hG with hG; subst hG; omega)
   unfold Qb at hst
   rw [hfv] at hst
   have hs1 := hsl (k + 1)
   have hs2 : ((k + 1 : Nat) : Int) = (k : Int) + 1 := by omega
   rw [hs2] at hs1
   have hal1 := hal k
   have hal2 := hal (k + 1)
   clear _hb
   unfold GivC atO at _hO
   generalize hav : aN (HG Fs i k) = av at *
   have _hb := Owns.boxF _hO
   dsimp only [AE, A7, AF] at _hb
   repeat' (first | simp -implicitDefEqProofs [QF, X9, X3, -getElem?_pos, Ay, Ax, hfl, hi', hi, hF2, hx1, hxl, hk', hk, hs1, hal1, _hb] | simp (disch := omega) only [A6] | ((with_reducible refine appKS.chk ?_); refine Owns.appF (by assumption) (A0 _) (by simp; omega) (by decide) (fun _z _t _n _H _hle _hO => ?_); have _hb := Owns.boxF _hO; dsimp only [AE, A7, AF] at _hb) | ((with_reducible refine appKS.chk ?_); refine Owns.appS (by assumption) (A0 _) (by simp; omega) (by decide) (fun _z2 _t2 _n _H _hle _hO => ?_); have _hb := Owns.boxF _hO; dsimp only [AE, A7, AF] at _hb) | ((with_reducible refine B0 78 ?_); refine CallK.ofAt (hst g3 _ _ (by simp (disch := omega) only [upd_ne]; exact (_hO.box (g3, _) (by simp)).1)) (A0 _) ?_) | (with_reducible first | exact AG | refine BB ?_) | ((with_reducible refine EO (fun _g _hg _hO => ?_)); (have _hb := And.intro _hb _hO.boxF); dsimp only [AE, A7, AF] at _hb) | ((with_reducible refine EL (fun _g _hg _hO => ?_))) | (with_reducible first | exact AG | refine IX ?_ | intro _g _hg | refine A5 ?_ ?_ | intro _hc) | omega)
   exact hJ2 (q2 - 1) _ (by omega) ⟨k + 1, _, _, _, _, _, _, by omega, rfl, by rw [hnx]; exact GivC.snoc _hO ⟨by omega, by omega⟩⟩
  ·have hke : k = F.l.length := by omega
   have hk' : ¬ (k : Int) < F.l.length := by omega
   have hs1 := hsl (F.l.length + 1)
   have hs2 : ((F.l.length + 1 : Nat) : Int) = (F.l.length : Int) + 1 := by omega
   rw [hs2, Sc hF] at hs1
   have hal1 := hal k
   rw [hke] at hs1 hal1
   subst hke
   rw [TT hF] at _hO
   clear _hb
   unfold GivC atO at _hO
   generalize hav : aN (HG Fs i F.l.length) = av at *
   have _hb := Owns.boxF _hO
   dsimp only [AE, A7, AF] at _hb
   repeat' (first | simp -implicitDefEqProofs [QF, Ww, WN, -getElem?_pos, Ay, Ax, hfl, hi', hi, hF2, hxl, hs1, hal1, _hb] | simp (disch := omega) only [A6] | (with_reducible first | exact AG | refine BB ?_) | ((with_reducible refine EO (fun _g _hg _hO => ?_)); (have _hb := And.intro _hb _hO.boxF); dsimp only [AE, A7, AF] at _hb) | ((with_reducible refine EL (fun _g _hg _hO => ?_))) | ((with_reducible refine appKS.chk ?_); first | ((refine Ih ?_ ?_ (fun _x _n _H _hle _hO _hb => ?_)); rotate_left 2; dsimp only [AE, A7, AF] at _hb) | ((refine Im ?_ ?_ (fun _x _n _H _hle _hO _hb => ?_)); rotate_left 2; dsimp only [AE, A7, AF] at _hb)) | (with_reducible first | exact AG | refine IX ?_ | intro _g _hg | refine A5 ?_ ?_ | intro _hc) | omega)
   subst hfv
   exact hJ (q - 1) _ (by omega) ⟨i + 1, _, _, _, _, _, _, by omega, rfl, Owns.set1 _hO (by simp; omega) (by simp; omega) _ _⟩
 ·have hie : i = Fs.length := by omega
  have hi' : ¬ (i : Int) < Fs.length := by omega
  subst hie
  rw [(U6 Fs).1] at _hO
  clear _hb
  have _hb := Owns.boxF _hO
  dsimp only [AE, A7, AF] at _hb
  have hxL := EX (BU Fs).l
  have htL := EH (BU Fs).cur (BU Fs).l
  have hst := IE Fs hFs (HG Fs Fs.length 0) (Qx Fs _ _ fun G hG => by simp at hG)
  rw [(U6 Fs).2] at hst
  subst hR
  unfold Qb at *
  generalize Fs.map aG = fv at *
  repeat' (first | simp -implicitDefEqProofs [Qf, Vq, c46, -getElem?_pos, Ay, Ax, Es, hfl, hi', _hb] | simp (disch := omega) only [A6] | ((with_reducible refine appKS.chk ?_); refine Owns.appS (by assumption) (A0 _) (by simp; omega) (by decide) (fun _z2 _t2 _n _H _hle _hO => ?_); have _hb := Owns.boxF _hO; dsimp only [AE, A7, AF] at _hb) | ((with_reducible refine B0 78 ?_); refine CallK.ofAt (hst g3 _ _ (_hO.box (g3, _) (by simp)).1) (A0 _) ?_) | (with_reducible first | exact AG | refine BB ?_) | ((with_reducible refine EO (fun _g _hg _hO => ?_)); (have _hb := And.intro _hb _hO.boxF); dsimp only [AE, A7, AF] at _hb) | ((with_reducible refine EL (fun _g _hg _hO => ?_))) | (with_reducible first | exact AG | refine IX ?_ | intro _g _hg | refine A5 ?_ ?_ | intro _hc) | omega)
  rw [hV]
  exact Df (Af (_hO.sim0 (A0 _)) (Af (_hO.sim1 (A0 _)) (A0 _)))
section
variable {n0 n : Nat} {H0 H : A1} {bs : List (Nat × AObj)} {os : List OwnR} {d : Option Nat} {e : AJ} {K : AS → Prop} {el m : Nat} {z : AV}
theorem T9 (h : Owns n0 H0 bs os n H) (hk : ∀ g, n ≤ g → Owns n0 H0 ((g, .cells el (List.replicate m z)) :: bs) os (g + 1) (upd H g (some (.cells el (List.replicate m z)))) → K ⟨AC e d (.slm 1 g 0 m), g + 1, upd H g (some (.cells el (List.replicate m z)))⟩) : A34 el z m d K e n H := fun g hg => hk g hg (h.addBox hg _ _)
end
theorem V5 (Fs : List Fut) : List.replicate Fs.length (aI 0) = aN (HG Fs 0 0) := by
 rw [(Jv Fs).2]
 unfold aN
 rw [List.map_map]
 exact (List.eq_replicate_iff.2 ⟨by simp, fun b hb => by obtain ⟨a, _, rfl⟩ := List.mem_map.1 hb; rfl⟩).symm
theorem Wk (Fs : List Fut) (hFs : FsOk Fs) (hL : (BU Fs).l.length ≤ 20000) : APure Tryz.prog 46 [Qb Fs] (aG (BU Fs)) := by
 have hV := FZ (BU Fs)
 have hfl : (Fs.map aG).length = Fs.length := by simp
 have hl := Yg Fs hFs hL
 have hst := IE Fs hFs (HG Fs 0 0) (Qx Fs 0 0 fun G hG => by omega)
 rw [(Jv Fs).2, Ot, ← (Jv Fs).2] at hst
 have hz := V5 Fs
 have hlen := hFs.len
 have hml : Fs.length ≤ maxLen := by simp [maxLen]; omega
 generalize aG (BU Fs) = V at *
 refine A8 Tryz.func46 A57 rfl fun n H hH => ?_
 have hl := hl n H V hV
 unfold Qb at *
 generalize Fs.map aG = fv at *
 have _hb : True := trivial
 have _hO : Owns n H [] [⟨3, 1, CV, []⟩] n H := (Owns.start hH).addNil _ _ _
 repeat' (first | simp -implicitDefEqProofs [c46, -getElem?_pos, Ay, Ax, Es, hfl, hml, _hb] | simp (disch := omega) only [A6] | (refine T9 (by assumption) (fun _g _hg _hO => ?_); have _hb := Owns.boxF _hO; dsimp only [AE, A7, AF] at _hb) | ((with_reducible refine B0 78 ?_); refine CallK.ofAt (hst _ _ _ (by simp (disch := omega) only [upd_ne, AP, Int.toNat_natCast, hz])) (A0 _) ?_) | (refine Hj (by assumption) (fun _g _hg _hO => ?_); simp only [List.length_cons, List.length_nil, Nat.zero_add] at _hO; have _hb := _hO.boxF; dsimp only [AE, A7, AF] at _hb) | (with_reducible first | exact AG | refine BB ?_) | ((with_reducible refine EO (fun _g _hg _hO => ?_)); (have _hb := And.intro _hb _hO.boxF); dsimp only [AE, A7, AF] at _hb) | ((with_reducible refine EL (fun _g _hg _hO => ?_))) | ((with_reducible refine appKS.chk ?_); first | ((refine Ih ?_ ?_ (fun _x _n _H _hle _hO _hb => ?_)); rotate_left 2; dsimp only [AE, A7, AF] at _hb) | ((refine Im ?_ ?_ (fun _x _n _H _hle _hO _hb => ?_)); rotate_left 2; dsimp only [AE, A7, AF] at _hb)) | (with_reducible first | exact AG | refine IX ?_ | intro _g _hg | refine A5 ?_ ?_ | intro _hc) | omega)
 rw [hz] at _hO ⊢
 refine hl _ _ _ ⟨?_, ?_, ?_⟩ _ _ 0 .nil _ _ (_hO.set0 (by simp; omega) _ _) _ rfl <;> omega
def JZ (i L : Nat) : List Nat := (List.range L).drop i ++ (List.range L).take i
def cyT (i L : Nat) : List Nat := (List.range L).drop (i + 1) ++ (List.range L).take i
theorem Sz {i L : Nat} (h : i < L) : JZ i L = i :: cyT i L := by
 unfold JZ cyT
 rw [List.drop_eq_getElem_cons (by simpa using h), List.getElem_range]; rfl
theorem S5 {i L : Nat} (h : i < L) : JZ ((i + 1) % L) L = cyT i L ++ [i] := by
 have e : (List.range L).take (i + 1) = (List.range L).take i ++ [i] := by
  rw [List.take_add_one, List.getElem?_range h]; rfl
 unfold JZ cyT
 by_cases hl : i + 1 < L
 ·rw [Nat.mod_eq_of_lt hl, e, List.append_assoc]
 ·have : L = i + 1 := by omega
  subst this
  rw [Nat.mod_self, List.drop_zero, List.take_zero, List.append_nil, List.drop_eq_nil_of_le (by simp), List.nil_append, ← e, List.take_of_length_le (by simp)]
theorem VL {i L : Nat} : i ∉ cyT i L := by
 unfold cyT
 intro h
 rcases List.mem_append.1 h with h | h
 ·obtain ⟨j, hj, e⟩ := List.getElem_of_mem h
  simp at e; omega
 ·obtain ⟨j, hj, e⟩ := List.getElem_of_mem h
  simp at e hj; omega
def Ul (Fs : List Fut) (a : List Nat) (j : Nat) : Option (Nat × Ad × AQ) := match Fs[j]? with
 | none => none
 | some F => if a.getD j 0 ≤ F.l.length then some (j, F.l.drop (a.getD j 0), F.fin) else none
def JT (Fs : List Fut) (a : List Nat) (l : List Nat) : List (Nat × Ad × AQ) := l.filterMap (Ul Fs a)
def tcL (Fs : List Fut) (a : List Nat) : List AQ := (Fs.zip a).map fun p => GC p.1 p.2
def PZ (Fs : List Fut) (a : List Nat) : Nat := ((Fs.zip a).map fun p => p.1.l.length + 1 - p.2).sum
theorem Yf (Fs : List Fut) (a : List Nat) : PM Fs a = (tcL Fs a).flatten := rfl
theorem A02 {Fs : List Fut} {a : List Nat} {i j v : Nat} (h : j ≠ i) : Ul Fs (a.set i v) j = Ul Fs a j := by
 unfold Ul
 have e : (a.set i v).getD j 0 = a.getD j 0 := by
  rw [List.getD_eq_getElem?_getD, List.getD_eq_getElem?_getD, List.getElem?_set_ne (Ne.symm h)]
 rw [e]
theorem RC {Fs : List Fut} {a : List Nat} {i v : Nat} : ∀ {l : List Nat}, i ∉ l → JT Fs (a.set i v) l = JT Fs a l
 | [], _ => rfl
 | j :: l, h => by
  unfold JT
  rw [List.filterMap_cons, List.filterMap_cons, A02 (fun e => h (by rw [e]; exact List.mem_cons_self))]
  have := RC (Fs := Fs) (a := a) (i := i) (v := v) (l := l) fun hm => h (List.mem_cons_of_mem _ hm)
  unfold JT at this
  rw [this]
theorem VO {α β : Type} (l : List α) (m : List β) (i : Nat) (x : α) (y : β) (hx : l[i]? = some x) : l.zip (m.set i y) = (l.zip m).set i (x, y) := by
 apply List.ext_getElem?
 intro j
 by_cases h : i = j
 ·subst h
  by_cases hm : i < m.length
  ·have hl := (List.getElem?_eq_some_iff.1 hx).1
   rw [List.getElem?_set_self (by simp; omega)]
   exact (List.getElem?_zip_eq_some (z := (x, y))).2 ⟨hx, by simp [hm]⟩
  ·have e1 : m.set i y = m := List.set_eq_of_length_le (by omega)
   rw [e1, List.set_eq_of_length_le (by simp; omega)]
 ·rw [List.getElem?_set_ne h]
  simp only [List.zip, List.getElem?_zipWith, List.getElem?_set_ne h]
theorem Vi {Fs : List Fut} {a : List Nat} {i v : Nat} {F : Fut} (h : Fs[i]? = some F) : tcL Fs (a.set i v) = (tcL Fs a).set i (GC F v) := by
 unfold tcL
 rw [VO _ _ _ F _ h, List.map_set]
theorem V8 : ∀ (l : List Nat) (i v w : Nat), l[i]? = some w → (l.set i v).sum + w = l.sum + v
 | [], i, v, w, h => by simp at h
 | x :: l, 0, v, w, h => by simp at h; subst h; simp; omega
 | x :: l, i + 1, v, w, h => by
  have := V8 l i v w (by simpa using h)
  simp; omega
theorem Vd {Fs : List Fut} {a : List Nat} {i k v : Nat} {F : Fut} (h : Fs[i]? = some F) (hk : a[i]? = some k) : PZ Fs (a.set i v) + (F.l.length + 1 - k) = PZ Fs a + (F.l.length + 1 - v) := by
 unfold PZ
 rw [VO _ _ _ F _ h, List.map_set]
 exact V8 _ _ _ _ (by rw [List.getElem?_map, (List.getElem?_zip_eq_some (z := (F, k))).2 ⟨h, hk⟩]; rfl)
theorem Rh (Fs : List Fut) (a : List Nat) (ha : a = Fs.map fun _ => 0) : JT Fs a (JZ 0 Fs.length) = Fs.zipIdx.map (fun x => (x.2, x.1.l, x.1.fin)) ∧ tcL Fs a = Fs.map (·.cur) ∧ PZ Fs a = Rr Fs := by
 subst ha
 refine ⟨?_, ?_, ?_⟩
 ·unfold JT JZ
  rw [List.drop_zero, List.take_zero, List.append_nil]
  have key : ∀ (n : Nat) (Gs : List Fut), Fs.drop n = Gs → n + Gs.length = Fs.length → (List.range' n Gs.length).filterMap (Ul Fs (Fs.map fun _ => 0)) = (Gs.zipIdx n).map fun x => (x.2, x.1.l, x.1.fin) := by
   intro n Gs
   induction Gs generalizing n with
   | nil => intro _ _; rfl
   | cons G Gs ih =>
    intro hd hn
    have hG : Fs[n]? = some G := by
     have := congrArg (fun m => m[0]?) hd
     simpa using this
    have hd2 : Fs.drop (n + 1) = Gs := by
     have := congrArg List.tail hd
     simpa using this
    rw [List.length_cons, List.range'_succ, List.filterMap_cons, ih (n + 1) hd2 (by simp at hn; omega)]
    have e : (Fs.map fun _ => 0).getD n 0 = 0 := by rw [List.getD_eq_getElem?_getD, List.getElem?_map, hG]; rfl
    unfold Ul
    rw [hG]
    simp only [e, Nat.zero_le, if_true, List.drop_zero]
    rfl
  rw [List.range_eq_range']
  exact key 0 Fs rfl (by simp)
 ·unfold tcL
  have key : ∀ Gs : List Fut, (Gs.zip (Gs.map fun _ => 0)).map (fun p => GC p.1 p.2) = Gs.map (·.cur) := by
   intro Gs
   induction Gs with
   | nil => rfl
   | cons G Gs ih => simp only [List.map_cons, List.zip_cons_cons, ih, PK]
  exact key Fs
 ·unfold PZ Rr
  have key : ∀ Gs : List Fut, ((Gs.zip (Gs.map fun _ => 0)).map fun p => p.1.l.length + 1 - p.2) = Gs.map fun F => F.l.length + 1 := by
   intro Gs
   induction Gs with
   | nil => rfl
   | cons G Gs ih => simp only [List.map_cons, List.zip_cons_cons, ih, Nat.sub_zero]
  rw [key]
structure TurI (Fs : List Fut) (i : Nat) (a : List Nat) (d : Ad) : Prop where
 ok : atOk Fs a
 l : (Dc Fs).l = d ++ (E6 (PZ Fs a) (JT Fs a (JZ i Fs.length)) (tcL Fs a)).1
 fin : (Dc Fs).fin = (E6 (PZ Fs a) (JT Fs a (JZ i Fs.length)) (tcL Fs a)).2.flatten
theorem TurI.beg (Fs : List Fut) : TurI Fs 0 (Fs.map fun _ => 0) [] := by
 obtain ⟨h1, h2, h3⟩ := Rh Fs _ rfl
 refine ⟨⟨by simp, fun i k F h hk => ?_⟩, ?_, ?_⟩
 ·rw [List.getElem?_map, h] at hk; simp at hk; omega
 ·rw [h1, h2, h3]; rfl
 ·rw [h1, h2, h3]; rfl
section
variable {Fs : List Fut} {i : Nat} {a : List Nat} {d : Ad} {F : Fut} {k : Nat}
theorem TurI.head (hF : Fs[i]? = some F) (hk : a[i]? = some k) : JT Fs a (JZ i Fs.length) = (if k ≤ F.l.length then [(i, F.l.drop k, F.fin)] else []) ++ JT Fs a (cyT i Fs.length) := by
 have hi := (List.getElem?_eq_some_iff.1 hF).1
 have e : a.getD i 0 = k := by rw [List.getD_eq_getElem?_getD, hk]; rfl
 rw [Sz hi]
 unfold JT
 rw [List.filterMap_cons]
 unfold Ul
 rw [hF]
 dsimp only
 rw [e]
 split <;> rename_i h <;> split at h <;> simp_all
theorem TurI.tail (hF : Fs[i]? = some F) (hk : a[i]? = some k) : JT Fs a (JZ ((i + 1) % Fs.length) Fs.length) = JT Fs a (cyT i Fs.length) ++ (if k ≤ F.l.length then [(i, F.l.drop k, F.fin)] else []) := by
 have hi := (List.getElem?_eq_some_iff.1 hF).1
 have e : a.getD i 0 = k := by rw [List.getD_eq_getElem?_getD, hk]; rfl
 rw [S5 hi]
 unfold JT
 rw [List.filterMap_append, List.filterMap_cons]
 congr 1
 unfold Ul
 rw [hF]
 dsimp only
 rw [e]
 split <;> rename_i h <;> split at h <;> simp_all
theorem TurI.skip (h : TurI Fs i a d) (hF : Fs[i]? = some F) (hk : a[i]? = some k) (hlt : F.l.length < k) : TurI Fs ((i + 1) % Fs.length) a d ∧ JT Fs a (JZ ((i + 1) % Fs.length) Fs.length) = JT Fs a (JZ i Fs.length) := by
 have e : JT Fs a (JZ ((i + 1) % Fs.length) Fs.length) = JT Fs a (JZ i Fs.length) := by
  rw [TurI.head hF hk, TurI.tail hF hk, if_neg (by omega)]; simp
 exact ⟨⟨h.ok, by rw [e]; exact h.l, by rw [e]; exact h.fin⟩, e⟩
theorem at_set (ha : atOk Fs a) (hF : Fs[i]? = some F) {v : Nat} (hv : v ≤ F.l.length + 1) : atOk Fs (a.set i v) := by
 refine ⟨by simp [ha.1], fun j m G hG hm => ?_⟩
 by_cases h : i = j
 ·subst h
  rw [List.getElem?_set_self (by have h1 := (List.getElem?_eq_some_iff.1 hF).1; have h2 := ha.1; omega)] at hm
  rw [hF] at hG; injection hG with hG; injection hm with hm; subst hG; omega
 ·rw [List.getElem?_set_ne h] at hm; exact ha.2 j m G hG hm
theorem TurI.give (h : TurI Fs i a d) (hF : Fs[i]? = some F) (hk : a[i]? = some k) {x : Int} {c : AQ} (hx : F.l[k]? = some (x, c)) : TurI Fs ((i + 1) % Fs.length) (a.set i (k + 1)) (d ++ [(x, PM Fs (a.set i (k + 1)))]) ∧ PZ Fs (a.set i (k + 1)) + 1 = PZ Fs a ∧ (JT Fs (a.set i (k + 1)) (JZ ((i + 1) % Fs.length) Fs.length)).length = (JT Fs a (JZ i Fs.length)).length := by
 have hlt := (List.getElem?_eq_some_iff.1 hx).1
 have hi := (List.getElem?_eq_some_iff.1 hF).1
 have hi2 : i < a.length := (List.getElem?_eq_some_iff.1 hk).1
 have hm := Vd (v := k + 1) hF hk
 have hm2 : PZ Fs a = PZ Fs (a.set i (k + 1)) + 1 := by omega
 have hk' : (a.set i (k + 1))[i]? = some (k + 1) := List.getElem?_set_self hi2
 have e1 := TurI.head hF hk
 rw [if_pos (by omega), BY hx] at e1
 have e2 := TurI.tail hF hk'
 rw [if_pos (by omega), RC VL] at e2
 have e3 := Vi (a := a) (v := k + 1) hF
 rw [FI hx] at e3
 have hl := h.l
 have hf := h.fin
 rw [e1, hm2, List.singleton_append, E6] at hl hf
 refine ⟨⟨at_set h.ok hF (by omega), ?_, ?_⟩, hm2.symm, ?_⟩
 ·rw [hl, e2, e3, Yf, e3]; simp
 ·rw [hf, e2, e3]
 ·rw [e1, e2]; simp
theorem TurI.stop (h : TurI Fs i a d) (hF : Fs[i]? = some F) (hk : a[i]? = some F.l.length) : TurI Fs ((i + 1) % Fs.length) (a.set i (F.l.length + 1)) d ∧ PZ Fs (a.set i (F.l.length + 1)) + 1 = PZ Fs a ∧ (JT Fs (a.set i (F.l.length + 1)) (JZ ((i + 1) % Fs.length) Fs.length)).length + 1 = (JT Fs a (JZ i Fs.length)).length := by
 have hi := (List.getElem?_eq_some_iff.1 hF).1
 have hi2 : i < a.length := (List.getElem?_eq_some_iff.1 hk).1
 have hm := Vd (v := F.l.length + 1) hF hk
 have hm2 : PZ Fs a = PZ Fs (a.set i (F.l.length + 1)) + 1 := by omega
 have hk' : (a.set i (F.l.length + 1))[i]? = some (F.l.length + 1) := List.getElem?_set_self hi2
 have e1 := TurI.head hF hk
 rw [if_pos (by omega), List.drop_length] at e1
 have e2 := TurI.tail hF hk'
 rw [if_neg (by omega), RC VL, List.append_nil] at e2
 have e3 := Vi (a := a) (v := F.l.length + 1) hF
 rw [Dh] at e3
 have hl := h.l
 have hf := h.fin
 rw [e1, hm2, List.singleton_append, E6] at hl hf
 refine ⟨⟨at_set h.ok hF (by omega), ?_, ?_⟩, hm2.symm, ?_⟩
 ·rw [hl, e2, e3]
 ·rw [hf, e2, e3]
 ·rw [e1, e2]; simp
theorem W0 (m : Nat) (cs : List AQ) : E6 m [] cs = ([], cs) := by cases m <;> rfl
theorem TurI.done (h : TurI Fs i a d) (h0 : (JT Fs a (JZ i Fs.length)).length = 0) : d = (Dc Fs).l ∧ PM Fs a = (Dc Fs).fin := by
 have e := List.length_eq_zero_iff.1 h0
 have hl := h.l
 have hf := h.fin
 rw [e, W0] at hl hf
 exact ⟨by rw [hl]; simp, by rw [hf]; rfl⟩
end
def skN (Fs : List Fut) (a : List Nat) (l : List Nat) : Nat := (l.takeWhile fun j => (Ul Fs a j).isNone).length
theorem Xx (Fs : List Fut) (a : List Nat) (i : Nat) : skN Fs a (JZ i Fs.length) ≤ Fs.length := by
 unfold skN
 refine Nat.le_trans (List.takeWhile_sublist _).length_le ?_
 unfold JZ
 simp; omega
theorem YS {Fs : List Fut} {i : Nat} {a : List Nat} {F : Fut} {k : Nat} (hF : Fs[i]? = some F) (hk : a[i]? = some k) (hlt : F.l.length < k) (h0 : (JT Fs a (JZ i Fs.length)).length ≠ 0) : skN Fs a (JZ ((i + 1) % Fs.length) Fs.length) + 1 = skN Fs a (JZ i Fs.length) := by
 have hi := (List.getElem?_eq_some_iff.1 hF).1
 have e : a.getD i 0 = k := by rw [List.getD_eq_getElem?_getD, hk]; rfl
 have hn : Ul Fs a i = none := by unfold Ul; rw [hF]; dsimp only; rw [e, if_neg (by omega)]
 have ht : JT Fs a (cyT i Fs.length) ≠ [] := by
  intro h
  rw [TurI.head hF hk, if_neg (by omega), h] at h0
  exact h0 rfl
 rw [S5 hi, Sz hi]
 unfold skN
 rw [List.takeWhile_cons, hn]
 simp only [Option.isNone_none, if_true, List.length_cons]
 congr 1
 have key : ∀ l : List Nat, JT Fs a l ≠ [] → (l ++ [i]).takeWhile (fun j => (Ul Fs a j).isNone) = l.takeWhile fun j => (Ul Fs a j).isNone := by
  intro l
  induction l with
  | nil => intro h; exact absurd rfl h
  | cons j l ih =>
   intro h
   rw [List.cons_append, List.takeWhile_cons, List.takeWhile_cons]
   cases hj : Ul Fs a j with
   | none =>
    simp only [Option.isNone_none, if_true]
    rw [ih]
    intro h2
    apply h
    unfold JT at h2 ⊢
    rw [List.filterMap_cons, hj]; exact h2
   | some v => simp
 rw [key _ ht]
theorem Yi {Fs : List Fut} {i : Nat} {a : List Nat} {d : Ad} (h : TurI Fs i a d) : d.length ≤ (Dc Fs).l.length := by
 rw [h.l, List.length_append]; omega
theorem Yw (Fs : List Fut) (hFs : FsOk Fs) (hL : (Dc Fs).l.length ≤ 20000) (n : Nat) (H : A1) (V : AV) (c0 : AQ) (hV : V = .agg [.sl 1 (eX (Dc Fs).l) .ro, .sl 1 (eT c0 (Dc Fs).l ++ [BX (Dc Fs).fin]) .ro]) (g2 g3 g4 : Nat) (hgg : n ≤ g2 ∧ g2 < g3 ∧ g3 < g4) (n1 : Nat) (H1 : A1) (z : Nat) (t : Tok) (z2 : Nat) (t2 : Tok)
  (_hO : GivC n H g4 g3 g2 (Fs.map fun _ => 0) c0 [] z t z2 t2 n1 H1) (R : AExit → AS → Prop) (hR : R = GD V n H c47.res) :
  LoopK (fun Q s => aw Tryz.prog c47_L6 Q s) (CD 0 (D6 (aw Tryz.prog c47_k1 R) R)) ⟨[(0, Qb Fs), (2, .ptr g2 0), (3, .slm 1 g3 0 Fs.length), (4, .ptr g4 0), (5, aI Fs.length), (6, aI 0)], n1, H1⟩ := by
 have hfl : (Fs.map aG).length = Fs.length := by simp
 have hf1 := hFs.len
 obtain ⟨hz1, hz2, hz3⟩ := Rh Fs _ rfl
 have hql : (JT Fs (Fs.map fun _ => 0) (JZ 0 Fs.length)).length = Fs.length := by rw [hz1]; simp
 
 refine LoopK.go (fun q st => ∃ (i left n' : Nat) (H' : A1) (a : List Nat) (d : Ad) (z : Nat) (t : Tok) (z2 : Nat) (t2 : Tok), (Fs.length = 0 ∨ i < Fs.length) ∧ PZ Fs a * (Fs.length + 1) + skN Fs a (JZ i Fs.length) = q ∧ TurI Fs i a d ∧ (JT Fs a (JZ i Fs.length)).length = left ∧ left ≤ Fs.length ∧ st = ⟨[(0, Qb Fs), (2, .ptr g2 0), (3, .slm 1 g3 0 Fs.length), (4, .ptr g4 0), (5, aI left), (6, aI i)], n', H'⟩ ∧ GivC n H g4 g3 g2 a c0 d z t z2 t2 n' H') _ ⟨0, Fs.length, _, _, _, _, _, _, _, _, by omega, rfl, TurI.beg Fs, hql, by omega, rfl, _hO⟩ ?_
 clear _hO hz1 hz2 hz3 hql
 rintro q st ⟨i, left, n1, H1, a, d, z, t, z2, t2, hil, hq, hT, hle, hll, rfl, _hO⟩ J hJ
 by_cases h0 : 0 < left
 ·have hi : i < Fs.length := by omega
  have h0' : (0 : Int) < left := by omega
  obtain ⟨F, hF⟩ : ∃ F, Fs[i]? = some F := ⟨_, List.getElem?_eq_getElem hi⟩
  have hia : i < a.length := by have := hT.ok.1; omega
  obtain ⟨k, hk⟩ : ∃ k, a[i]? = some k := ⟨_, List.getElem?_eq_getElem hia⟩
  have hkb := hT.ok.2 i k F hF hk
  have hFl := hFs.l F (List.mem_of_getElem? hF)
  have hF2 : (Fs.map aG)[i]? = some (aG F) := by rw [List.getElem?_map, hF]; rfl
  rw [FZ] at hF2
  have hB := R7 F
  generalize eX F.l = xa at *
  generalize eT F.cur F.l ++ [BX F.fin] = ta at *
  obtain ⟨hxl, htl, haa, hea⟩ := hB
  have hi' : (i : Int) < Fs.length := by omega
  have hmod : ((i : Int) + 1) % (Fs.length : Int) = (((i + 1) % Fs.length : Nat) : Int) := by rw [Int.natCast_emod]; rfl
  have hmod2 : (Fs.length : Int) ≠ 0 := by omega
  have hmod3 : ¬ Fs.length = 0 := by omega
  have hmlt : (i + 1) % Fs.length < Fs.length := Nat.mod_lt _ (by omega)
  obtain ⟨i2, hi2⟩ : ∃ i2, (i + 1) % Fs.length = i2 := ⟨_, rfl⟩
  rw [hi2] at hmod hmlt
  have hak := A2e hk
  have hal : (aN a).length = Fs.length := by rw [RY]; exact hT.ok.1
  clear hR
  have hdl := Yi hT
  have hxL := EX d
  have htL := EH c0 d
  unfold Qb
  generalize hfv : Fs.map aG = fv at *
  by_cases hend : F.l.length < k
  ·obtain ⟨hT2, hq2⟩ := hT.skip hF hk hend
   have hsk := YS hF hk hend (by omega)
   rw [hi2] at hT2 hq2 hsk
   have he' : (F.l.length : Int) < k := by omega
   unfold GivC atO at _hO
   generalize hav : aN a = av at *
   have _hb := Owns.boxF _hO
   dsimp only [AE, A7, AF] at _hb
   repeat' (first | simp -implicitDefEqProofs [I4, Jt, Kh, -getElem?_pos, Ay, Ax, hfl, hi', hi, h0', hF2, hxl, hal, hak, he', hmod2, hmod3, hmod, _hb] | simp (disch := omega) only [A6] | (with_reducible first | exact AG | refine BB ?_) | ((with_reducible refine EO (fun _g _hg _hO => ?_)); (have _hb := And.intro _hb _hO.boxF); dsimp only [AE, A7, AF] at _hb) | ((with_reducible refine EL (fun _g _hg _hO => ?_))) | ((with_reducible refine appKS.chk ?_); first | ((refine Ih ?_ ?_ (fun _x _n _H _hle _hO _hb => ?_)); rotate_left 2; dsimp only [AE, A7, AF] at _hb) | ((refine Im ?_ ?_ (fun _x _n _H _hle _hO _hb => ?_)); rotate_left 2; dsimp only [AE, A7, AF] at _hb)) | (with_reducible first | exact AG | refine IX ?_ | intro _g _hg | refine A5 ?_ ?_ | intro _hc) | omega)
   subst hfv
   subst hav
   exact hJ (q - 1) _ (by omega) ⟨i2, left, _, _, a, d, _, _, _, _, .inr hmlt, by omega, hT2, by rw [hq2]; exact hle, hll, rfl, _hO⟩
  ·have he' : ¬ (F.l.length : Int) < k := by omega
   have hsl : splice (aN a) i [aI ((k : Int) + 1)] = aN (a.set i (k + 1)) := by
    rw [OY _ _ _ (by omega), ← YL]; rfl
   have hak2 : (aN (a.set i (k + 1)))[i]? = some (aI (k + 1 : Nat)) := A2e (List.getElem?_set_self hia)
   have hs2 : ((k + 1 : Nat) : Int) = (k : Int) + 1 := by omega
   rw [hs2] at hak2
   have hal2 : (aN (a.set i (k + 1))).length = Fs.length := by rw [RY, List.length_set]; exact hT.ok.1
   by_cases hkl : k < F.l.length
   ·obtain ⟨x, c, hxc⟩ : ∃ x c, F.l[k]? = some (x, c) := ⟨F.l[k].1, F.l[k].2, List.getElem?_eq_getElem hkl⟩
    have hx1 := hea k x c hxc
    obtain ⟨hT2, hm2, hl2⟩ := hT.give hF hk hxc
    rw [hi2] at hT2 hl2
    have hst := IE Fs hFs (a.set i (k + 1)) hT2.ok
    unfold Qb at hst
    rw [hfv] at hst
    have hst : ∀ (g n : Nat) (H : A1), H g = some (.cells 3 (aN (a.set i (k + 1)))) → APureAt Tryz.prog 78 [.sl 2 fv .ro, .slm 1 g 0 Fs.length] n H (BX (PM Fs (a.set i (k + 1)))) := hst
    
    have he2 : ¬ (F.l.length : Int) < (k : Int) + 1 := by omega
    have hsk2 := Xx Fs (a.set i (k + 1)) i2
    have hmul : PZ Fs a * (Fs.length + 1) = PZ Fs (a.set i (k + 1)) * (Fs.length + 1) + (Fs.length + 1) := by rw [← hm2, Nat.succ_mul]
    unfold GivC atO at _hO
    generalize hav : aN a = av at *
    generalize hav2 : aN (a.set i (k + 1)) = av2 at *
    have _hb := Owns.boxF _hO
    dsimp only [AE, A7, AF] at _hb
    repeat' (first | simp -implicitDefEqProofs [I4, Jt, Ps, QV, Kh, -getElem?_pos, Ay, Ax, hfl, hi', hi, h0', hF2, hxl, hal, hal2, hak, hak2, he', he2, hx1, hsl, hmod2, hmod3, hmod, _hb] | simp (disch := omega) only [A6] | ((with_reducible refine appKS.chk ?_); refine Owns.appF (by assumption) (A0 _) (by simp; omega) (by decide) (fun _z _t _n _H _hle _hO => ?_); have _hb := Owns.boxF _hO; dsimp only [AE, A7, AF] at _hb) | ((with_reducible refine appKS.chk ?_); refine Owns.appS (by assumption) (A0 _) (by simp; omega) (by decide) (fun _z2 _t2 _n _H _hle _hO => ?_); have _hb := Owns.boxF _hO; dsimp only [AE, A7, AF] at _hb) | ((with_reducible refine B0 78 ?_); refine CallK.ofAt (hst g3 _ _ (by simp (disch := omega) only [upd_ne]; exact (_hO.box (g3, _) (by simp)).1)) (A0 _) ?_) | (with_reducible first | exact AG | refine BB ?_) | ((with_reducible refine EO (fun _g _hg _hO => ?_)); (have _hb := And.intro _hb _hO.boxF); dsimp only [AE, A7, AF] at _hb) | ((with_reducible refine EL (fun _g _hg _hO => ?_))) | (with_reducible first | exact AG | refine IX ?_ | intro _g _hg | refine A5 ?_ ?_ | intro _hc) | omega)
    subst hfv
    subst hav2
    exact hJ (PZ Fs (a.set i (k + 1)) * (Fs.length + 1) + skN Fs (a.set i (k + 1)) (JZ i2 Fs.length)) _ (by omega) ⟨i2, left, _, _, _, _, _, _, _, _, .inr hmlt, rfl, hT2, by omega, hll, rfl, GivC.snoc _hO ⟨by omega, by omega⟩⟩
   ·have hke : k = F.l.length := by omega
    rw [hke] at hk
    obtain ⟨hT2, hm2, hl2⟩ := hT.stop hF hk
    rw [hi2] at hT2 hl2
    rw [← hke] at hT2 hm2 hl2
    obtain ⟨l2, rfl⟩ : ∃ l2, left = l2 + 1 := ⟨left - 1, by omega⟩
    have he2 : (F.l.length : Int) < (k : Int) + 1 := by omega
    have hsk2 := Xx Fs (a.set i (k + 1)) i2
    have hmul : PZ Fs a * (Fs.length + 1) = PZ Fs (a.set i (k + 1)) * (Fs.length + 1) + (Fs.length + 1) := by rw [← hm2, Nat.succ_mul]
    unfold GivC atO at _hO
    generalize hav : aN a = av at *
    generalize hav2 : aN (a.set i (k + 1)) = av2 at *
    have _hb := Owns.boxF _hO
    dsimp only [AE, A7, AF] at _hb
    repeat' (first | simp -implicitDefEqProofs [I4, Jt, Ps, QV, Kh, -getElem?_pos, Ay, Ax, hfl, hi', hi, h0', hF2, hxl, hal, hal2, hak, hak2, he', he2, hsl, hmod2, hmod3, hmod, _hb] | simp (disch := omega) only [A6] | (with_reducible first | exact AG | refine BB ?_) | ((with_reducible refine EO (fun _g _hg _hO => ?_)); (have _hb := And.intro _hb _hO.boxF); dsimp only [AE, A7, AF] at _hb) | ((with_reducible refine EL (fun _g _hg _hO => ?_))) | ((with_reducible refine appKS.chk ?_); first | ((refine Ih ?_ ?_ (fun _x _n _H _hle _hO _hb => ?_)); rotate_left 2; dsimp only [AE, A7, AF] at _hb) | ((refine Im ?_ ?_ (fun _x _n _H _hle _hO _hb => ?_)); rotate_left 2; dsimp only [AE, A7, AF] at _hb)) | (with_reducible first | exact AG | refine IX ?_ | intro _g _hg | refine A5 ?_ ?_ | intro _hc) | omega)
    subst hfv
    subst hav2
    exact hJ (PZ Fs (a.set i (k + 1)) * (Fs.length + 1) + skN Fs (a.set i (k + 1)) (JZ i2 Fs.length)) _ (by omega) ⟨i2, l2, _, _, _, _, _, _, _, _, .inr hmlt, rfl, hT2, by omega, by omega, rfl, Owns.set1 _hO (by simp; omega) (by simp; omega) _ _⟩
 ·have hl0 : left = 0 := by omega
  subst hl0
  obtain ⟨hd, hfi⟩ := hT.done hle
  have hst := IE Fs hFs a hT.ok
  rw [hfi] at hst
  subst hd
  have hxL := EX (Dc Fs).l
  have htL := EH c0 (Dc Fs).l
  have _hb := Owns.boxF _hO
  dsimp only [AE, A7, AF] at _hb
  subst hR
  unfold Qb at *
  generalize Fs.map aG = fv at *
  repeat' (first | simp -implicitDefEqProofs [I4, XC, c47, -getElem?_pos, Ay, Ax, Es, hfl, _hb] | simp (disch := omega) only [A6] | ((with_reducible refine appKS.chk ?_); refine Owns.appS (by assumption) (A0 _) (by simp; omega) (by decide) (fun _z2 _t2 _n _H _hle _hO => ?_); have _hb := Owns.boxF _hO; dsimp only [AE, A7, AF] at _hb) | ((with_reducible refine B0 78 ?_); refine CallK.ofAt (hst g3 _ _ (_hO.box (g3, _) (by simp)).1) (A0 _) ?_) | (with_reducible first | exact AG | refine BB ?_) | ((with_reducible refine EO (fun _g _hg _hO => ?_)); (have _hb := And.intro _hb _hO.boxF); dsimp only [AE, A7, AF] at _hb) | ((with_reducible refine EL (fun _g _hg _hO => ?_))) | (with_reducible first | exact AG | refine IX ?_ | intro _g _hg | refine A5 ?_ ?_ | intro _hc) | omega)
  rw [hV]
  exact Df (Af (_hO.sim0 (A0 _)) (Af (_hO.sim1 (A0 _)) (A0 _)))
theorem Xj (Fs : List Fut) (hFs : FsOk Fs) (hL : (Dc Fs).l.length ≤ 20000) : APure Tryz.prog 47 [Qb Fs] (aG (Dc Fs)) := by
 have hV := FZ (Dc Fs)
 have hfl : (Fs.map aG).length = Fs.length := by simp
 have hl := Yw Fs hFs hL
 have hst := IE Fs hFs (HG Fs 0 0) (Qx Fs 0 0 fun G hG => by omega)
 have hz0 : PM Fs (HG Fs 0 0) = (Dc Fs).cur := by rw [(Jv Fs).2, Yf, (Rh Fs _ rfl).2.1]; rfl
 rw [hz0] at hst
 have hz := V5 Fs
 rw [(Jv Fs).2] at hst hz
 have hlen := hFs.len
 have hml : Fs.length ≤ maxLen := by simp [maxLen]; omega
 generalize aG (Dc Fs) = V at *
 refine A8 Tryz.func47 A4x rfl fun n H hH => ?_
 have hl := hl n H V _ hV
 unfold Qb at *
 generalize Fs.map aG = fv at *
 have _hb : True := trivial
 have _hO : Owns n H [] [⟨3, 1, CV, []⟩] n H := (Owns.start hH).addNil _ _ _
 repeat' (first | simp -implicitDefEqProofs [c47, -getElem?_pos, Ay, Ax, Es, hfl, hml, _hb] | simp (disch := omega) only [A6] | (refine T9 (by assumption) (fun _g _hg _hO => ?_); have _hb := Owns.boxF _hO; dsimp only [AE, A7, AF] at _hb) | ((with_reducible refine B0 78 ?_); refine CallK.ofAt (hst _ _ _ (by simp (disch := omega) only [upd_ne, AP, Int.toNat_natCast, hz])) (A0 _) ?_) | (refine Hj (by assumption) (fun _g _hg _hO => ?_); simp only [List.length_cons, List.length_nil, Nat.zero_add] at _hO; have _hb := _hO.boxF; dsimp only [AE, A7, AF] at _hb) | (with_reducible first | exact AG | refine BB ?_) | ((with_reducible refine EO (fun _g _hg _hO => ?_)); (have _hb := And.intro _hb _hO.boxF); dsimp only [AE, A7, AF] at _hb) | ((with_reducible refine EL (fun _g _hg _hO => ?_))) | ((with_reducible refine appKS.chk ?_); first | ((refine Ih ?_ ?_ (fun _x _n _H _hle _hO _hb => ?_)); rotate_left 2; dsimp only [AE, A7, AF] at _hb) | ((refine Im ?_ ?_ (fun _x _n _H _hle _hO _hb => ?_)); rotate_left 2; dsimp only [AE, A7, AF] at _hb)) | (with_reducible first | exact AG | refine IX ?_ | intro _g _hg | refine A5 ?_ ?_ | intro _hc) | omega)
 rw [hz] at _hO ⊢
 refine hl _ _ _ ⟨?_, ?_, ?_⟩ _ _ 0 .nil _ _ (_hO.set0 (by simp; omega) _ _) _ rfl <;> omega
def KE (N : Nat) (F : Fut) (i : Nat) : List Int := ((F.l.take i).map (·.1)).drop (i - N)
def Fd (k o N : Int) (F : Fut) (i : Nat) (m l : Int) (s : Bool) : Ad × AQ :=
 if k = 3 then ((F.l.drop i).map fun e => (CH o e.1 N, e.2), F.fin)
 else if k = 4 then ((F.l.drop i).filter fun e => FE o e.1 N, F.fin)
 else if k = 6 then ((F.l.drop i).drop (N.toNat - i), F.fin)
 else if k = 7 then Di (fun x => FE o x N) (F.l.drop i) F.fin
 else if k = 8 then (if s = true then GG (fun x => FE o x N) (F.l.drop i) else F.l.drop i, F.fin)
 else if k = 9 then (IT (CH o) m (F.l.drop i), F.fin)
 else if k = 10 then (EB (CH o) N.toNat (KE N.toNat F i) (F.l.drop i), F.fin)
 else (GB l (F.l.drop i), F.fin)
def WM (k : Int) : Prop := k = 3 ∨ k = 4 ∨ k = 6 ∨ k = 7 ∨ k = 8 ∨ k = 9 ∨ k = 10 ∨ k = 11
theorem Z2 {k o N : Int} {F : Fut} (hk : WM k) : B6 k o N F = ⟨F.cur, (Fd k o N F 0 N (-1) true).1, (Fd k o N F 0 N (-1) true).2⟩ := by
 unfold B6 Fd
 rcases hk with rfl | rfl | rfl | rfl | rfl | rfl | rfl | rfl <;> simp [KE]
theorem YU {k o N : Int} {F : Fut} {m l : Int} {s : Bool} (hk : WM k) : Fd k o N F F.l.length m l s = ([], F.fin) := by
 unfold Fd
 rw [List.drop_length]
 rcases hk with rfl | rfl | rfl | rfl | rfl | rfl | rfl | rfl <;> simp [Di, GG, IT, EB, GB]
structure PE (e : AJ) (g2 g3 g4 g5 : Nat) (m l : Int) (s : Bool) (en : AQ) (i : Nat) : Prop where
 e2 : get e 2 = .ptr g2 0
 e3 : get e 3 = .ptr g3 0
 e4 : get e 4 = .ptr g4 0
 e5 : get e 5 = .ptr g5 0
 e6 : get e 6 = aI m
 e7 : get e 7 = aI l
 e8 : get e 8 = .bool s
 e9 : get e 9 = BX en
 ex : get e 10 = aI i
variable {x : Int} {c : AQ}
theorem Ys {Q : AExit → AS → Prop} {e : AJ} {g2 g3 g4 g5 n n1 i : Nat} {H H1 : A1} {m l : Int} {s : Bool} {en c0 c : AQ} {F : Fut} {xv tv : List AV} {ob : AObj} {d : Ad} {z z2 : Nat} {t t2 : Tok} {x y : Int} {give : Bool} (hp : PE e g2 g3 g4 g5 m l s en i) (e11 : get e 11 = aI x) (e12 : get e 12 = .bool give) (hA : GivB F xv tv) (hxc : F.l[i]? = some (y, c)) (hd : d.length ≤ 100000) (hFl : F.l.length ≤ 6000) (hgg : n ≤ g2 ∧ g2 < g3 ∧ g3 < g4 ∧ g4 < g5)
  (_hO : GivI n H g5 g4 [(g3, Cq (.sl 1 xv .ro) (.sl 1 tv .ro)), (g2, ob)] c0 d z t z2 t2 n1 H1)
  (hk : ∀ (e : AJ) (n' : Nat) (H' : A1) (z z2 : Nat) (t t2 : Tok), PE e g2 g3 g4 g5 m l s en i → GivI n H g5 g4 [(g3, Cq (.sl 1 xv .ro) (.sl 1 tv .ro)), (g2, ob)] c0 (if give = true then d ++ [(x, c)] else d) z t z2 t2 n' H' → Q .normal ⟨e, n', H'⟩) :
  aw Tryz.prog c51_k5 Q ⟨e, n1, H1⟩ := by
 obtain ⟨hxl, htl, haa, hea⟩ := hA
 have hil := (List.getElem?_eq_some_iff.1 hxc).1
 have htx := haa (i + 1) (by omega)
 rw [FI hxc] at htx
 obtain ⟨e2, e3, e4, e5, e6, e7, e8, e9, ex⟩ := hp
 have hxL := EX d
 have htL := EH c0 d
 have _hb := Owns.boxF _hO
 dsimp only [AE, A7, AF] at _hb
 
 cases give with
 | false =>
  repeat' (first | simp -implicitDefEqProofs [Qs, -getElem?_pos, e2, e3, e4, e5, e6, e7, e8, e9, ex, e11, e12, _hb] | simp (disch := omega) only [A6] | (with_reducible first | exact AG | refine BB ?_) | ((with_reducible refine EO (fun _g _hg _hO => ?_)); (have _hb := And.intro _hb _hO.boxF); dsimp only [AE, A7, AF] at _hb) | ((with_reducible refine EL (fun _g _hg _hO => ?_))) | ((with_reducible refine appKS.chk ?_); first | ((refine Ih ?_ ?_ (fun _x _n _H _hle _hO _hb => ?_)); rotate_left 2; dsimp only [AE, A7, AF] at _hb) | ((refine Im ?_ ?_ (fun _x _n _H _hle _hO _hb => ?_)); rotate_left 2; dsimp only [AE, A7, AF] at _hb)) | (with_reducible first | exact AG | refine Bv ?_ | intro _g _hg | refine A5 ?_ ?_ | intro _hc) | omega)
  exact hk _ _ _ _ _ _ _ ⟨rfl, rfl, rfl, rfl, rfl, rfl, rfl, rfl, rfl⟩ _hO
 | true =>
  repeat' (first | simp -implicitDefEqProofs [Qs, Wr, -getElem?_pos, Ay, Ax, e2, e3, e4, e5, e6, e7, e8, e9, ex, e11, e12, htx, htl, _hb] | simp (disch := omega) only [A6] | ((with_reducible refine appKS.chk ?_); refine Owns.appF (by assumption) (A0 _) (by simp; omega) (by decide) (fun _z _t _n _H _hle _hO => ?_); have _hb := Owns.boxF _hO; dsimp only [AE, A7, AF] at _hb) | ((with_reducible refine appKS.chk ?_); refine Owns.appS (by assumption) (A0 _) (by simp; omega) (by decide) (fun _z2 _t2 _n _H _hle _hO => ?_); have _hb := Owns.boxF _hO; dsimp only [AE, A7, AF] at _hb) | (with_reducible first | exact AG | refine BB ?_) | ((with_reducible refine EO (fun _g _hg _hO => ?_)); (have _hb := And.intro _hb _hO.boxF); dsimp only [AE, A7, AF] at _hb) | ((with_reducible refine EL (fun _g _hg _hO => ?_))) | (with_reducible first | exact AG | refine Bv ?_ | intro _g _hg | refine A5 ?_ ?_ | intro _hc) | omega)
  exact hk _ _ _ _ _ _ _ ⟨rfl, rfl, rfl, rfl, rfl, rfl, rfl, rfl, rfl⟩ (GivI.snoc _hO (by simp; omega))
def Oj (k o N : Int) (F : Fut) : Prop := ∀ (i : Nat) (x : Int) (c : AQ) (m l : Int) (s : Bool), F.l[i]? = some (x, c) → AW m → (k ≠ 9 → m = N) →
 ∀ (Q : AExit → AS → Prop) (e : AJ) (g2 g3 g4 g5 n1 : Nat) (H1 : A1) (en : AQ) (w w2 : AV) (xv tv : List AV), GivB F xv tv → PE e g2 g3 g4 g5 m l s en i → get e 11 = aI x → get e 12 = .bool true → H1 g2 = some (Ah k o N w w2) → H1 g3 = some (Cq (.sl 1 xv .ro) (.sl 1 tv .ro)) → w.one = true → w2.one = true →
  (∀ (give : Bool) (x' m' l' : Int) (s' : Bool), AW m' → (k ≠ 9 → m' = N) → Fd k o N F i m l s = (if give = true then (x', c) :: (Fd k o N F (i + 1) m' l' s').1 else (Fd k o N F (i + 1) m' l' s').1, (Fd k o N F (i + 1) m' l' s').2) → ∀ e', PE e' g2 g3 g4 g5 m' l' s' en i → get e' 11 = aI x' → get e' 12 = .bool give → aw Tryz.prog c51_k5 Q ⟨e', n1, H1⟩) →
  (∀ en', Fd k o N F i m l s = ([], en') → ∀ e', PE e' g2 g3 g4 g5 m l s en' i → Q (.exit 0) ⟨e', n1, H1⟩) → aw Tryz.prog c51_k22 Q ⟨e, n1, H1⟩
theorem A51 (o N : Int) (F : Fut) (ho : 1 ≤ o ∧ o ≤ 6) (hN : AW N) (h0 : o = 6 → 1 ≤ N) (hF : It F) : Oj 3 o N F := by
 intro i x c m l s hxc hm hmN Q e g2 g3 g4 g5 n1 H1 en w w2 xv tv hA hp e11 e12 h2 h3 hw hw2 hk _
 obtain ⟨e2, e3, e4, e5, e6, e7, e8, e9, ex⟩ := hp
 have hap := JN o x N ho (hF _ (List.mem_of_getElem? hxc)) hN h0
 have hk := hk true (CH o x N) m l s hm hmN (by unfold Fd; rw [BY hxc]; simp)
 
 repeat' (first | simp -implicitDefEqProofs [BO, Be, -getElem?_pos, e2, e3, e4, e5, e6, e7, e8, e9, ex, e11, e12, h2, h3] | simp (disch := omega) only [A6] | ((with_reducible refine AO 80 ?_); refine' Aa (hap) ?_) | (with_reducible first | exact AG | refine Bu ?_ | intro _g _hg | refine A5 ?_ ?_ | intro _hc) | omega)
 exact hk _ ⟨rfl, rfl, rfl, rfl, rfl, rfl, rfl, rfl, rfl⟩ rfl rfl
theorem A5c (o N : Int) (F : Fut) (ho : 1 ≤ o ∧ o ≤ 3) (hN : AW N) (h0 : o = 3 → 1 ≤ N) (hF : It F) : Oj 4 o N F := by
 intro i x c m l s hxc hm hmN Q e g2 g3 g4 g5 n1 H1 en w w2 xv tv hA hp e11 e12 h2 h3 hw hw2 hk _
 obtain ⟨e2, e3, e4, e5, e6, e7, e8, e9, ex⟩ := hp
 have hho := PG o x N ho (hF _ (List.mem_of_getElem? hxc)) hN h0
 have hk := hk (FE o x N) x m l s hm hmN (by unfold Fd; rw [BY hxc]; simp [List.filter_cons])
 
 repeat' (first | simp -implicitDefEqProofs [BO, Be, Bp, -getElem?_pos, e2, e3, e4, e5, e6, e7, e8, e9, ex, e11, e12, h2, h3] | simp (disch := omega) only [A6] | ((with_reducible refine AO 81 ?_); refine' Aa (hho) ?_) | (with_reducible first | exact AG | refine Bu ?_ | intro _g _hg | refine A5 ?_ ?_ | intro _hc) | omega)
 exact hk _ ⟨rfl, rfl, rfl, rfl, rfl, rfl, rfl, rfl, rfl⟩ rfl rfl
theorem A4m (o N : Int) (F : Fut) (hN : 0 ≤ N) : Oj 6 o N F := by
 intro i x c m l s hxc hm hmN Q e g2 g3 g4 g5 n1 H1 en w w2 xv tv hA hp e11 e12 h2 h3 hw hw2 hk _
 obtain ⟨e2, e3, e4, e5, e6, e7, e8, e9, ex⟩ := hp
 have hk := hk (decide (N ≤ i)) x m l s hm hmN (by
  unfold Fd
  rw [BY hxc]
  by_cases h : N ≤ i
  ·have e1 : N.toNat - i = 0 := by omega
   have e2 : N.toNat - (i + 1) = 0 := by omega
   simp [h, e1, e2]
  ·have e1 : N.toNat - i = N.toNat - (i + 1) + 1 := by omega
   simp [h, e1])
 
 repeat' (first | simp -implicitDefEqProofs [BO, Be, Bp, CC, -getElem?_pos, e2, e3, e4, e5, e6, e7, e8, e9, ex, e11, e12, h2, h3] | simp (disch := omega) only [A6] | (with_reducible first | exact AG | refine Bu ?_ | intro _g _hg | refine A5 ?_ ?_ | intro _hc) | omega)
 exact hk _ ⟨rfl, rfl, rfl, rfl, rfl, rfl, rfl, rfl, rfl⟩ rfl rfl
theorem A4h (o N : Int) (F : Fut) (hFl : F.l.length ≤ 6000) (ho : 1 ≤ o ∧ o ≤ 3) (hN : AW N) (h0 : o = 3 → 1 ≤ N) (hF : It F) : Oj 7 o N F := by
 intro i x c m l s hxc hm hmN Q e g2 g3 g4 g5 n1 H1 en w w2 xv tv hA hp e11 e12 h2 h3 hw hw2 hk hx
 obtain ⟨e2, e3, e4, e5, e6, e7, e8, e9, ex⟩ := hp
 obtain ⟨hxl, htl, haa, hea⟩ := hA
 have hil := (List.getElem?_eq_some_iff.1 hxc).1
 have htx := haa (i + 1) (by omega)
 rw [FI hxc] at htx
 have hho := PG o x N ho (hF _ (List.mem_of_getElem? hxc)) hN h0
 
 cases hh : FE o x N with
 | true =>
  rw [hh] at hho
  have hk := hk true x m l s hm hmN (by unfold Fd; rw [BY hxc]; simp [Di, hh])
  repeat' (first | simp -implicitDefEqProofs [BO, Be, Bp, CC, Cs, Ej, G8, HF, -getElem?_pos, e2, e3, e4, e5, e6, e7, e8, e9, ex, e11, e12, h2, h3] | simp (disch := omega) only [A6] | ((with_reducible refine AO 81 ?_); refine' Aa (hho) ?_) | (with_reducible first | exact AG | refine Bu ?_ | intro _g _hg | refine A5 ?_ ?_ | intro _hc) | omega)
  exact hk _ ⟨rfl, rfl, rfl, rfl, rfl, rfl, rfl, rfl, rfl⟩ rfl rfl
 | false =>
  rw [hh] at hho
  have hx := hx c (by unfold Fd; rw [BY hxc]; simp [Di, hh])
  repeat' (first | simp -implicitDefEqProofs [BO, -getElem?_pos, e2, e3, e4, e5, e6, e7, e8, e9, ex, e11, e12, h2, h3, htx] | simp (disch := omega) only [A6] | ((with_reducible refine AO 81 ?_); refine' Aa (hho) ?_) | (with_reducible first | exact AG | refine Bu ?_ | intro _g _hg | refine A5 ?_ ?_ | intro _hc) | omega)
  exact hx _ ⟨rfl, rfl, rfl, rfl, rfl, rfl, rfl, rfl, rfl⟩
theorem A52 (o N : Int) (F : Fut) (ho : 1 ≤ o ∧ o ≤ 3) (hN : AW N) (h0 : o = 3 → 1 ≤ N) (hF : It F) : Oj 8 o N F := by
 intro i x c m l s hxc hm hmN Q e g2 g3 g4 g5 n1 H1 en w w2 xv tv hA hp e11 e12 h2 h3 hw hw2 hk hx
 obtain ⟨e2, e3, e4, e5, e6, e7, e8, e9, ex⟩ := hp
 have hho := PG o x N ho (hF _ (List.mem_of_getElem? hxc)) hN h0
 
 cases s with
 | true =>
  cases hh : FE o x N with
  | true =>
   rw [hh] at hho
   have hk := hk false x m l true hm hmN (by unfold Fd; rw [BY hxc]; simp [GG, hh])
   repeat' (first | simp -implicitDefEqProofs [BO, Be, Bp, CC, Cs, Ic, Jy, -getElem?_pos, e2, e3, e4, e5, e6, e7, e8, e9, ex, e11, e12, h2, h3] | simp (disch := omega) only [A6] | ((with_reducible refine AO 81 ?_); refine' Aa (hho) ?_) | (with_reducible first | exact AG | refine Bu ?_ | intro _g _hg | refine A5 ?_ ?_ | intro _hc) | omega)
   exact hk _ ⟨rfl, rfl, rfl, rfl, rfl, rfl, rfl, rfl, rfl⟩ rfl rfl
  | false =>
   rw [hh] at hho
   have hk := hk true x m l false hm hmN (by unfold Fd; rw [BY hxc]; simp [GG, hh])
   repeat' (first | simp -implicitDefEqProofs [BO, Be, Bp, CC, Cs, Ic, Jy, -getElem?_pos, e2, e3, e4, e5, e6, e7, e8, e9, ex, e11, e12, h2, h3] | simp (disch := omega) only [A6] | ((with_reducible refine AO 81 ?_); refine' Aa (hho) ?_) | (with_reducible first | exact AG | refine Bu ?_ | intro _g _hg | refine A5 ?_ ?_ | intro _hc) | omega)
   exact hk _ ⟨rfl, rfl, rfl, rfl, rfl, rfl, rfl, rfl, rfl⟩ rfl rfl
 | false =>
  have hk := hk true x m l false hm hmN (by unfold Fd; rw [BY hxc]; simp)
  repeat' (first | simp -implicitDefEqProofs [BO, Be, Bp, CC, Cs, Ic, Jy, -getElem?_pos, e2, e3, e4, e5, e6, e7, e8, e9, ex, e11, e12, h2, h3] | simp (disch := omega) only [A6] | ((with_reducible refine AO 81 ?_); refine' Aa (hho) ?_) | (with_reducible first | exact AG | refine Bu ?_ | intro _g _hg | refine A5 ?_ ?_ | intro _hc) | omega)
  exact hk _ ⟨rfl, rfl, rfl, rfl, rfl, rfl, rfl, rfl, rfl⟩ rfl rfl
theorem A4q (o N : Int) (F : Fut) (ho : 1 ≤ o ∧ o ≤ 5) (hF : It F) : Oj 9 o N F := by
 intro i x c m l s hxc hm hmN Q e g2 g3 g4 g5 n1 H1 en w w2 xv tv hA hp e11 e12 h2 h3 hw hw2 hk _
 obtain ⟨e2, e3, e4, e5, e6, e7, e8, e9, ex⟩ := hp
 have hx0 := hF _ (List.mem_of_getElem? hxc)
 have hap := JN o m x (by omega) hm hx0 (fun h => by omega)
 have hk := hk true (CH o m x) (CH o m x) l s (PR ho m x hm hx0) (fun h => absurd rfl h) (by unfold Fd; rw [BY hxc]; simp [IT])
 
 repeat' (first | simp -implicitDefEqProofs [BO, Be, Bp, CC, Cs, Ej, UY, -getElem?_pos, e2, e3, e4, e5, e6, e7, e8, e9, ex, e11, e12, h2, h3] | simp (disch := omega) only [A6] | ((with_reducible refine AO 80 ?_); refine' Aa (hap) ?_) | (with_reducible first | exact AG | refine Bu ?_ | intro _g _hg | refine A5 ?_ ?_ | intro _hc) | omega)
 exact hk _ ⟨rfl, rfl, rfl, rfl, rfl, rfl, rfl, rfl, rfl⟩ rfl rfl
theorem A3u (o N : Int) (F : Fut) : Oj 11 o N F := by
 intro i x c m l s hxc hm hmN Q e g2 g3 g4 g5 n1 H1 en w w2 xv tv hA hp e11 e12 h2 h3 hw hw2 hk _
 obtain ⟨e2, e3, e4, e5, e6, e7, e8, e9, ex⟩ := hp
 have hk := hk (!decide (x = l)) x m x s hm hmN (by
  unfold Fd
  rw [BY hxc]
  by_cases h : x = l
  ·simp [GB, h]
  ·simp [GB, h])
 
 repeat' (first | simp -implicitDefEqProofs [BO, Be, Bp, CC, Cs, Ej, G8, TY, -getElem?_pos, e2, e3, e4, e5, e6, e7, e8, e9, ex, e11, e12, h2, h3] | simp (disch := omega) only [A6] | (with_reducible first | exact AG | refine Bu ?_ | intro _g _hg | refine A5 ?_ ?_ | intro _hc) | omega)
 exact hk _ ⟨rfl, rfl, rfl, rfl, rfl, rfl, rfl, rfl, rfl⟩ rfl rfl
theorem PT (N : Nat) (F : Fut) {i : Nat} (h : i ≤ F.l.length) : (KE N F i).length = min i N := by
 unfold KE; simp; omega
theorem W5 {N : Nat} (hN : 1 ≤ N) {F : Fut} {i : Nat} (h : F.l[i]? = some (x, c)) : KE N F (i + 1) = (KE N F i ++ [x]).drop ((KE N F i).length + 1 - N) := by
 have hi := (List.getElem?_eq_some_iff.1 h).1
 rw [PT N F (Nat.le_of_lt hi)]
 have e : (F.l.take (i + 1)).map (·.1) = (F.l.take i).map (·.1) ++ [x] := by rw [List.take_add_one, h]; simp
 have hl : ((F.l.take i).map (·.1)).length = i := by simp; omega
 unfold KE
 rw [e]
 obtain ⟨P, hP⟩ : ∃ P, (F.l.take i).map (·.1) = P := ⟨_, rfl⟩
 rw [hP] at hl ⊢
 by_cases c1 : i < N
 ·have h1 : i + 1 - N = 0 := by omega
  have h2 : i - N = 0 := by omega
  have h3 : min i N + 1 - N = 0 := by omega
  rw [h1, h2, h3]; simp
 ·have h1 : i + 1 - N = (i - N) + 1 := by omega
  have h3 : min i N + 1 - N = 1 := by omega
  have hA : (P ++ [x]).drop (i - N + 1) = P.drop (i - N + 1) ++ [x] := List.drop_append_of_le_length (by omega)
  have hB : (P.drop (i - N) ++ [x]).drop 1 = (P.drop (i - N)).drop 1 ++ [x] := List.drop_append_of_le_length (by simp; omega)
  rw [h1, h3, hA, hB, List.drop_drop]
theorem UV {f : Int → Int → Int} : ∀ {l : List Int} {j : Nat} {y : Int}, 1 ≤ j → l[j]? = some y → G0 f (l.take (j + 1)) = f (G0 f (l.take j)) y
 | [], j, y, _, h => by simp at h
 | x :: l, j + 1, y, _, h => by
  have h' : l[j]? = some y := by simpa using h
  have hj := (List.getElem?_eq_some_iff.1 h').1
  simp only [List.take_succ_cons, G0]
  rw [List.take_add_one, h']
  simp
theorem A49 (o N : Int) (F : Fut) (hFl : F.l.length ≤ 6000) (ho : 1 ≤ o ∧ o ≤ 5) (hN : 1 ≤ N ∧ N ≤ 8) (hF : It F) : Oj 10 o N F := by
 intro i x c m l s hxc hm hmN Q e g2 g3 g4 g5 n1 H1 en w w2 xv tv hA hp e11 e12 h2 h3 hw hw2 hk _
 obtain ⟨e2, e3, e4, e5, e6, e7, e8, e9, ex⟩ := hp
 have hil := (List.getElem?_eq_some_iff.1 hxc).1
 have hln := PT N.toNat F (Nat.le_of_lt hil)
 have hnx := W5 (N := N.toNat) (by omega) hxc
 obtain ⟨hxl, htl, haa, hea⟩ := hA
 
 by_cases hw0 : i + 1 < N.toNat
 ·have hk := hk false x m l s hm hmN (by
   unfold Fd
   rw [BY hxc]
   have : (KE N.toNat F i).length + 1 < N.toNat := by omega
   have e0 : (KE N.toNat F i).length + 1 - N.toNat = 0 := by omega
   rw [e0, List.drop_zero] at hnx
   simp [EB, this, hnx])
  have hlt : ¬ N - 1 ≤ (i : Int) := by omega
  repeat' (first | simp -implicitDefEqProofs [BO, Be, Bp, CC, Cs, Ej, G8, HF, Ow, -getElem?_pos, e2, e3, e4, e5, e6, e7, e8, e9, ex, e11, e12, h2, h3, hlt] | simp (disch := omega) only [A6] | (with_reducible first | exact AG | refine Bu ?_ | intro _g _hg | refine A5 ?_ ?_ | intro _hc) | omega)
  exact hk _ ⟨rfl, rfl, rfl, rfl, rfl, rfl, rfl, rfl, rfl⟩ rfl rfl
 ·have hlt : N - 1 ≤ (i : Int) := by omega
  obtain ⟨W, hW⟩ : ∃ W, KE N.toNat F (i + 1) = W := ⟨_, rfl⟩
  have hWl : W.length = N.toNat := by rw [← hW, PT _ _ hil]; omega
  obtain ⟨b, hb⟩ : ∃ b : Nat, b + N.toNat = i + 1 := ⟨i + 1 - N.toNat, by omega⟩
  have hWx : ∀ j, j < N.toNat → ∃ y, W[j]? = some y ∧ xv[b + j]? = some (aI y) ∧ AW y := by
   intro j hj
   obtain ⟨y, d, hyd⟩ : ∃ y d, F.l[b + j]? = some (y, d) := ⟨(F.l[b + j]'(by omega)).1, (F.l[b + j]'(by omega)).2, List.getElem?_eq_getElem (by omega)⟩
   refine ⟨y, ?_, hea _ _ _ hyd, hF _ (List.mem_of_getElem? hyd)⟩
   rw [← hW]
   unfold KE
   rw [List.getElem?_drop, List.getElem?_map, List.getElem?_take_of_lt (by omega), show i + 1 - N.toNat + j = b + j by omega, hyd]; rfl
  have hfo : ∀ j, 1 ≤ j → j ≤ N.toNat → AW (G0 (CH o) (W.take j)) := fun j _ _ => Sn (PR ho) _ fun y hy => by
   obtain ⟨q, hq, e⟩ := List.getElem_of_mem (List.mem_of_mem_take hy)
   obtain ⟨y', h1, _, h3⟩ := hWx q (by omega)
   rw [List.getElem?_eq_getElem hq] at h1
   injection h1 with h1
   rw [← e, h1]; exact h3
  have hk := hk true (G0 (CH o) W) m l s hm hmN (by
   unfold Fd
   rw [BY hxc]
   have : ¬ (KE N.toNat F i).length + 1 < N.toNat := by omega
   simp [EB, this, ← hnx, hW])
  obtain ⟨y0, hy0, hx0, hn0⟩ := hWx 0 (by omega)
  rw [Nat.add_zero] at hx0
  have hf1 : G0 (CH o) (W.take 1) = y0 := by
   cases W with
   | nil => simp at hy0
   | cons y W => simp at hy0; subst hy0; rfl
  have hix : (i : Int) - N + 1 = (b : Int) := by omega
  have hix2 : (i : Int) - N + 2 = (b : Int) + 1 := by omega
  have hbl : b < xv.length := by omega
  repeat' (first | simp -implicitDefEqProofs [BO, Be, Bp, CC, Cs, Ej, G8, HF, Ow, UC, -getElem?_pos, e2, e3, e4, e5, e6, e7, e8, e9, ex, e11, e12, h2, h3, hlt, hix, hix2, hx0] | simp (disch := omega) only [A6] | (with_reducible first | exact AG | refine Bu ?_ | intro _g _hg | refine A5 ?_ ?_ | intro _hc) | omega)
  refine LoopK.go (fun q st => ∃ j : Nat, 1 ≤ j ∧ j + q = N.toNat ∧ st = ⟨[(2, .ptr g2 0), (3, .ptr g3 0), (4, .ptr g4 0), (5, .ptr g5 0), (6, aI m), (7, aI l), (8, .bool s), (9, BX en), (10, aI i), (11, aI (G0 (CH o) (W.take j))), (12, .bool true), (13, aI (b + j : Nat))], n1, H1⟩) (N.toNat - 1) ⟨1, by omega, by omega, by rw [hf1]; rfl⟩ ?_
  rintro q st ⟨j, hj1, hq, rfl⟩ J hJ
  by_cases hj : j < N.toNat
  ·obtain ⟨y, hy, hxy, hny⟩ := hWx j hj
   have hap := JN o (G0 (CH o) (W.take j)) y (by omega) (hfo j hj1 (by omega)) hny (fun h => by omega)
   rw [← UV (f := CH o) hj1 hy] at hap
   have hle : ((b + j : Nat) : Int) ≤ i := by omega
   have hle' : (b : Int) + j ≤ i := by omega
   generalize hB : b + j = B at *
   repeat' (first | simp -implicitDefEqProofs [QX, XZ, XS, -getElem?_pos, h2, h3, hle, hxy] | simp (disch := omega) only [A6] | ((with_reducible refine AO 80 ?_); refine' Aa (hap) ?_) | (with_reducible first | exact AG | refine Bu ?_ | intro _g _hg | refine A5 ?_ ?_ | intro _hc) | omega)
   exact hJ (q - 1) _ (by omega) ⟨j + 1, by omega, by omega, by rw [← Nat.add_assoc, hB]; rfl⟩
  ·have hje : j = N.toNat := by omega
   subst hje
   rw [List.take_of_length_le (by omega)]
   have hle : ¬ ((b + N.toNat : Nat) : Int) ≤ i := by omega
   generalize hB : b + N.toNat = B at *
   repeat' (first | simp -implicitDefEqProofs [QX, -getElem?_pos, h2, h3, hle] | simp (disch := omega) only [A6] | (with_reducible first | exact AG | refine Bu ?_ | intro _g _hg | refine A5 ?_ ?_ | intro _hc) | omega)
   exact hk _ ⟨rfl, rfl, rfl, rfl, rfl, rfl, rfl, rfl, rfl⟩ rfl rfl
end Go.Proofs.YtjdccdelcnmocaaGreatDoor
