/- Streams: Run, whole; no condition. -/
import Derived.Test.YtjdccdelcnmocaaGreatDoorMgK
import Derived.Test.YtjdccdelcnmocaaGreatDoorMdQ
import Derived.Test.YtjdccdelcnmocaaGreatDoorMdS
import Derived.Test.YtjdccdelcnmocaaGreatDoorAdF
import Derived.Test.YtjdccdelcnmocaaGreatDoorMdN
set_option linter.all false
set_option maxHeartbeats 4000000
namespace Go.Proofs.YtjdccdelcnmocaaGreatDoor
def RT (s : St) (m : Int) : AV :=
 if (HM s).1 ≠ 0 then .tup [.sl 1 [] .ro, .sl 1 [] .ro, .bool false, aF (HM s)]
 else if ¬ (0 ≤ m ∧ m ≤ 5000) then .tup [.sl 1 [] .ro, .sl 1 [] .ro, .bool false, aF (4, -2)]
 else .tup [.sl 1 ((((AR s).l.map (·.1)).take m.toNat).map aI) .ro, .sl 1 ((if m.toNat ≤ (AR s).l.length then HV (AR s) m.toNat else (AR s).fin).map aI) .ro, .bool (decide ((AR s).l.length < m.toNat)), aF (0, 0)]
theorem Kt {c d : AV} : AH (.tup [.sl 0 [] .nil, .sl 0 [] .nil, c, d]) (.tup [.sl 1 [] .ro, .sl 1 [] .ro, c, d]) :=
 ⟨_, rfl, _, _, rfl, ⟨1, [], .ro, rfl, .inl rfl, .inr ⟨rfl, rfl⟩, rfl⟩, _, _, rfl, ⟨1, [], .ro, rfl, .inl rfl, .inr ⟨rfl, rfl⟩, rfl⟩, A0 _⟩
attribute [local simp] Ng FD FC Lc MV LI Ni FN FF HQ HO Lg MC Nq MZ Ny No NG NY LV LZ M0 MT Ly LJ Tq pe N9 Ld MD Lv N1 Nf Li O7 Mz N4 Mx Mc Ln FU O5 OC Lk Nt NR Na Mr Ma OD Mh LX NT LR Ms MX LN Np N0 Ls LH Lf Ey MY F4 LL Lo OA O0 M9 Nj M4 MF MA MG NF N7 Mt Mi Mo Lw Mq MQ MH Mj N8 Nv Nr Ns Nm FX M1 Nh Mw Lu Mk Md M8 NZ O8 NJ MJ MS Nd M2 Lp NA N5 Mn Lt NQ NX NN MI Nc NW LW NK Mf Mp Nu Ja Ll List.mem_cons guardK EE G9 GK HN LK F3 FL F8 FO FJ FG FQ FY Ez LF ME FV LM MP M7 Lh N3 MM F1 MW NL NV LG LU Lr HS FT FB FS FM Nn M5 FP LQ F9 Lj F6 FA Nz F5 F2 Lq My ND NU NH MB Lm OB Tt KK Ki Hc KI Ju K7 Eb Gt HA MN Gm Gu EZ ED Wm Jx Kn Gq Ji Js E5 Dd BZ B9 CA DW AA ev get put Fc AC EC Mb MK Lx O4 KL NP Eu part B8 HY N2 HB isNil DA DG Dz DK DH NO O6 OF NS M3 Ke LY Mu Nl MR OE Nk Nb LT Nw Mv AV.fits AV.cells ones AV.one EP Bw EN DX Fb Ev Mm Fy GE CW Bd CB F7 GI AP BD Xd HU N6 Me List.getElem?_cons_zero List.getElem?_cons_succ FW FH F0 NB NM NI HW Ml MO NE Lz ML M6 Mg MU Nx O9 LP
theorem A0r (s : St) (hf : EG s) (m : Int) (h : (HM s).1 ≠ 0 ∨ ¬ (0 ≤ m ∧ m ≤ 5000)) : APure Tryz.prog 18 [encS s, aI m] (RT s m) := by
 have hv := Ou s hf
 unfold RT
 have h00 : (HM s).1 = 0 → HM s = (0, 0) := fun h => (OH h).1
 generalize AR s = F
 generalize HM s = f at *
 obtain ⟨k, o, m', v, p⟩ := s
 rw [AN] at *
 generalize v.map aI = va at *
 generalize AZ p = ep at *
 
 refine A8 Tryz.func18 A26 rfl fun n H hH => ?_
 by_cases h0 : f.1 = 0
 ·have h2 := h.resolve_left (by simpa using h0)
  have h01 := h00 h0
  rw [if_neg (by simpa using h0), if_pos h2]
  by_cases hm0 : m < 0
  ·repeat' (first | simp -implicitDefEqProofs [c18, EV, -getElem?_pos, h0, hm0, splice, Kt] | simp (disch := omega) only [A6] | ((with_reducible refine AO 15 ?_); refine' Aa (hv) ?_) | (with_reducible first | exact AG | refine A3g ?_ | intro _g _hg | refine A5 ?_ ?_ | intro _hc) | omega)
   all_goals first | exact Kt | omega
  ·have hm1 : (5000 : Int) < m := by omega
   repeat' (first | simp -implicitDefEqProofs [c18, EV, -getElem?_pos, h0, hm0, hm1, splice, Kt] | simp (disch := omega) only [A6] | ((with_reducible refine AO 15 ?_); refine' Aa (hv) ?_) | (with_reducible first | exact AG | refine A3g ?_ | intro _g _hg | refine A5 ?_ ?_ | intro _hc) | omega)
   all_goals first | exact Kt | omega
 ·rw [if_pos h0]
  repeat' (first | simp -implicitDefEqProofs [c18, EV, -getElem?_pos, h0, splice, Kt] | simp (disch := omega) only [A6] | ((with_reducible refine AO 15 ?_); refine' Aa (hv) ?_) | (with_reducible first | exact AG | refine A3g ?_ | intro _g _hg | refine A5 ?_ ?_ | intro _hc) | omega)
  all_goals first | exact Kt | omega
theorem W2 (l : List Int) : AM (l.map aI) = l.map aI := by
 induction l with
 | nil => rfl
 | cons x l ih => simp only [AM, List.map_cons, List.flatMap_cons] at ih ⊢; rw [ih]; rfl
theorem Xf (s : St) (hf : EG s) (hs0 : (HM s).1 = 0) (hop : LA s) (m : Nat) (hm : m ≤ 5000) (n : Nat) (H : A1) : ACalls Tryz.prog 18 [encS s, aI m] n H (A39 n H (((AR s).l.map (·.1)).take m) (if m ≤ (AR s).l.length then HV (AR s) m else (AR s).fin) (decide ((AR s).l.length < m))) := by
 have hv := Ou s hf
 obtain ⟨h00, hok, hsm, hsz⟩ := OH hs0
 have hmon := Rk s
 rw [h00] at hv
 unfold LA at hop
 generalize hR : A39 _ _ _ _ _ = R
 generalize Bj s = sz at *
 generalize AR s = F at *
 obtain ⟨k, o, m', v, p⟩ := s
 rw [AN] at *
 generalize v.map aI = va at *
 generalize AZ p = ep at *
 have hm0 : ¬ (m : Int) < 0 := by omega
 have hm1 : ¬ (5000 : Int) < m := by omega
 refine A2 Tryz.func18 A26 rfl fun hs => ?_
 repeat' (first | simp -implicitDefEqProofs [c18, EV, I7, -getElem?_pos, hm0, hm1, splice] | simp (disch := omega) only [A6] | ((with_reducible refine B0 43 ?_); refine ⟨_, hop _g _ _ [] none (by simp; omega) ⟨rfl, by simp (disch := omega) only [upd_ne, AP] <;> rfl⟩, ?_⟩; rintro r n' H' hle hsup hpost) | ((with_reducible refine AO 15 ?_); refine' Aa (hv) ?_) | (with_reducible first | exact AG | refine Bu ?_ | intro _g _hg | refine A5 ?_ ?_ | intro _hc) | omega)
 rename_i ga hga g7 hg7 g8 hg8
 dsimp only at hpost
 obtain ⟨h1, h2, h3, gg, h4, h5, h6, h7, O', h8, h9, h10⟩ := hpost
 have hgg : _g + 1 ≤ gg := h5.resolve_left (fun e => by cases e)
 have hou : ∀ g, OU [⟨r, some F.l, F.cur, F.fin, O'⟩] g ↔ O' g := fun g => by simp [OU]
 have hlo : ∀ k, k < _g + 1 → k ≠ _g → H' k = _ := fun k a1 a2 => h7 k a1 a2 (by simp)
 refine YP (n := n) hm h1 (O := O') ⟨⟨⟨h10, hmon.1⟩, fun g hg => (h8 g hg).2, fun g _ h => h, trivial⟩, ⟨by simpa using h4.1, by simpa using h4.2, by simp [AD], by simp [AD]⟩, fun h => h9 ((hou gg).1 h), fun h => by have := h8 _g ((hou _g).1 h); omega, h3⟩ (by omega) (by omega) (by omega) (fun g hg => by have := h8 g ((hou g).1 hg); omega) (fun k hk => by rw [hlo k (by omega) (by omega)]; simp (disch := omega) only [upd_ne]) ⟨fun h => by have := h8 g7 ((hou g7).1 h); omega, by omega, by omega, by rw [hlo g7 (by omega) (by omega)]; simp (disch := omega) only [upd_ne, AP] <;> rfl⟩ (by omega) (by omega) hR.symm rfl
theorem A31 (s : St) (hf : EG s) (ho : (HM s).1 = 0 → LA s) (m : Int) : APure Tryz.prog 18 [encS s, aI m] (RT s m) := by
 by_cases h : (HM s).1 ≠ 0 ∨ ¬ (0 ≤ m ∧ m ≤ 5000)
 ·exact A0r s hf m h
 ·have hs0 : (HM s).1 = 0 := Decidable.not_not.1 fun h' => h (.inl h')
  have hm : 0 ≤ m ∧ m ≤ 5000 := Decidable.not_not.1 fun h' => h (.inr h')
  obtain ⟨j, rfl⟩ : ∃ j : Nat, m = j := ⟨m.toNat, by omega⟩
  intro n H
  have hv : RT s j = .tup [.sl 1 ((((AR s).l.map (·.1)).take j).map aI) .ro, .sl 1 ((if j ≤ (AR s).l.length then HV (AR s) j else (AR s).fin).map aI) .ro, .bool (decide ((AR s).l.length < j)), aF (0, 0)] := by
   rw [RT, if_neg (by simpa using hs0), if_neg (by simpa using hm), Int.toNat_natCast]
  rw [hv]
  generalize hcs : (if j ≤ (AR s).l.length then HV (AR s) j else (AR s).fin) = cs
  have h1 := Xf s hf hs0 (ho hs0) j (by omega) n H
  rw [hcs] at h1
  refine (ACalls.frz (R' := fun r n' H' => n ≤ n' ∧ SameB n H H' ∧ r = .tup [.sl 1 ((((AR s).l.map (·.1)).take j).map aI) .ro, .sl 1 (cs.map aI) .ro, .bool (decide ((AR s).l.length < j)), aF (0, 0)]) h1 ?_).forget ?_
  ·rintro r n' H' hn ⟨h1, h2, h3, gg, h4, h5, rfl⟩
   refine ⟨gg, _, 1, cs.map aI, by rw [h5, W2], by kernel_rfl, by omega, fun x hx => ?_, h1, fun k hk => by rw [upd_ne (by omega)]; exact h3 k hk, ?_⟩
   ·obtain ⟨y, _, rfl⟩ := List.mem_map.1 hx; rfl
   ·simp [Hu, Pr]
  ·rintro r n' H' hn ⟨h1, h2, rfl⟩
   exact ⟨h2, rfl, rfl, rfl⟩
theorem A61 (s : St) (hf : EG s) (m : Int) : APure Tryz.prog 18 [encS s, aI m] (RT s m) := A31 s hf (fun h => by obtain ⟨_, hok, hsm, hsz⟩ := OH h; exact A3b s hf hok hsm hsz) m
theorem Uh (a b : List Int) (ha : a.length ≤ 140737488355328) : APure Tryz.prog 22 [.sl 1 (a.map aI) .ro, .sl 1 (b.map aI) .ro] (.bool (decide (a = b))) := by
 have hal : (a.map aI).length = a.length := by simp
 have hbl : (b.map aI).length = b.length := by simp
 by_cases hl : a.length = b.length
 ·have hl' : (a.length : Int) = b.length := by omega
  
  refine A8 Tryz.func22 A1x rfl fun n H hH => ?_
  repeat' (first | simp -implicitDefEqProofs [c22, Ge, Gz, Gd, Gv, Gb, c22, -getElem?_pos, hal, hbl, hl, hl'] | simp (disch := omega) only [A6] | (with_reducible first | exact AG | refine Dl ?_ | intro _g _hg | refine A5 ?_ ?_ | intro _hc) | omega)
  refine LoopK.go (fun r st => ∃ j : Nat, j + r = a.length ∧ st = ⟨[(0, .sl 1 (a.map aI) .ro), (1, .sl 1 (b.map aI) .ro), (5, aI j)], n, H⟩ ∧ a.take j = b.take j) a.length ⟨0, by omega, rfl, rfl⟩ ?_
  rintro r st ⟨j, hj, rfl, hE⟩ J hJ
  by_cases hjl : j < a.length
  ·obtain ⟨x, hx⟩ : ∃ x, a[j]? = some x := ⟨_, List.getElem?_eq_getElem hjl⟩
   obtain ⟨y, hy⟩ : ∃ y, b[j]? = some y := ⟨_, List.getElem?_eq_getElem (by omega)⟩
   have hxa := Iu (f := aI) hx
   have hya := Iu (f := aI) hy
   have hjl' : (j : Int) < a.length := by omega
   by_cases hxy : x = y
   ·subst hxy
    have hE2 : a.take (j + 1) = b.take (j + 1) := by rw [List.take_succ, List.take_succ, hE, hx, hy]
    generalize a.map aI = aa at *
    generalize b.map aI = ba at *
    
    repeat' (first | simp -implicitDefEqProofs [Ge, Gz, Gd, Gv, Gb, c22, -getElem?_pos, hal, hbl, hl, hl', hxa, hya, hjl'] | simp (disch := omega) only [A6] | (with_reducible first | exact AG | refine Dl ?_ | intro _g _hg | refine A5 ?_ ?_ | intro _hc) | omega)
    exact hJ (r - 1) _ (by omega) ⟨j + 1, by omega, rfl, hE2⟩
   ·have hne : ¬ a = b := fun e => by subst e; rw [hx] at hy; injection hy with hy; exact hxy hy
    rw [decide_eq_false hne]
    generalize a.map aI = aa at *
    generalize b.map aI = ba at *
    
    repeat' (first | simp -implicitDefEqProofs [Ge, Gz, Gd, Gv, Gb, c22, -getElem?_pos, hal, hbl, hl, hl', hxa, hya, hjl', hxy, AH] | simp (disch := omega) only [A6] | (with_reducible first | exact AG | refine Dl ?_ | intro _g _hg | refine A5 ?_ ?_ | intro _hc) | omega)
  ·have hjl' : ¬ (j : Int) < a.length := by omega
   rw [List.take_of_length_le (by omega), List.take_of_length_le (by omega)] at hE
   rw [decide_eq_true hE]
   generalize a.map aI = aa at *
   generalize b.map aI = ba at *
   
   repeat' (first | simp -implicitDefEqProofs [Ge, Gz, Gd, Gv, Gb, c22, -getElem?_pos, hal, hbl, hl, hl', hjl', AH] | simp (disch := omega) only [A6] | (with_reducible first | exact AG | refine Dl ?_ | intro _g _hg | refine A5 ?_ ?_ | intro _hc) | omega)
 ·have hl' : ¬ (a.length : Int) = b.length := by omega
  have hne : ¬ a = b := fun e => hl (by rw [e])
  rw [decide_eq_false hne]
  generalize a.map aI = aa at *
  generalize b.map aI = ba at *
  
  refine A8 Tryz.func22 A1x rfl fun n H hH => ?_
  repeat' (first | simp -implicitDefEqProofs [Ge, Gz, Gd, Gv, Gb, c22, -getElem?_pos, hal, hbl, hl, hl', AH] | simp (disch := omega) only [A6] | (with_reducible first | exact AG | refine Dl ?_ | intro _g _hg | refine A5 ?_ ?_ | intro _hc) | omega)
theorem Y9 {e sz by_ : Nat} {d : Option Nat} {K : AS → Prop} {en : AJ} {n : Nat} {H : A1} {l m : List AV} {t : Tok} {g0 k : Nat} (hg : H g0 = some (.row e k)) (hl : k = l.length) (h1 : l.length + m.length ≤ 1000000) (hby : by_ ≤ 100)
  (hk : ∀ g n', (g = g0 ∨ n ≤ g) → n ≤ n' → g < n' → K ⟨AC en d (.sl sz (l ++ m) (.own g)), n', upd (upd H g0 none) g (some (.row e (l.length + m.length)))⟩) : appKS e sz by_ d K ⟨en, n, H⟩ (.sl sz l (.own g0)) (.sl sz m t) := by
 subst hl
 exact GL hg (Nat.le_trans (Nat.mul_le_mul h1 hby) (by decide)) (Nat.le_trans h1 (by simp [maxLen])) hk
theorem Il (a b : List Int) (h : a.length + b.length ≤ 1000000) : APure Tryz.prog 79 [BX a, BX b] (BX (a ++ b)) := by
 have ha : (a.map aI).length = a.length := by simp
 have hb : (b.map aI).length = b.length := by simp
 have hab : (a ++ b).map aI = a.map aI ++ b.map aI := by simp
 unfold BX
 rw [hab]
 generalize a.map aI = xa at *
 generalize b.map aI = xb at *
 refine A8 Tryz.func79 A6c rfl fun n H hH => ?_
 repeat' (first | simp -implicitDefEqProofs [c79, -getElem?_pos, -List.length_nil] | simp (disch := omega) only [A6] | (refine Y9 (AP _ _ _) (by simp [ha]) (by simp [ha, hb]; omega) (by decide) (fun g n' h1 h2 h3 => ?_)) | (with_reducible first | exact AG | refine EA ?_ | intro _g _hg | refine A5 ?_ ?_ | intro _hc) | omega)
 all_goals first | exact Gy (.inl rfl) | (intro q hq; simp (disch := omega) only [upd_ne])
def J3 (F : Fut) : List AQ := F.cur :: (F.l.map (·.2) ++ [F.fin])
abbrev aT (l : List AQ) : AV := .sl 1 (l.map BX) .ro
abbrev aG (F : Fut) : AV := .agg [BX (RQ F), aT (J3 F)]
abbrev Cq (x y : AV) : AObj := .cells 40 [x, y]
section
variable {n0 n : Nat} {H0 H : A1} {bs : List (Nat × AObj)} {os : List OwnR} {a : OwnR} {d : Option Nat} {e : AJ} {K : AS → Prop} {x : AV} {l m m' : List AV} {el by_ : Nat} {t : Tok}
theorem Owns.appF (h : Owns n0 H0 bs (⟨el, 1, x, l⟩ :: os) n H) (hs : AK m m') (hl : l.length + m.length ≤ 1000000) (hby : by_ ≤ 100)
  (hk : ∀ z' t' n' H', n ≤ n' → Owns n0 H0 bs (⟨el, 1, .sl z' (l ++ m') t', l ++ m'⟩ :: os) n' H' → K ⟨AC e d (.sl z' (l ++ m') t'), n', H'⟩) : appKS el 1 by_ d K ⟨e, n, H⟩ x (.sl 1 m t) := by
 refine h.app (.inl rfl) hs (Nat.le_trans (Nat.mul_le_mul hl hby) (by decide)) (Nat.le_trans hl (by simp [maxLen])) fun x' n' H' hle hO _ => ?_
 obtain ⟨z', t', h1, _⟩ := hO.len0
 dsimp only at h1
 subst h1
 exact hk _ _ n' H' hle hO
theorem Owns.appS (h : Owns n0 H0 bs (a :: ⟨el, 1, x, l⟩ :: os) n H) (hs : AK m m') (hl : l.length + m.length ≤ 1000000) (hby : by_ ≤ 100)
  (hk : ∀ z' t' n' H', n ≤ n' → Owns n0 H0 bs (a :: ⟨el, 1, .sl z' (l ++ m') t', l ++ m'⟩ :: os) n' H' → K ⟨AC e d (.sl z' (l ++ m') t'), n', H'⟩) : appKS el 1 by_ d K ⟨e, n, H⟩ x (.sl 1 m t) :=
 h.swap.appF hs hl hby fun z' t' n' H' hle hO => hk z' t' n' H' hle hO.swap
end
theorem T4 : ∀ (xs : List Int) (i : Nat), (LO i xs).map (·.2) = (List.range xs.length).map fun j => [((i + j + 1 : Nat) : Int)]
 | [], i => rfl
 | x :: xs, i => by
  rw [LO, List.map_cons, T4 xs (i + 1), List.length_cons, List.range_succ_eq_map]
  simp [Function.comp_def]; intro a ha; omega
theorem S9 : ∀ (xs : List Int) (i : Nat), (LO i xs).map (·.1) = xs
 | [], i => rfl
 | x :: xs, i => by rw [LO, List.map_cons, S9 xs (i + 1)]
theorem A3k (xs : List Int) : J3 (EK xs) = (List.range (xs.length + 1)).map (fun j => [((j : Nat) : Int)]) ++ [[(xs.length : Int)]] := by
 unfold J3 EK
 dsimp only
 rw [T4, List.range_succ_eq_map]
 simp [Function.comp_def]
theorem A2u (xs : List Int) : RQ (EK xs) = xs := S9 xs 0
theorem SY {v : AV} {g : Nat} : AK [.sl 1 [v] (.own g)] [.sl 1 [v] .ro] := OX (Gy (.inl rfl))
theorem VC (n : Nat) (H : A1) (xs : List Int) (hx : xs.length ≤ 6000) (g1 g2 g3 : Nat) (ob : AObj) (h21 : n ≤ g1 ∧ g1 < g2 ∧ g2 < g3) (e : AJ) (n1 : Nat) (H1 : A1) (z z2 : Nat) (t t2 : Tok) (_hO : Owns n H [(g3, Cq (.sl z (xs.map aI) t) (.sl z2 [] t2)), (g2, Cq CV CV), (g1, ob)] [⟨3, 1, .sl z (xs.map aI) t, xs.map aI⟩, ⟨22, 1, .sl z2 [] t2, []⟩] n1 H1) (e2 : get e 2 = .ptr g2 0) (e3 : get e 3 = .ptr g3 0) :
  aw Tryz.prog c45_k5 (GD (aG (EK xs)) n H c45.res) ⟨e, n1, H1⟩ := by
 have hxl : (xs.map aI).length = xs.length := by simp
 rw [show aG (EK xs) = .agg [.sl 1 (xs.map aI) .ro, .sl 1 (((List.range (xs.length + 1)).map (fun (j : Nat) => BX [(j : Int)])) ++ [BX [(xs.length : Int)]]) .ro] by rw [aG, A3k, A2u]; simp [Function.comp_def]]
 generalize hR : GD _ n H _ = R
 generalize xs.map aI = xv at *
 
 have _hb := _hO.boxF
 dsimp only [AE, A7, AF] at _hb
 repeat' (first | simp -implicitDefEqProofs [WR, -getElem?_pos, e2, e3, splice, _hb] | simp (disch := omega) only [A6] | (with_reducible first | exact AG | refine BB ?_) | ((with_reducible refine EO (fun _g _hg _hO => ?_)); (have _hb := And.intro _hb _hO.boxF); dsimp only [AE, A7, AF] at _hb) | ((with_reducible refine EL (fun _g _hg _hO => ?_))) | ((with_reducible refine appKS.chk ?_); first | ((refine Ih ?_ ?_ (fun _x _n _H _hle _hO _hb => ?_)); rotate_left 2; dsimp only [AE, A7, AF] at _hb) | ((refine Im ?_ ?_ (fun _x _n _H _hle _hO _hb => ?_)); rotate_left 2; dsimp only [AE, A7, AF] at _hb)) | (with_reducible first | exact AG | refine Bv ?_ | intro _g _hg | refine A5 ?_ ?_ | intro _hc) | omega)
 refine LoopK.go (fun q st => ∃ (j n' : Nat) (H' : A1) (z2 : Nat) (t2 : Tok), j + q = xs.length + 1 ∧ st = ⟨[(2, .ptr g2 0), (3, .ptr g3 0), (5, aI j)], n', H'⟩ ∧ Owns n H [(g3, Cq (.sl z xv t) (.sl z2 ((List.range j).map fun (i : Nat) => BX [(i : Int)]) t2)), (g2, Cq CV CV), (g1, ob)] [⟨3, 1, .sl z xv t, xv⟩, ⟨22, 1, .sl z2 ((List.range j).map fun (i : Nat) => BX [(i : Int)]) t2, (List.range j).map fun (i : Nat) => BX [(i : Int)]⟩] n' H') (xs.length + 1) ⟨0, _, _, _, _, by omega, rfl, _hO⟩ ?_
 clear _hb _hO e2 e3 e
 rintro q st ⟨j, n1, H1, z2, t2, hq, rfl, _hO⟩ J hJ
 have _hb := _hO.boxF
 dsimp only [AE, A7, AF] at _hb
 have hrl : ((List.range j).map fun (i : Nat) => BX [(i : Int)]).length = j := by simp
 have hrs : ((List.range (j + 1)).map fun (i : Nat) => BX [(i : Int)]) = ((List.range j).map fun (i : Nat) => BX [(i : Int)]) ++ [BX [(j : Int)]] := by rw [List.range_succ]; simp
 by_cases hj : j ≤ xs.length
 ·have hj' : (j : Int) ≤ xs.length := by omega
  clear hR
  generalize ((List.range j).map fun (i : Nat) => BX [(i : Int)]) = ts at *
  repeat' (first | simp -implicitDefEqProofs [Pw, XJ, Wj, -getElem?_pos, splice, hxl, hj', _hb] | simp (disch := omega) only [A6] | ((with_reducible refine appKS.chk ?_); refine Owns.appS (by assumption) SY (by simp; omega) (by decide) (fun _z _t _n _H _hle _hO => ?_); have _hb := _hO.boxF; dsimp only [AE, A7, AF] at _hb) | (with_reducible first | exact AG | refine BB ?_) | ((with_reducible refine EO (fun _g _hg _hO => ?_)); (have _hb := And.intro _hb _hO.boxF); dsimp only [AE, A7, AF] at _hb) | ((with_reducible refine EL (fun _g _hg _hO => ?_))) | (with_reducible first | exact AG | refine Bv ?_ | intro _g _hg | refine A5 ?_ ?_ | intro _hc) | omega)
  exact hJ (q - 1) _ (by omega) ⟨j + 1, _, _, _, _, by omega, rfl, by rw [hrs]; exact _hO.set0 (by simp; omega) _ _⟩
 ·have hj' : ¬ (j : Int) ≤ xs.length := by omega
  have hjx : j = xs.length + 1 := by omega
  subst hjx
  subst hR
  generalize ((List.range (xs.length + 1)).map fun (i : Nat) => BX [(i : Int)]) = ts at *
  repeat' (first | simp -implicitDefEqProofs [c45, Pw, X8, -getElem?_pos, splice, hxl, hj', _hb] | simp (disch := omega) only [A6] | ((with_reducible refine appKS.chk ?_); refine Owns.appS (by assumption) SY (by simp; omega) (by decide) (fun _z _t _n _H _hle _hO => ?_); have _hb := _hO.boxF; dsimp only [AE, A7, AF] at _hb) | (with_reducible first | exact AG | refine BB ?_) | ((with_reducible refine EO (fun _g _hg _hO => ?_)); (have _hb := And.intro _hb _hO.boxF); dsimp only [AE, A7, AF] at _hb) | ((with_reducible refine EL (fun _g _hg _hO => ?_))) | (with_reducible first | exact AG | refine Bv ?_ | intro _g _hg | refine A5 ?_ ?_ | intro _hc) | omega)
  exact Df (Af (_hO.sim0 (A0 _)) (Af (_hO.sim1 (A0 _)) (A0 _)))
def Yu (k : Int) (v : List Int) : Prop := (k = 1 ∧ v.length ≤ 6000) ∨ (k = 2 ∧ ∃ a b c : Int, v = [a, b, c] ∧ 0 ≤ a ∧ a ≤ 10000 ∧ 0 ≤ b ∧ b ≤ 10000 ∧ 1 ≤ c ∧ c ≤ 10000 ∧ Eg v ≤ 6000)
theorem Sh (k o m : Int) (v : List Int) (p : List St) (h : Yu k v) : APure Tryz.prog 45 [encS (.mk k o m v p)] (aG (EK (if k = 1 then v else E7 v))) := by
 rw [AN]
 
 rcases h with ⟨rfl, hv⟩ | ⟨rfl, a, b, c, rfl, a0, a1, b0, b1, c0, c1, hr⟩
 ·rw [if_pos rfl]
  have hvl : (v.map aI).length = v.length := by simp
  have hend := VC
  refine A8 Tryz.func45 A1y rfl fun n H hH => ?_
  have _hb : True := trivial
  have _hO : Owns n H [] [⟨3, 1, CV, []⟩, ⟨22, 1, CV, []⟩] n H := ((Owns.start hH).addNil _ _ _).addNil _ _ _
  have hend := hend n H v hv
  generalize v.map aI = xv at *
  repeat' (first | simp -implicitDefEqProofs [c45, -getElem?_pos, splice, hvl, -List.length_nil, _hb] | simp (disch := omega) only [A6] | ((with_reducible refine appKS.chk ?_); refine Owns.appF (Owns.set0 (by assumption) (by simp; omega) _ _) (A0 _) (by simp; omega) (by decide) (fun _z _t _n _H _hle _hO => ?_); have _hb := _hO.boxF; dsimp only [AE, A7, AF] at _hb) | (with_reducible first | exact AG | refine BB ?_) | ((with_reducible refine EO (fun _g _hg _hO => ?_)); (have _hb := And.intro _hb _hO.boxF); dsimp only [AE, A7, AF] at _hb) | ((with_reducible refine EL (fun _g _hg _hO => ?_))) | (with_reducible first | exact AG | refine Bv ?_ | intro _g _hg | refine A5 ?_ ?_ | intro _hc) | omega)
  exact hend _ _ _ _ ⟨by omega, by omega, by omega⟩ _ _ _ _ _ _ _ (_hO.set0 (by simp; omega) _ _) rfl rfl
 ·rw [if_neg (by decide)]
  have hxs : ∀ i : Nat, i < Eg [a, b, c] ↔ a + (i : Int) * c < b := fun i => (PU c0 i).symm
  have hend := VC
  refine A8 Tryz.func45 A1y rfl fun n H hH => ?_
  have _hb : True := trivial
  have _hO : Owns n H [] [⟨3, 1, CV, []⟩, ⟨22, 1, CV, []⟩] n H := ((Owns.start hH).addNil _ _ _).addNil _ _ _
  have hend := hend n H (E7 [a, b, c]) (by simpa [E7] using hr)
  repeat' (first | simp -implicitDefEqProofs [c45, WK, -getElem?_pos, splice, _hb] | simp (disch := omega) only [A6] | (with_reducible first | exact AG | refine BB ?_) | ((with_reducible refine EO (fun _g _hg _hO => ?_)); (have _hb := And.intro _hb _hO.boxF); dsimp only [AE, A7, AF] at _hb) | ((with_reducible refine EL (fun _g _hg _hO => ?_))) | ((with_reducible refine appKS.chk ?_); first | ((refine Ih ?_ ?_ (fun _x _n _H _hle _hO _hb => ?_)); rotate_left 2; dsimp only [AE, A7, AF] at _hb) | ((refine Im ?_ ?_ (fun _x _n _H _hle _hO _hb => ?_)); rotate_left 2; dsimp only [AE, A7, AF] at _hb)) | (with_reducible first | exact AG | refine Bv ?_ | intro _g _hg | refine A5 ?_ ?_ | intro _hc) | omega)
  rename_i g1 hg1 hO1 hb1 g2 hg2 hO2 hb2
  generalize hg3e : _g = g3 at *
  clear hO1 hb1 hO2 hb2 _hb
  refine LoopK.go (fun q st => ∃ (j n' : Nat) (H' : A1) (z : Nat) (t : Tok), j + q = Eg [a, b, c] ∧ st = ⟨[(1, .ptr g1 0), (2, .ptr g2 0), (3, .ptr g3 0), (4, aI (a + (j : Int) * c))], n', H'⟩ ∧ Owns n H [(g3, Cq (.sl z ((List.range j).map fun (i : Nat) => aI (a + (i : Int) * c)) t) CV), (g2, Cq CV CV), (g1, .cells 25 [aI 2, aI o, aI m, .sl 1 [aI a, aI b, aI c] .ro, .sl 5 (AZ p) .ro])] [⟨3, 1, .sl z ((List.range j).map fun (i : Nat) => aI (a + (i : Int) * c)) t, (List.range j).map fun (i : Nat) => aI (a + (i : Int) * c)⟩, ⟨22, 1, CV, []⟩] n' H') (Eg [a, b, c]) ⟨0, _, _, 0, .nil, by omega, by rw [show a + ((0 : Nat) : Int) * c = a by simp]; rfl, _hO.set0 (by simp; omega) _ _⟩ ?_
  clear _hO
  rintro q st ⟨j, n1, H1, z, t, hq, rfl, _hO⟩ J hJ
  have _hb := _hO.boxF
  dsimp only [AE, A7, AF] at _hb
  have hle := _hO.le
  have hxj := hxs j
  have hrl : ((List.range j).map fun (i : Nat) => aI (a + (i : Int) * c)).length = j := by simp
  have hrs : ((List.range (j + 1)).map fun (i : Nat) => aI (a + (i : Int) * c)) = ((List.range j).map fun (i : Nat) => aI (a + (i : Int) * c)) ++ [aI (a + (j : Int) * c)] := by rw [List.range_succ]; simp
  have hst : a + (j : Int) * c + c = a + ((j + 1 : Nat) : Int) * c := by rw [Int.natCast_succ, Int.add_mul]; omega
  have hte : j = Eg [a, b, c] → ((List.range j).map fun (i : Nat) => aI (a + (i : Int) * c)) = (E7 [a, b, c]).map aI := by rintro rfl; simp [E7, Function.comp_def]
  generalize ((List.range j).map fun (i : Nat) => aI (a + (i : Int) * c)) = ts at *
  have hx0 : 0 ≤ (j : Int) * c := Int.mul_nonneg (by omega) (by omega)
  generalize (j : Int) * c = jc at *
  by_cases hj : a + jc < b
  ·have hj2 := hxj.2 hj
   repeat' (first | simp -implicitDefEqProofs [Qn, WV, Wn, -getElem?_pos, splice, hj, _hb] | simp (disch := omega) only [A6] | ((with_reducible refine appKS.chk ?_); refine Owns.appF (by assumption) (A0 _) (by simp; omega) (by decide) (fun _z _t _n _H _hle _hO => ?_); have _hb := _hO.boxF; dsimp only [AE, A7, AF] at _hb) | (with_reducible first | exact AG | refine BB ?_) | ((with_reducible refine EO (fun _g _hg _hO => ?_)); (have _hb := And.intro _hb _hO.boxF); dsimp only [AE, A7, AF] at _hb) | ((with_reducible refine EL (fun _g _hg _hO => ?_))) | (with_reducible first | exact AG | refine Bv ?_ | intro _g _hg | refine A5 ?_ ?_ | intro _hc) | omega)
   exact hJ (q - 1) _ (by omega) ⟨j + 1, _, _, _, _, by omega, by rw [← hst], by rw [hrs]; exact _hO.set0 (by simp; omega) _ _⟩
  ·have hje : j = Eg [a, b, c] := by
    have : ¬ j < Eg [a, b, c] := fun h => hj (hxj.1 h)
    omega
   repeat' (first | simp -implicitDefEqProofs [Qn, c45, -getElem?_pos, splice, hj, _hb] | simp (disch := omega) only [A6] | (with_reducible first | exact AG | refine BB ?_) | ((with_reducible refine EO (fun _g _hg _hO => ?_)); (have _hb := And.intro _hb _hO.boxF); dsimp only [AE, A7, AF] at _hb) | ((with_reducible refine EL (fun _g _hg _hO => ?_))) | ((with_reducible refine appKS.chk ?_); first | ((refine Ih ?_ ?_ (fun _x _n _H _hle _hO _hb => ?_)); rotate_left 2; dsimp only [AE, A7, AF] at _hb) | ((refine Im ?_ ?_ (fun _x _n _H _hle _hO _hb => ?_)); rotate_left 2; dsimp only [AE, A7, AF] at _hb)) | (with_reducible first | exact AG | refine Bv ?_ | intro _g _hg | refine A5 ?_ ?_ | intro _hc) | omega)
   rw [hte hje] at _hO
   exact hend g1 g2 g3 _ ⟨by omega, by omega, by omega⟩ _ _ _ _ _ _ _ _hO rfl rfl
def eX (d : Ad) : List AV := d.map fun e => aI e.1
def eT (c : AQ) (d : Ad) : List AV := BX c :: d.map fun e => BX e.2
theorem A3w : eX [] = [] := rfl
theorem A2x (c : AQ) : eT c [] = [BX c] := rfl
theorem VE (d : Ad) (x : Int) (c : AQ) : eX (d ++ [(x, c)]) = eX d ++ [aI x] := by simp [eX]
theorem VN (c0 : AQ) (d : Ad) (x : Int) (c : AQ) : eT c0 (d ++ [(x, c)]) = eT c0 d ++ [BX c] := by simp [eT]
theorem EX (d : Ad) : (eX d).length = d.length := by simp [eX]
theorem EH (c : AQ) (d : Ad) : (eT c d).length = d.length + 1 := by simp [eT]
theorem FZ (F : Fut) : aG F = .agg [.sl 1 (eX F.l) .ro, .sl 1 (eT F.cur F.l ++ [BX F.fin]) .ro] := by
 simp [aG, J3, eX, eT, RQ, Function.comp_def]
structure GivA (F : Fut) (xv tv : List AV) : Prop where
 xl : xv.length = F.l.length
 tl : tv.length = F.l.length + 2
 t0 : tv[0]? = some (BX F.cur)
 te : tv[F.l.length + 1]? = some (BX F.fin)
 xe : ∀ (i : Nat) (x : Int) (c : AQ), F.l[i]? = some (x, c) → xv[i]? = some (aI x) ∧ tv[i + 1]? = some (BX c)
theorem A6g (F : Fut) : GivA F (eX F.l) (eT F.cur F.l ++ [BX F.fin]) := by
 refine ⟨EX _, by simp [eT], by simp [eT], ?_, fun i x c h => ?_⟩
 ·rw [List.getElem?_append_right (by rw [EH]; exact Nat.le_refl _), EH]; simp
 ·have hi := (List.getElem?_eq_some_iff.1 h).1
  refine ⟨by simp [eX, h], ?_⟩
  rw [List.getElem?_append_left (by rw [EH]; omega)]
  simp [eT, h]
section
variable {n0 n : Nat} {H0 H : A1} {bs : List (Nat × AObj)} {a : OwnR} {d : Option Nat} {e : AJ} {K : AS → Prop} {l : List AV} {el sz : Nat}
theorem Hj (h : Owns n0 H0 bs [a] n H) (hk : ∀ g, n ≤ g → Owns n0 H0 bs [a, ⟨el, sz, .sl sz l (.own g), l⟩] (g + 1) (upd H g (some (.row el l.length))) → K ⟨AC e d (.sl sz l (.own g)), g + 1, upd H g (some (.row el l.length))⟩) : SV sz l (.row el l.length) d K e n H := fun g hg => by
 refine hk g hg ?_
 have h1 := h.alloc hg (.row el l.length)
 have hr := h.row a List.mem_cons_self
 refine ⟨h1.mem, h1.box, fun o ho => ?_, .cons (fun b hb k ⟨s, l', hx⟩ s2 l2 hy => ?_) (.cons (by simp) .nil)⟩
 ·rcases List.mem_cons.1 ho with rfl | ho
  ·exact h1.row _ List.mem_cons_self
  ·rw [List.mem_singleton.1 ho]
   exact .inr ⟨g, rfl, AP _ _ _, by have := h.le; omega⟩
 ·rw [List.mem_singleton.1 hb] at hy
  injection hy with _ _ hy
  injection hy with hy
  subst hy
  rcases hr with ⟨_, z, h2⟩ | ⟨g', h2, h3, _⟩
  ·rw [h2] at hx; injection hx with _ _ hx; cases hx
  ·rw [h2] at hx; injection hx with _ _ hx; injection hx with hx
   subst hx
   have := h.mem.lt h3
   omega
end
section
variable {n0 n lo : Nat} {H0 H : A1} {bs : List (Nat × AObj)} {os : List OwnR} {a : OwnR} {d : Option Nat} {e : AJ} {K : AS → Prop} {l : List AV} {el sz k : Nat}
theorem Owns.allocF (h : Owns n0 H0 bs os n H) {g n' : Nat} (hg : n0 ≤ g) (hn : H g = none) (hle : n ≤ n') (hlt : g < n') (ob : AObj) : Owns n0 H0 bs os n' (upd H g (some ob)) := by
 have hl := h.mem.le
 refine ⟨⟨by omega, fun k hk => ?_, fun k hk => ?_⟩, fun b hb => ?_, fun o ho => ?_, h.apart⟩
 ·rw [upd_ne (by omega)]; exact h.mem.sup k (by omega)
 ·rw [upd_ne (by omega)]; exact h.mem.same k hk
 ·obtain ⟨h1, h2⟩ := h.box b hb
  exact ⟨by rw [upd_ne (fun e => by rw [e, hn] at h1; cases h1)]; exact h1, h2⟩
 ·exact (h.row o ho).keep fun k e m hk => by rw [upd_ne (fun e => by rw [e, hn] at hk; cases hk)]; exact hk
theorem KZ (h : Owns n0 H0 bs [a] n H) (hlo : lo ≤ n) (hn0 : n0 ≤ lo) (hk : ∀ g n', lo ≤ g → n ≤ n' → g < n' → Owns n0 H0 bs [a, ⟨el, sz, .sl sz l (.own g), l⟩] n' (upd H g (some (.row el k))) → K ⟨AC e d (.sl sz l (.own g)), n', upd H g (some (.row el k))⟩) (hkl : k = l.length) : QS .free lo sz l (.row el k) d K e n H := by
 refine Tn hlo ⟨n, hlo, h.mem.sup n (Nat.le_refl _)⟩ fun g n' h1 h2 h3 h4 => hk g n' h1 h3 h4 ?_
 subst hkl
 have h5 := h.allocF (Nat.le_trans hn0 h1) h2 h3 h4 (.row el l.length)
 have hr := h.row a List.mem_cons_self
 refine ⟨h5.mem, h5.box, fun o ho => ?_, .cons (fun b hb k ⟨s, l', hx⟩ s2 l2 hy => ?_) (.cons (by simp) .nil)⟩
 ·rcases List.mem_cons.1 ho with rfl | ho
  ·exact h5.row _ List.mem_cons_self
  ·rw [List.mem_singleton.1 ho]
   exact .inr ⟨g, rfl, AP _ _ _, by omega⟩
 ·rw [List.mem_singleton.1 hb] at hy
  injection hy with _ _ hy
  injection hy with hy
  subst hy
  rcases hr with ⟨_, z, h6⟩ | ⟨g', h6, h7, _⟩
  ·rw [h6] at hx; injection hx with _ _ hx; cases hx
  ·rw [h6] at hx; injection hx with _ _ hx; injection hx with hx
   subst hx
   rw [h2] at h7; cases h7
theorem Jw {t : TypeId} {cs : List AV} (h : Owns n0 H0 bs os n H) (hlo : lo ≤ n) (hn0 : n0 ≤ lo) (hk : ∀ g n', lo ≤ g → n ≤ n' → g < n' → Owns n0 H0 ((g, .cells t cs) :: bs) os n' (upd H g (some (.cells t cs))) → K ⟨AC e d (.ptr g 0), n', upd H g (some (.cells t cs))⟩) : QE .free lo (.cells t cs) d K e n H := by
 refine U7 hlo ⟨n, hlo, h.mem.sup n (Nat.le_refl _)⟩ fun g n' h1 h2 h3 h4 => hk g n' h1 h3 h4 ?_
 have h5 := h.allocF (Nat.le_trans hn0 h1) h2 h3 h4 (.cells t cs)
 refine ⟨h5.mem, fun b hb => ?_, h5.row, h5.apart⟩
 rcases List.mem_cons.1 hb with rfl | hb
 ·exact ⟨AP _ _ _, by simp only; omega, fun _ _ h => by cases h⟩
 ·exact h5.box b hb
end
def HZ (F : Fut) : Nat → Nat → Ad
 | 0, i => F.l.take i
 | k + 1, i => F.l ++ DJ (F.l.map (·.1)) F.fin k ++ ((F.l.map (·.1)).take i).map fun x => (x, F.fin)
theorem QZ (xs : List Int) (fin : AQ) : ∀ k, DJ xs fin (k + 1) = DJ xs fin k ++ xs.map fun x => (x, fin)
 | 0 => by simp [DJ]
 | k + 1 => by
  show xs.map (fun x => (x, fin)) ++ DJ xs fin (k + 1) = (xs.map (fun x => (x, fin)) ++ DJ xs fin k) ++ xs.map fun x => (x, fin)
  rw [QZ xs fin k, List.append_assoc]
theorem WG (F : Fut) (k : Nat) : HZ F k F.l.length = HZ F (k + 1) 0 := by
 cases k with
 | zero => simp [HZ, DJ]
 | succ k =>
  have e : (F.l.map (·.1)).take F.l.length = F.l.map (·.1) := List.take_of_length_le (by simp)
  simp only [HZ, e, QZ, List.take_zero, List.map_nil, List.append_nil, List.append_assoc]
theorem XE {F : Fut} {k i : Nat} {x : Int} {c : AQ} (h : F.l[i]? = some (x, c)) : HZ F k (i + 1) = HZ F k i ++ [(x, if k = 0 then c else F.fin)] := by
 cases k with
 | zero => simp [HZ, List.take_add_one, h]
 | succ k => simp [HZ, List.take_add_one, h]
theorem SK {F : Fut} (k : Nat) (hk : k ≠ 0) : HZ F k 0 = (FR k F).l := by
 cases k with
 | zero => exact absurd rfl hk
 | succ k => simp [HZ, FR]
theorem Xg (F : Fut) (k i : Nat) (h : i ≤ F.l.length) : (HZ F k i).length = k * F.l.length + i := by
 have e : ∀ m, (DJ (F.l.map (·.1)) F.fin m).length = m * F.l.length := fun m => by
  induction m with
  | zero => simp [DJ]
  | succ m ih => simp [DJ, ih, Nat.succ_mul]; omega
 cases k with
 | zero => simp [HZ]; omega
 | succ k => simp [HZ, e, Nat.succ_mul]; omega
abbrev GivI (n : Nat) (H : A1) (g g2 : Nat) (bs : List (Nat × AObj)) (c : AQ) (d : Ad) (z : Nat) (t : Tok) (z2 : Nat) (t2 : Tok) (n' : Nat) (H' : A1) : Prop := Owns n H ((g, Cq (.sl z (eX d) t) (.sl z2 (eT c d) t2)) :: (g2, Cq CV CV) :: bs) [⟨3, 1, .sl z (eX d) t, eX d⟩, ⟨22, 1, .sl z2 (eT c d) t2, eT c d⟩] n' H'
theorem GivI.snoc {n : Nat} {H : A1} {g g2 : Nat} {bs : List (Nat × AObj)} {c : AQ} {d : Ad} {z : Nat} {t : Tok} {z2 : Nat} {t2 : Tok} {n' : Nat} {H' : A1} {x : Int} {c' : AQ} {ob : AObj} (h : Owns n H ((g, ob) :: (g2, Cq CV CV) :: bs) [⟨3, 1, .sl z (eX d ++ [aI x]) t, eX d ++ [aI x]⟩, ⟨22, 1, .sl z2 (eT c d ++ [BX c']) t2, eT c d ++ [BX c']⟩] n' H') (hne : ∀ b ∈ (g2, Cq CV CV) :: bs, b.1 ≠ g) :
  GivI n H g g2 bs c (d ++ [(x, c')]) z t z2 t2 n' (upd H' g (some (Cq (.sl z (eX d ++ [aI x]) t) (.sl z2 (eT c d ++ [BX c']) t2)))) := by
 have h2 := h.set0 hne 40 [.sl z (eX d ++ [aI x]) t, .sl z2 (eT c d ++ [BX c']) t2]
 unfold GivI
 rw [VE, VN]
 exact h2
theorem Yk (m : Nat) (hm : m ≤ 20) (hm0 : m ≠ 0) (F : Fut) (hF : F.l.length ≤ 6000) (n : Nat) (H : A1) (xv tv : List AV) (hA : GivA F xv tv) (G : AV) (hG : G = .agg [.sl 1 (eX (FR m F).l) .ro, .sl 1 (eT F.cur (FR m F).l ++ [BX F.fin]) .ro]) (g3 g4 g5 : Nat) (hg : n ≤ g3 ∧ g3 < g4 ∧ g4 < g5) (n1 : Nat) (H1 : A1) (z : Nat) (t : Tok) (z2 : Nat) (t2 : Tok)
  (_hO : GivI n H g5 g4 [(g3, Cq (.sl 1 xv .ro) (.sl 1 tv .ro))] F.cur [] z t z2 t2 n1 H1) (R : AExit → AS → Prop) (hR : R = GD G n H c50.res) :
  LoopK (fun Q s => aw Tryz.prog c50_L7 Q s) (CD 0 (D6 (aw Tryz.prog c50_k1 R) R)) ⟨[(0, aI m), (3, .ptr g3 0), (4, .ptr g4 0), (5, .ptr g5 0), (6, BX F.fin), (7, aI 0)], n1, H1⟩ := by
 have hbd : ∀ k i, i ≤ F.l.length → k ≤ 20 → (HZ F k i).length ≤ 200000 := fun k i h1 h2 => by
  rw [Xg F k i h1]
  have : k * F.l.length ≤ 20 * 6000 := Nat.mul_le_mul h2 hF
  omega
 obtain ⟨hxl, htl, ht0, hte, hxe⟩ := hA
 
 refine LoopK.go (fun q st => ∃ (k n' : Nat) (H' : A1) (z : Nat) (t : Tok) (z2 : Nat) (t2 : Tok), k + q = m ∧ st = ⟨[(0, aI m), (3, .ptr g3 0), (4, .ptr g4 0), (5, .ptr g5 0), (6, BX F.fin), (7, aI k)], n', H'⟩ ∧ GivI n H g5 g4 [(g3, Cq (.sl 1 xv .ro) (.sl 1 tv .ro))] F.cur (HZ F k 0) z t z2 t2 n' H') m ⟨0, _, _, _, _, _, _, by omega, rfl, _hO⟩ ?_
 clear _hO
 rintro q st ⟨k, n1, H1, z, t, z2, t2, hq, rfl, _hO⟩ J hJ
 have _hb := Owns.boxF _hO
 dsimp only [AE, A7, AF] at _hb
 by_cases hk : k < m
 ·have hk' : (k : Int) < m := by omega
  clear hR
  repeat' (first | simp -implicitDefEqProofs [K0, Vu, -getElem?_pos, splice, hk', _hb] | simp (disch := omega) only [A6] | (with_reducible first | exact AG | refine BB ?_) | ((with_reducible refine EO (fun _g _hg _hO => ?_)); (have _hb := And.intro _hb _hO.boxF); dsimp only [AE, A7, AF] at _hb) | ((with_reducible refine EL (fun _g _hg _hO => ?_))) | ((with_reducible refine appKS.chk ?_); first | ((refine Ih ?_ ?_ (fun _x _n _H _hle _hO _hb => ?_)); rotate_left 2; dsimp only [AE, A7, AF] at _hb) | ((refine Im ?_ ?_ (fun _x _n _H _hle _hO _hb => ?_)); rotate_left 2; dsimp only [AE, A7, AF] at _hb)) | (with_reducible first | exact AG | refine Bv ?_ | intro _g _hg | refine A5 ?_ ?_ | intro _hc) | omega)
  refine LoopK.go (fun q2 st => ∃ (i n' : Nat) (H' : A1) (z : Nat) (t : Tok) (z2 : Nat) (t2 : Tok), i + q2 = F.l.length ∧ st = ⟨[(0, aI m), (3, .ptr g3 0), (4, .ptr g4 0), (5, .ptr g5 0), (6, BX F.fin), (7, aI k), (8, aI i)], n', H'⟩ ∧ GivI n H g5 g4 [(g3, Cq (.sl 1 xv .ro) (.sl 1 tv .ro))] F.cur (HZ F k i) z t z2 t2 n' H') F.l.length ⟨0, _, _, _, _, _, _, by omega, rfl, _hO⟩ ?_
  clear _hO _hb
  rintro q2 st ⟨i, n1, H1, z, t, z2, t2, hq2, rfl, _hO⟩ J2 hJ2
  have _hb := Owns.boxF _hO
  dsimp only [AE, A7, AF] at _hb
  have hxL := EX (HZ F k i)
  have htL := EH F.cur (HZ F k i)
  have hbi := hbd k i (by omega) (by omega)
  by_cases hi : i < F.l.length
  ·obtain ⟨x, c, hxc⟩ : ∃ x c, F.l[i]? = some (x, c) := ⟨F.l[i].1, F.l[i].2, List.getElem?_eq_getElem hi⟩
   obtain ⟨hx1, hx2⟩ := hxe i x c hxc
   have hnx := XE (k := k) hxc
   have hi' : (i : Int) < F.l.length := by omega
   by_cases hk0 : k = 0
   ·subst hk0
    rw [if_pos rfl] at hnx
    repeat' (first | simp -implicitDefEqProofs [K8, Px, QH, -getElem?_pos, splice, hxl, htl, hi', hx1, hx2, _hb] | simp (disch := omega) only [A6] | ((with_reducible refine appKS.chk ?_); refine Owns.appF (by assumption) (A0 _) (by simp; omega) (by decide) (fun _z _t _n _H _hle _hO => ?_); have _hb := Owns.boxF _hO; dsimp only [AE, A7, AF] at _hb) | ((with_reducible refine appKS.chk ?_); refine Owns.appS (by assumption) (A0 _) (by simp; omega) (by decide) (fun _z2 _t2 _n _H _hle _hO => ?_); have _hb := Owns.boxF _hO; dsimp only [AE, A7, AF] at _hb) | (with_reducible first | exact AG | refine BB ?_) | ((with_reducible refine EO (fun _g _hg _hO => ?_)); (have _hb := And.intro _hb _hO.boxF); dsimp only [AE, A7, AF] at _hb) | ((with_reducible refine EL (fun _g _hg _hO => ?_))) | (with_reducible first | exact AG | refine Bv ?_ | intro _g _hg | refine A5 ?_ ?_ | intro _hc) | omega)
    exact hJ2 (q2 - 1) _ (by omega) ⟨i + 1, _, _, _, _, _, _, by omega, rfl, by rw [hnx]; exact GivI.snoc _hO (by simp; omega)⟩
   ·have hk0' : ((k : Int) == 0) = false := by simpa using hk0
    rw [if_neg hk0] at hnx
    repeat' (first | simp -implicitDefEqProofs [K8, Px, QH, -getElem?_pos, splice, hxl, htl, hi', hx1, hx2, hk0, hk0', _hb] | simp (disch := omega) only [A6] | ((with_reducible refine appKS.chk ?_); refine Owns.appF (by assumption) (A0 _) (by simp; omega) (by decide) (fun _z _t _n _H _hle _hO => ?_); have _hb := Owns.boxF _hO; dsimp only [AE, A7, AF] at _hb) | ((with_reducible refine appKS.chk ?_); refine Owns.appS (by assumption) (A0 _) (by simp; omega) (by decide) (fun _z2 _t2 _n _H _hle _hO => ?_); have _hb := Owns.boxF _hO; dsimp only [AE, A7, AF] at _hb) | (with_reducible first | exact AG | refine BB ?_) | ((with_reducible refine EO (fun _g _hg _hO => ?_)); (have _hb := And.intro _hb _hO.boxF); dsimp only [AE, A7, AF] at _hb) | ((with_reducible refine EL (fun _g _hg _hO => ?_))) | (with_reducible first | exact AG | refine Bv ?_ | intro _g _hg | refine A5 ?_ ?_ | intro _hc) | omega)
    exact hJ2 (q2 - 1) _ (by omega) ⟨i + 1, _, _, _, _, _, _, by omega, rfl, by rw [hnx]; exact GivI.snoc _hO (by simp; omega)⟩
  ·have hi' : ¬ (i : Int) < F.l.length := by omega
   have hie : i = F.l.length := by omega
   subst hie
   repeat' (first | simp -implicitDefEqProofs [K8, WP, -getElem?_pos, splice, hxl, _hb] | simp (disch := omega) only [A6] | (with_reducible first | exact AG | refine BB ?_) | ((with_reducible refine EO (fun _g _hg _hO => ?_)); (have _hb := And.intro _hb _hO.boxF); dsimp only [AE, A7, AF] at _hb) | ((with_reducible refine EL (fun _g _hg _hO => ?_))) | ((with_reducible refine appKS.chk ?_); first | ((refine Ih ?_ ?_ (fun _x _n _H _hle _hO _hb => ?_)); rotate_left 2; dsimp only [AE, A7, AF] at _hb) | ((refine Im ?_ ?_ (fun _x _n _H _hle _hO _hb => ?_)); rotate_left 2; dsimp only [AE, A7, AF] at _hb)) | (with_reducible first | exact AG | refine Bv ?_ | intro _g _hg | refine A5 ?_ ?_ | intro _hc) | omega)
   exact hJ (q - 1) _ (by omega) ⟨k + 1, _, _, _, _, _, _, by omega, rfl, by rw [← WG]; exact _hO⟩
 ·have hke : k = m := by omega
  subst hke
  subst hR
  clear _hb
  rw [SK k hm0] at _hO
  have _hb := Owns.boxF _hO
  dsimp only [AE, A7, AF] at _hb
  have hxL := EX (FR k F).l
  have htL := EH F.cur (FR k F).l
  have hbi := hbd k 0 (by omega) (by omega)
  rw [SK k hm0] at hbi
  repeat' (first | simp -implicitDefEqProofs [K0, QT, c50, -getElem?_pos, splice, _hb] | simp (disch := omega) only [A6] | ((with_reducible refine appKS.chk ?_); refine Owns.appS (by assumption) (A0 _) (by simp; omega) (by decide) (fun _z2 _t2 _n _H _hle _hO => ?_); have _hb := Owns.boxF _hO; dsimp only [AE, A7, AF] at _hb) | (with_reducible first | exact AG | refine BB ?_) | ((with_reducible refine EO (fun _g _hg _hO => ?_)); (have _hb := And.intro _hb _hO.boxF); dsimp only [AE, A7, AF] at _hb) | ((with_reducible refine EL (fun _g _hg _hO => ?_))) | (with_reducible first | exact AG | refine Bv ?_ | intro _g _hg | refine A5 ?_ ?_ | intro _hc) | omega)
  rw [hG]
  exact Df (Af (_hO.sim0 (A0 _)) (Af (_hO.sim1 (A0 _)) (A0 _)))
theorem UP (m : Nat) (hm : m ≤ 20) (F : Fut) (hF : F.l.length ≤ 6000) : APure Tryz.prog 50 [aI m, aG F] (aG (FR m F)) := by
 have hA := A6g F
 have hA0 := hA
 have hG := FZ (FR m F)
 have hr0 : FR 0 F = ⟨F.cur, [], F.cur⟩ := by unfold FR; rw [if_pos rfl]
 have hr1 : m ≠ 0 → (FR m F).cur = F.cur ∧ (FR m F).fin = F.fin := fun h => by unfold FR; rw [if_neg h]; exact ⟨rfl, rfl⟩
 rw [FZ F]
 generalize eX F.l = xv at *
 generalize eT F.cur F.l ++ [BX F.fin] = tv at *
 obtain ⟨hxl, htl, ht0, hte, hxe⟩ := hA
 generalize hGG : aG (FR m F) = G at *
 have hl := Yk m hm
 refine A8 Tryz.func50 A5x rfl fun n H hH => ?_
 have _hb : True := trivial
 have _hO : Owns n H [] [⟨3, 1, CV, []⟩] n H := (Owns.start hH).addNil _ _ _
 by_cases h0 : m = 0
 ·subst h0
  clear hl hr1
  rw [hr0] at hG
  simp only [A3w, A2x] at hG
  repeat' (first | simp -implicitDefEqProofs [c50, QR, -getElem?_pos, splice, hxl, ht0, hte, htl, _hb] | simp (disch := omega) only [A6] | (refine Hj (by assumption) (fun _g _hg _hO => ?_); simp only [List.length_cons, List.length_nil, Nat.zero_add] at _hO; have _hb := _hO.boxF; dsimp only [AE, A7, AF] at _hb) | (with_reducible first | exact AG | refine BB ?_) | ((with_reducible refine EO (fun _g _hg _hO => ?_)); (have _hb := And.intro _hb _hO.boxF); dsimp only [AE, A7, AF] at _hb) | ((with_reducible refine EL (fun _g _hg _hO => ?_))) | ((with_reducible refine appKS.chk ?_); first | ((refine Ih ?_ ?_ (fun _x _n _H _hle _hO _hb => ?_)); rotate_left 2; dsimp only [AE, A7, AF] at _hb) | ((refine Im ?_ ?_ (fun _x _n _H _hle _hO _hb => ?_)); rotate_left 2; dsimp only [AE, A7, AF] at _hb)) | (with_reducible first | exact AG | refine Bv ?_ | intro _g _hg | refine A5 ?_ ?_ | intro _hc) | omega)
  rename_i g1 hg1 hO1 hb1 g2 hg2 hO2 hb2 g3 hg3 hO3 hb3
  refine LoopK.go (fun q st => st = ⟨[(0, aI 0), (3, .ptr g1 0), (4, .ptr g2 0), (5, .ptr _g 0), (6, BX F.cur), (7, aI 0)], _g + 1, upd (upd (upd (upd (upd H g1 (some (Cq (.sl 1 xv .ro) (.sl 1 tv .ro)))) g2 (some (Cq CV CV))) g3 (some (.row 22 1))) _g (some (Cq CV CV))) _g (some (Cq CV (.sl 1 [BX F.cur] (.own g3))))⟩) 0 rfl ?_
  rintro q st rfl J hJ
  have _hO := _hO.set0 (by simp; omega) 40 [CV, .sl 1 [BX F.cur] (.own g3)]
  have _hb := Owns.boxF _hO
  dsimp only [AE, A7, AF] at _hb
  repeat' (first | simp -implicitDefEqProofs [K0, QT, c50, -getElem?_pos, splice, _hb] | simp (disch := omega) only [A6] | ((with_reducible refine appKS.chk ?_); refine Owns.appS (by assumption) (A0 _) (by simp) (by decide) (fun _z2 _t2 _n _H _hle _hO => ?_); have _hb := Owns.boxF _hO; dsimp only [AE, A7, AF] at _hb) | (with_reducible first | exact AG | refine BB ?_) | ((with_reducible refine EO (fun _g _hg _hO => ?_)); (have _hb := And.intro _hb _hO.boxF); dsimp only [AE, A7, AF] at _hb) | ((with_reducible refine EL (fun _g _hg _hO => ?_))) | (with_reducible first | exact AG | refine Bv ?_ | intro _g _hg | refine A5 ?_ ?_ | intro _hc) | omega)
  rw [hG]
  exact Df (Af (_hO.sim0 (A0 _)) (Af (_hO.sim1 (A0 _)) (A0 _)))
 ·have h0' : ((m : Int) == 0) = false := by simpa using h0
  have hl := hl h0 F hF n H xv tv hA0 G (by rw [hG, (hr1 h0).1, (hr1 h0).2])
  repeat' (first | simp -implicitDefEqProofs [c50, QR, -getElem?_pos, splice, hxl, ht0, hte, htl, h0', _hb] | simp (disch := omega) only [A6] | (refine Hj (by assumption) (fun _g _hg _hO => ?_); simp only [List.length_cons, List.length_nil, Nat.zero_add] at _hO; have _hb := _hO.boxF; dsimp only [AE, A7, AF] at _hb) | (with_reducible first | exact AG | refine BB ?_) | ((with_reducible refine EO (fun _g _hg _hO => ?_)); (have _hb := And.intro _hb _hO.boxF); dsimp only [AE, A7, AF] at _hb) | ((with_reducible refine EL (fun _g _hg _hO => ?_))) | ((with_reducible refine appKS.chk ?_); first | ((refine Ih ?_ ?_ (fun _x _n _H _hle _hO _hb => ?_)); rotate_left 2; dsimp only [AE, A7, AF] at _hb) | ((refine Im ?_ ?_ (fun _x _n _H _hle _hO _hb => ?_)); rotate_left 2; dsimp only [AE, A7, AF] at _hb)) | (with_reducible first | exact AG | refine Bv ?_ | intro _g _hg | refine A5 ?_ ?_ | intro _hc) | omega)
  exact hl _ _ _ ⟨by omega, by omega, by omega⟩ _ _ 0 .nil _ _ (_hO.set0 (by simp; omega) _ _) _ rfl
def GC (F : Fut) (i : Nat) : AQ := (J3 F).getD i []
theorem VI (F : Fut) : (J3 F).length = F.l.length + 2 := by simp [J3]
theorem PK (F : Fut) : GC F 0 = F.cur := rfl
theorem Dh (F : Fut) : GC F (F.l.length + 1) = F.fin := by
 unfold GC J3
 rw [List.getD_eq_getElem?_getD, List.getElem?_cons_succ, List.getElem?_append_right (by simp)]
 simp
theorem FI {F : Fut} {i : Nat} {x : Int} {c : AQ} (h : F.l[i]? = some (x, c)) : GC F (i + 1) = c := by
 have hi := (List.getElem?_eq_some_iff.1 h).1
 unfold GC J3
 rw [List.getD_eq_getElem?_getD, List.getElem?_cons_succ, List.getElem?_append_left (by simpa using hi), List.getElem?_map, h]
 rfl
theorem A1r {F : Fut} {i : Nat} (h : i ≤ F.l.length + 1) : GC F i ∈ J3 F := by
 unfold GC
 rw [List.getD_eq_getElem?_getD, List.getElem?_eq_getElem (by rw [VI]; omega)]
 exact List.getElem_mem _
theorem A5w (F : Fut) : eT F.cur F.l ++ [BX F.fin] = (J3 F).map BX := by simp [eT, J3]
structure GivB (F : Fut) (xv tv : List AV) : Prop where
 xl : xv.length = F.l.length
 tl : tv.length = F.l.length + 2
 at_ : ∀ i, i ≤ F.l.length + 1 → tv[i]? = some (BX (GC F i))
 xe : ∀ (i : Nat) (x : Int) (c : AQ), F.l[i]? = some (x, c) → xv[i]? = some (aI x)
theorem R7 (F : Fut) : GivB F (eX F.l) (eT F.cur F.l ++ [BX F.fin]) := by
 refine ⟨EX _, by simp [eT], fun i hi => ?_, fun i x c h => by simp [eX, h]⟩
 rw [A5w, List.getElem?_map]
 unfold GC
 rw [List.getD_eq_getElem?_getD, List.getElem?_eq_getElem (by rw [VI]; omega)]
 rfl
def fewF (F : Fut) : Prop := ∀ c ∈ J3 F, c.length ≤ 100
theorem fewF.at_ {F : Fut} (h : fewF F) {i : Nat} (hi : i ≤ F.l.length + 1) : (GC F i).length ≤ 100 := h _ (A1r hi)
def It (F : Fut) : Prop := ∀ e ∈ F.l, AW e.1
def HE (o : Int) (la lb : Ad) : Ad := (la.zip lb).map fun p => (CH o p.1.1 p.2.1, p.1.2 ++ p.2.2)
theorem Vo {o : Int} {la lb : Ad} {i : Nat} {x y : Int} {c d : AQ} (h1 : la[i]? = some (x, c)) (h2 : lb[i]? = some (y, d)) : (HE o la lb).take (i + 1) = (HE o la lb).take i ++ [(CH o x y, c ++ d)] := by
 have : (HE o la lb)[i]? = some (CH o x y, c ++ d) := by
  unfold HE
  rw [List.getElem?_map, (List.getElem?_zip_eq_some (z := ((x, c), (y, d)))).2 ⟨h1, h2⟩]; rfl
 rw [List.take_add_one, this]; rfl
theorem R9 (o : Int) (fa fb : AQ) : ∀ (la : Ad) (cb : AQ) (lb : Ad), (De (CH o) fa fb la cb lb).1 = HE o la lb ∧ (De (CH o) fa fb la cb lb).2 = if la.length ≤ lb.length then fa ++ (cb :: lb.map (·.2)).getD la.length [] else ((la.map (·.2)).getD lb.length []) ++ fb
 | [], cb, lb => by simp [De, HE]
 | (x, c) :: r, cb, [] => by simp [De, HE]
 | (x, c) :: r, cb, (y, d) :: t => by
  obtain ⟨h1, h2⟩ := R9 o fa fb r d t
  rw [De]
  refine ⟨by rw [h1]; simp [HE], ?_⟩
  dsimp only
  rw [h2]
  simp
theorem A1b (o : Int) (F G : Fut) : (De (CH o) F.fin G.fin F.l G.cur G.l).2 = if F.l.length ≤ G.l.length then F.fin ++ GC G F.l.length else GC F (G.l.length + 1) ++ G.fin := by
 rw [(R9 o F.fin G.fin F.l G.cur G.l).2]
 split
 ·rename_i h
  congr 1
  unfold GC J3
  rw [List.getD_eq_getElem?_getD, List.getD_eq_getElem?_getD, ← List.cons_append, List.getElem?_append_left (by simp; omega)]
 ·rename_i h
  congr 1
  unfold GC J3
  rw [List.getD_eq_getElem?_getD, List.getD_eq_getElem?_getD, List.getElem?_cons_succ, List.getElem?_append_left (by simp; omega)]
theorem So (o : Int) (la lb : Ad) : (HE o la lb).length = min la.length lb.length := by simp [HE]
def Tx (o : Int) (F G : Fut) : Fut := ⟨F.cur ++ G.cur, (De (CH o) F.fin G.fin F.l G.cur G.l).1, (De (CH o) F.fin G.fin F.l G.cur G.l).2⟩
theorem Y6 (o : Int) (ho : 1 ≤ o ∧ o ≤ 5) (F G : Fut) (hF : F.l.length ≤ 6000) (hG : G.l.length ≤ 6000) (hf : fewF F) (hg : fewF G) (hnF : It F) (hnG : It G) (n : Nat) (H : A1) (xa ta xb tb : List AV) (hA : GivB F xa ta) (hB : GivB G xb tb) (V : AV) (hV : V = .agg [.sl 1 (eX (HE o F.l G.l)) .ro, .sl 1 (eT (F.cur ++ G.cur) (HE o F.l G.l) ++ [BX (Tx o F G).fin]) .ro]) (g4 g5 g6 g7 N : Nat) (hN : N = min F.l.length G.l.length) (hgg : n ≤ g4 ∧ g4 < g5 ∧ g5 < g6 ∧ g6 < g7) (n1 : Nat) (H1 : A1) (z : Nat) (t : Tok) (z2 : Nat) (t2 : Tok)
  (_hO : GivI n H g7 g6 [(g5, Cq (.sl 1 xb .ro) (.sl 1 tb .ro)), (g4, Cq (.sl 1 xa .ro) (.sl 1 ta .ro))] (F.cur ++ G.cur) [] z t z2 t2 n1 H1) (R : AExit → AS → Prop) (hR : R = GD V n H c48.res) :
  LoopK (fun Q s => aw Tryz.prog c48_L5 Q s) (CD 0 (D6 (aw Tryz.prog c48_k2 R) R)) ⟨[(0, aI o), (4, .ptr g4 0), (5, .ptr g5 0), (6, .ptr g6 0), (7, .ptr g7 0), (8, aI N), (9, aI 0)], n1, H1⟩ := by
 have hfin : (Tx o F G).fin = _ := A1b o F G
 obtain ⟨hxa, hta, haa, hea⟩ := hA
 obtain ⟨hxb, htb, hab, heb⟩ := hB
 
 refine LoopK.go (fun q st => ∃ (i n' : Nat) (H' : A1) (z : Nat) (t : Tok) (z2 : Nat) (t2 : Tok), i + q = N ∧ st = ⟨[(0, aI o), (4, .ptr g4 0), (5, .ptr g5 0), (6, .ptr g6 0), (7, .ptr g7 0), (8, aI N), (9, aI i)], n', H'⟩ ∧ GivI n H g7 g6 [(g5, Cq (.sl 1 xb .ro) (.sl 1 tb .ro)), (g4, Cq (.sl 1 xa .ro) (.sl 1 ta .ro))] (F.cur ++ G.cur) ((HE o F.l G.l).take i) z t z2 t2 n' H') N ⟨0, _, _, _, _, _, _, by omega, rfl, _hO⟩ ?_
 clear _hO
 rintro q st ⟨i, n1, H1, z, t, z2, t2, hq, rfl, _hO⟩ J hJ
 have _hb := Owns.boxF _hO
 dsimp only [AE, A7, AF] at _hb
 have hxL := EX ((HE o F.l G.l).take i)
 have htL := EH (F.cur ++ G.cur) ((HE o F.l G.l).take i)
 have hzl : ((HE o F.l G.l).take i).length ≤ 6000 := by rw [List.length_take, So]; omega
 by_cases hi : i < N
 ·obtain ⟨x, c, hxc⟩ : ∃ x c, F.l[i]? = some (x, c) := ⟨F.l[i].1, F.l[i].2, List.getElem?_eq_getElem (by omega)⟩
  obtain ⟨y, d, hyd⟩ : ∃ x c, G.l[i]? = some (x, c) := ⟨G.l[i].1, G.l[i].2, List.getElem?_eq_getElem (by omega)⟩
  have hx1 := hea i x c hxc
  have hy1 := heb i y d hyd
  have hx2 := haa (i + 1) (by omega)
  have hy2 := hab (i + 1) (by omega)
  rw [FI hxc] at hx2
  rw [FI hyd] at hy2
  have hc1 := hf.at_ (i := i + 1) (by omega)
  have hd1 := hg.at_ (i := i + 1) (by omega)
  rw [FI hxc] at hc1
  rw [FI hyd] at hd1
  have hap := JN o x y (by omega) (hnF _ (List.mem_of_getElem? hxc)) (hnG _ (List.mem_of_getElem? hyd)) (fun h => by omega)
  have hbo := Il c d (by omega)
  have hnx := Vo (o := o) hxc hyd
  have hi' : (i : Int) < N := by omega
  clear hR
  repeat' (first | simp -implicitDefEqProofs [Jr, XN, Xa, -getElem?_pos, splice, hxa, hxb, hi', hx1, hx2, hy1, hy2, _hb] | simp (disch := omega) only [A6] | ((with_reducible refine appKS.chk ?_); refine Owns.appF (by assumption) (A0 _) (by simp; omega) (by decide) (fun _z _t _n _H _hle _hO => ?_); have _hb := Owns.boxF _hO; dsimp only [AE, A7, AF] at _hb) | ((with_reducible refine appKS.chk ?_); refine Owns.appS (by assumption) (A0 _) (by simp; omega) (by decide) (fun _z2 _t2 _n _H _hle _hO => ?_); have _hb := Owns.boxF _hO; dsimp only [AE, A7, AF] at _hb) | ((with_reducible refine AO 80 ?_); (refine' CallP.sf ?_ (hap) ?_); (focus first | (with_reducible exact A0 _) | (exact Owns.simC0 (by assumption)) | (exact Owns.simC1 (by assumption)) | (simp [AK, AH, A4, A0]; done))) | ((with_reducible refine AO 79 ?_); (refine' CallP.sf ?_ (hbo) ?_); (focus first | (with_reducible exact A0 _) | (exact Owns.simC0 (by assumption)) | (exact Owns.simC1 (by assumption)) | (simp [AK, AH, A4, A0]; done))) | (with_reducible first | exact AG | refine BB ?_) | ((with_reducible refine EO (fun _g _hg _hO => ?_)); (have _hb := And.intro _hb _hO.boxF); dsimp only [AE, A7, AF] at _hb) | ((with_reducible refine EL (fun _g _hg _hO => ?_))) | (with_reducible first | exact AG | refine Bv ?_ | intro _g _hg | refine A5 ?_ ?_ | intro _hc) | omega)
  exact hJ (q - 1) _ (by omega) ⟨i + 1, _, _, _, _, _, _, by omega, rfl, by rw [hnx]; exact GivI.snoc _hO (by simp; omega)⟩
 ·have hie : i = N := by omega
  have hi' : ¬ (i : Int) < N := by omega
  have hall : (HE o F.l G.l).take i = HE o F.l G.l := List.take_of_length_le (by rw [So]; omega)
  clear _hb
  rw [hall] at _hO hxL htL hzl
  have _hb := Owns.boxF _hO
  dsimp only [AE, A7, AF] at _hb
  subst hR
  subst hie
  by_cases hfg : F.l.length ≤ G.l.length
  ·have hNF : i = F.l.length := by omega
   rw [if_pos hfg] at hfin
   have hx2 := haa (F.l.length + 1) (by omega)
   have hy2 := hab F.l.length (by omega)
   have hc1 := hf.at_ (i := F.l.length + 1) (by omega)
   have hd1 := hg.at_ (i := F.l.length) (by omega)
   rw [Dh] at hx2 hc1
   have hbo := Il F.fin (GC G F.l.length) (by omega)
   rw [← hfin] at hbo
   subst hNF
   repeat' (first | simp -implicitDefEqProofs [Jr, QQ, QG, c48, -getElem?_pos, splice, hxa, hxb, hx2, hy2, _hb] | simp (disch := omega) only [A6] | ((with_reducible refine appKS.chk ?_); refine Owns.appS (by assumption) (A0 _) (by simp; omega) (by decide) (fun _z2 _t2 _n _H _hle _hO => ?_); have _hb := Owns.boxF _hO; dsimp only [AE, A7, AF] at _hb) | ((with_reducible refine AO 79 ?_); (refine' CallP.sf ?_ (hbo) ?_); (focus first | (with_reducible exact A0 _) | (exact Owns.simC0 (by assumption)) | (exact Owns.simC1 (by assumption)) | (simp [AK, AH, A4, A0]; done))) | (with_reducible first | exact AG | refine BB ?_) | ((with_reducible refine EO (fun _g _hg _hO => ?_)); (have _hb := And.intro _hb _hO.boxF); dsimp only [AE, A7, AF] at _hb) | ((with_reducible refine EL (fun _g _hg _hO => ?_))) | (with_reducible first | exact AG | refine Bv ?_ | intro _g _hg | refine A5 ?_ ?_ | intro _hc) | omega)
   rw [hV]
   exact Df (Af (_hO.sim0 (A0 _)) (Af (_hO.sim1 (A0 _)) (A0 _)))
  ·have hNG : i = G.l.length := by omega
   rw [if_neg hfg] at hfin
   have hx2 := haa (G.l.length + 1) (by omega)
   have hy2 := hab (G.l.length + 1) (by omega)
   have hc1 := hf.at_ (i := G.l.length + 1) (by omega)
   have hd1 := hg.at_ (i := G.l.length + 1) (by omega)
   rw [Dh] at hy2 hd1
   have hbo := Il (GC F (G.l.length + 1)) G.fin (by omega)
   rw [← hfin] at hbo
   have hne : ((F.l.length : Int) == (G.l.length : Int)) = false := by simp; omega
   have hne2 : ¬ F.l.length = G.l.length := by omega
   subst hNG
   repeat' (first | simp -implicitDefEqProofs [Jr, QQ, QG, c48, -getElem?_pos, splice, hxa, hxb, hx2, hy2, hne, hne2, _hb] | simp (disch := omega) only [A6] | ((with_reducible refine appKS.chk ?_); refine Owns.appS (by assumption) (A0 _) (by simp; omega) (by decide) (fun _z2 _t2 _n _H _hle _hO => ?_); have _hb := Owns.boxF _hO; dsimp only [AE, A7, AF] at _hb) | ((with_reducible refine AO 79 ?_); (refine' CallP.sf ?_ (hbo) ?_); (focus first | (with_reducible exact A0 _) | (exact Owns.simC0 (by assumption)) | (exact Owns.simC1 (by assumption)) | (simp [AK, AH, A4, A0]; done))) | (with_reducible first | exact AG | refine BB ?_) | ((with_reducible refine EO (fun _g _hg _hO => ?_)); (have _hb := And.intro _hb _hO.boxF); dsimp only [AE, A7, AF] at _hb) | ((with_reducible refine EL (fun _g _hg _hO => ?_))) | (with_reducible first | exact AG | refine Bv ?_ | intro _g _hg | refine A5 ?_ ?_ | intro _hc) | omega)
   rw [hV]
   exact Df (Af (_hO.sim0 (A0 _)) (Af (_hO.sim1 (A0 _)) (A0 _)))
theorem Zi (o : Int) (ho : 1 ≤ o ∧ o ≤ 5) (F G : Fut) (hF : F.l.length ≤ 6000) (hG : G.l.length ≤ 6000) (hf : fewF F) (hg : fewF G) (hnF : It F) (hnG : It G) : APure Tryz.prog 48 [aI o, aG F, aG G] (aG (Tx o F G)) := by
 have hA := R7 F
 have hB := R7 G
 have hA0 := hA
 have hB0 := hB
 have hV := FZ (Tx o F G)
 have hV2 : (Tx o F G).l = HE o F.l G.l := (R9 o F.fin G.fin F.l G.cur G.l).1
 have hV3 : (Tx o F G).cur = F.cur ++ G.cur := rfl
 rw [hV2, hV3] at hV
 rw [FZ F, FZ G]
 generalize eX F.l = xa at *
 generalize eT F.cur F.l ++ [BX F.fin] = ta at *
 generalize eX G.l = xb at *
 generalize eT G.cur G.l ++ [BX G.fin] = tb at *
 obtain ⟨hxa, hta, haa, hea⟩ := hA
 obtain ⟨hxb, htb, hab, heb⟩ := hB
 have hl := Y6 o ho F G hF hG hf hg hnF hnG
 have hx0 := haa 0 (by omega)
 have hy0 := hab 0 (by omega)
 rw [PK] at hx0 hy0
 have hc0 := hf.at_ (i := 0) (by omega)
 have hd0 := hg.at_ (i := 0) (by omega)
 rw [PK] at hc0 hd0
 have hbo := Il F.cur G.cur (by omega)
 generalize aG (Tx o F G) = V at *
 refine A8 Tryz.func48 A5v rfl fun n H hH => ?_
 have hl := hl n H xa ta xb tb hA0 hB0 V hV
 have _hb : True := trivial
 have _hO : Owns n H [] [⟨3, 1, CV, []⟩] n H := (Owns.start hH).addNil _ _ _
 by_cases hlt : G.l.length < F.l.length
 ·have hlt' : (G.l.length : Int) < F.l.length := by omega
  repeat' (first | simp -implicitDefEqProofs [c48, Qm, -getElem?_pos, splice, hxa, hxb, hx0, hy0, hta, htb, hlt', _hb] | simp (disch := omega) only [A6] | (refine KZ (by assumption) (by omega) (by omega) (fun _g _n _hg _hn _hl _hO => ?_) rfl; have _hb := _hO.boxF; dsimp only [AE, A7, AF] at _hb) | (refine Jw (by assumption) (by omega) (by omega) (fun _g _n _hg _hn _hl _hO => ?_); have _hb := _hO.boxF; dsimp only [AE, A7, AF] at _hb) | ((with_reducible refine AO 79 ?_); (refine' CallP.sf ?_ (hbo) ?_); (focus first | (with_reducible exact A0 _) | (exact Owns.simC0 (by assumption)) | (exact Owns.simC1 (by assumption)) | (simp [AK, AH, A4, A0]; done))) | (with_reducible first | exact AG | refine BB ?_) | ((with_reducible refine EO (fun _g _hg _hO => ?_)); (have _hb := And.intro _hb _hO.boxF); dsimp only [AE, A7, AF] at _hb) | ((with_reducible refine EL (fun _g _hg _hO => ?_))) | ((with_reducible refine appKS.chk ?_); first | ((refine Ih ?_ ?_ (fun _x _n _H _hle _hO _hb => ?_)); rotate_left 2; dsimp only [AE, A7, AF] at _hb) | ((refine Im ?_ ?_ (fun _x _n _H _hle _hO _hb => ?_)); rotate_left 2; dsimp only [AE, A7, AF] at _hb)) | (with_reducible first | exact AG | refine Bv ?_ | intro _g _hg | refine A5 ?_ ?_ | intro _hc) | omega)
  refine hl _ _ _ _ _ ?_ ⟨?_, ?_, ?_, ?_⟩ _ _ 0 .nil _ _ (_hO.set0 (by simp; omega) _ _) _ rfl <;> omega
 ·have hlt' : ¬ (G.l.length : Int) < F.l.length := by omega
  repeat' (first | simp -implicitDefEqProofs [c48, Qm, -getElem?_pos, splice, hxa, hxb, hx0, hy0, hta, htb, hlt', _hb] | simp (disch := omega) only [A6] | (refine KZ (by assumption) (by omega) (by omega) (fun _g _n _hg _hn _hl _hO => ?_) rfl; have _hb := _hO.boxF; dsimp only [AE, A7, AF] at _hb) | (refine Jw (by assumption) (by omega) (by omega) (fun _g _n _hg _hn _hl _hO => ?_); have _hb := _hO.boxF; dsimp only [AE, A7, AF] at _hb) | ((with_reducible refine AO 79 ?_); (refine' CallP.sf ?_ (hbo) ?_); (focus first | (with_reducible exact A0 _) | (exact Owns.simC0 (by assumption)) | (exact Owns.simC1 (by assumption)) | (simp [AK, AH, A4, A0]; done))) | (with_reducible first | exact AG | refine BB ?_) | ((with_reducible refine EO (fun _g _hg _hO => ?_)); (have _hb := And.intro _hb _hO.boxF); dsimp only [AE, A7, AF] at _hb) | ((with_reducible refine EL (fun _g _hg _hO => ?_))) | ((with_reducible refine appKS.chk ?_); first | ((refine Ih ?_ ?_ (fun _x _n _H _hle _hO _hb => ?_)); rotate_left 2; dsimp only [AE, A7, AF] at _hb) | ((refine Im ?_ ?_ (fun _x _n _H _hle _hO _hb => ?_)); rotate_left 2; dsimp only [AE, A7, AF] at _hb)) | (with_reducible first | exact AG | refine Bv ?_ | intro _g _hg | refine A5 ?_ ?_ | intro _hc) | omega)
  refine hl _ _ _ _ _ ?_ ⟨?_, ?_, ?_, ?_⟩ _ _ 0 .nil _ _ (_hO.set0 (by simp; omega) _ _) _ rfl <;> omega
theorem Hq (fa fb : AQ) : ∀ la lb : Ad, (Bf fa fb la lb).length = la.length + lb.length
 | [], [] => by rw [Bf]; rfl
 | [], (y, d) :: t => by rw [Bf, List.length_cons, Hq fa fb [] t]; simp
 | (x, c) :: r, [] => by rw [Bf, List.length_cons, Hq fa fb r []]; simp
 | (x, c) :: r, (y, d) :: t => by
  rw [Bf]
  split
  ·rw [List.length_cons, Hq fa fb r ((y, d) :: t)]; simp; omega
  ·rw [List.length_cons, Hq fa fb ((x, c) :: r) t]; simp; omega
 termination_by la lb => la.length + lb.length
def GZ (F G : Fut) : Fut := ⟨F.cur ++ G.cur, Bf F.fin G.fin F.l G.l, F.fin ++ G.fin⟩
structure MerI (F G : Fut) (i k : Nat) : Prop where
 hi : i ≤ F.l.length
 hk : k ≤ G.l.length
 dr : (GZ F G).l.drop (i + k) = Bf F.fin G.fin (F.l.drop i) (G.l.drop k)
variable {α : Type} {F G : Fut}
theorem BY {l : List α} {i : Nat} {x : α} (h : l[i]? = some x) : l.drop i = x :: l.drop (i + 1) := by
 obtain ⟨h1, h2⟩ := List.getElem?_eq_some_iff.1 h
 rw [List.drop_eq_getElem_cons h1, h2]
theorem Jd {l r : List α} {j : Nat} {x : α} (h : l.drop j = x :: r) : l.take (j + 1) = l.take j ++ [x] ∧ l.drop (j + 1) = r := by
 have h1 : l[j]? = some x := by
  have := congrArg (fun m => m[0]?) h
  simpa using this
 have h2 : l.drop (j + 1) = r := by
  have := congrArg List.tail h
  simpa using this
 exact ⟨by rw [List.take_add_one, h1]; rfl, h2⟩
theorem MerI.left {i k : Nat} (h : MerI F G i k) {x : Int} {c : AQ} (hx : F.l[i]? = some (x, c)) (hc : G.l.length ≤ k ∨ ∃ y d, G.l[k]? = some (y, d) ∧ x ≤ y) : (GZ F G).l.take (i + k + 1) = (GZ F G).l.take (i + k) ++ [(x, GC F (i + 1) ++ GC G (k + 1))] ∧ MerI F G (i + 1) k := by
 have hi := (List.getElem?_eq_some_iff.1 hx).1
 have hd := h.dr
 rw [BY hx] at hd
 have key : Bf F.fin G.fin ((x, c) :: F.l.drop (i + 1)) (G.l.drop k) = (x, GC F (i + 1) ++ GC G (k + 1)) :: Bf F.fin G.fin (F.l.drop (i + 1)) (G.l.drop k) := by
  rw [FI hx]
  rcases hc with hc | ⟨y, d, hy, hxy⟩
  ·have : k = G.l.length := by have := h.hk; omega
   rw [this, List.drop_length, Dh, Bf]
  ·rw [BY hy, FI hy, Bf, if_pos hxy]
 rw [key] at hd
 obtain ⟨h1, h2⟩ := Jd hd
 refine ⟨h1, by omega, h.hk, ?_⟩
 rw [← h2]; congr 1; omega
theorem MerI.right {i k : Nat} (h : MerI F G i k) {y : Int} {d : AQ} (hy : G.l[k]? = some (y, d)) (hc : F.l.length ≤ i ∨ ∃ x c, F.l[i]? = some (x, c) ∧ ¬ x ≤ y) : (GZ F G).l.take (i + k + 1) = (GZ F G).l.take (i + k) ++ [(y, GC F (i + 1) ++ GC G (k + 1))] ∧ MerI F G i (k + 1) := by
 have hk := (List.getElem?_eq_some_iff.1 hy).1
 have hd := h.dr
 rw [BY hy] at hd
 have key : Bf F.fin G.fin (F.l.drop i) ((y, d) :: G.l.drop (k + 1)) = (y, GC F (i + 1) ++ GC G (k + 1)) :: Bf F.fin G.fin (F.l.drop i) (G.l.drop (k + 1)) := by
  rw [FI hy]
  rcases hc with hc | ⟨x, c, hx, hxy⟩
  ·have : i = F.l.length := by have := h.hi; omega
   rw [this, List.drop_length, Dh, Bf]
  ·rw [BY hx, FI hx, Bf, if_neg hxy]
 rw [key] at hd
 obtain ⟨h1, h2⟩ := Jd hd
 exact ⟨h1, h.hi, by omega, h2⟩
theorem YE (F G : Fut) (hF : F.l.length ≤ 6000) (hG : G.l.length ≤ 6000) (hf : fewF F) (hg : fewF G) (n : Nat) (H : A1) (xa ta xb tb : List AV) (hA : GivB F xa ta) (hB : GivB G xb tb) (V : AV) (hV : V = .agg [.sl 1 (eX (GZ F G).l) .ro, .sl 1 (eT (F.cur ++ G.cur) (GZ F G).l ++ [BX (F.fin ++ G.fin)]) .ro]) (g4 g5 g6 g7 : Nat) (hgg : n ≤ g4 ∧ g4 < g5 ∧ g5 < g6 ∧ g6 < g7) (n1 : Nat) (H1 : A1) (z : Nat) (t : Tok) (z2 : Nat) (t2 : Tok)
  (_hO : GivI n H g7 g6 [(g5, Cq (.sl 1 xb .ro) (.sl 1 tb .ro)), (g4, Cq (.sl 1 xa .ro) (.sl 1 ta .ro))] (F.cur ++ G.cur) [] z t z2 t2 n1 H1) (R : AExit → AS → Prop) (hR : R = GD V n H c49.res) :
  LoopK (fun Q s => aw Tryz.prog c49_L5 Q s) (CD 0 (D6 (aw Tryz.prog c49_k1 R) R)) ⟨[(2, .ptr g4 0), (3, .ptr g5 0), (4, .ptr g6 0), (5, .ptr g7 0), (6, aI 0), (7, aI 0)], n1, H1⟩ := by
 have hml : (GZ F G).l.length = F.l.length + G.l.length := Hq _ _ _ _
 obtain ⟨hxa, hta, haa, hea⟩ := hA
 obtain ⟨hxb, htb, hab, heb⟩ := hB
 
 refine LoopK.go (fun q st => ∃ (i k n' : Nat) (H' : A1) (z : Nat) (t : Tok) (z2 : Nat) (t2 : Tok), i + k + q = F.l.length + G.l.length ∧ MerI F G i k ∧ st = ⟨[(2, .ptr g4 0), (3, .ptr g5 0), (4, .ptr g6 0), (5, .ptr g7 0), (6, aI i), (7, aI k)], n', H'⟩ ∧ GivI n H g7 g6 [(g5, Cq (.sl 1 xb .ro) (.sl 1 tb .ro)), (g4, Cq (.sl 1 xa .ro) (.sl 1 ta .ro))] (F.cur ++ G.cur) ((GZ F G).l.take (i + k)) z t z2 t2 n' H') (F.l.length + G.l.length) ⟨0, 0, _, _, _, _, _, _, by omega, ⟨by omega, by omega, by simp [GZ]⟩, rfl, _hO⟩ ?_
 clear _hO
 rintro q st ⟨i, k, n1, H1, z, t, z2, t2, hq, hI, rfl, _hO⟩ J hJ
 have _hb := Owns.boxF _hO
 dsimp only [AE, A7, AF] at _hb
 have hxL := EX ((GZ F G).l.take (i + k))
 have htL := EH (F.cur ++ G.cur) ((GZ F G).l.take (i + k))
 have hzl : ((GZ F G).l.take (i + k)).length ≤ 12000 := by rw [List.length_take]; omega
 have hi1 := hI.hi
 have hk1 := hI.hk
 have hx2 := haa (i + 1) (by omega)
 have hy2 := hab (k + 1) (by omega)
 have hc1 := hf.at_ (i := i + 1) (by omega)
 have hd1 := hg.at_ (i := k + 1) (by omega)
 have hbo := Il (GC F (i + 1)) (GC G (k + 1)) (by omega)
 have hnF : ¬ i < F.l.length → ¬ (i : Int) < F.l.length := fun h => by omega
 by_cases hi : i < F.l.length
 ·obtain ⟨x, c, hxc⟩ : ∃ x c, F.l[i]? = some (x, c) := ⟨F.l[i].1, F.l[i].2, List.getElem?_eq_getElem hi⟩
  have hx1 := hea i x c hxc
  have hi' : (i : Int) < F.l.length := by omega
  clear hR
  by_cases hk : k < G.l.length
  ·obtain ⟨y, d, hyd⟩ : ∃ x c, G.l[k]? = some (x, c) := ⟨G.l[k].1, G.l[k].2, List.getElem?_eq_getElem hk⟩
   have hy1 := heb k y d hyd
   have hk' : ¬ (G.l.length : Int) ≤ k := by omega
   have hk'' : ¬ G.l.length ≤ k := by omega
   by_cases hxy : x ≤ y
   ·obtain ⟨hnx, hI2⟩ := hI.left hxc (.inr ⟨y, d, hyd, hxy⟩)
    repeat' (first | simp -implicitDefEqProofs [Ga, IM, IG, I9, -getElem?_pos, splice, hxa, hxb, hi', hi, hk', hk'', hx1, hx2, hy1, hy2, hxy, _hb] | simp (disch := omega) only [A6] | ((with_reducible refine appKS.chk ?_); refine Owns.appF (by assumption) (A0 _) (by simp; omega) (by decide) (fun _z _t _n _H _hle _hO => ?_); have _hb := Owns.boxF _hO; dsimp only [AE, A7, AF] at _hb) | ((with_reducible refine appKS.chk ?_); refine Owns.appS (by assumption) (A0 _) (by simp; omega) (by decide) (fun _z2 _t2 _n _H _hle _hO => ?_); have _hb := Owns.boxF _hO; dsimp only [AE, A7, AF] at _hb) | ((with_reducible refine AO 79 ?_); (refine' CallP.sf ?_ (hbo) ?_); (focus first | (with_reducible exact A0 _) | (exact Owns.simC0 (by assumption)) | (exact Owns.simC1 (by assumption)) | (simp [AK, AH, A4, A0]; done))) | (with_reducible first | exact AG | refine BB ?_) | ((with_reducible refine EO (fun _g _hg _hO => ?_)); (have _hb := And.intro _hb _hO.boxF); dsimp only [AE, A7, AF] at _hb) | ((with_reducible refine EL (fun _g _hg _hO => ?_))) | (with_reducible first | exact AG | refine Bv ?_ | intro _g _hg | refine A5 ?_ ?_ | intro _hc) | omega)
    exact hJ (q - 1) _ (by omega) ⟨i + 1, k, _, _, _, _, _, _, by omega, hI2, rfl, by rw [show i + 1 + k = i + k + 1 by omega, hnx]; exact GivI.snoc _hO (by simp; omega)⟩
   ·obtain ⟨hnx, hI2⟩ := hI.right hyd (.inr ⟨x, c, hxc, hxy⟩)
    repeat' (first | simp -implicitDefEqProofs [Ga, IM, IG, I9, -getElem?_pos, splice, hxa, hxb, hi', hi, hk', hk'', hx1, hx2, hy1, hy2, hxy, _hb] | simp (disch := omega) only [A6] | ((with_reducible refine appKS.chk ?_); refine Owns.appF (by assumption) (A0 _) (by simp; omega) (by decide) (fun _z _t _n _H _hle _hO => ?_); have _hb := Owns.boxF _hO; dsimp only [AE, A7, AF] at _hb) | ((with_reducible refine appKS.chk ?_); refine Owns.appS (by assumption) (A0 _) (by simp; omega) (by decide) (fun _z2 _t2 _n _H _hle _hO => ?_); have _hb := Owns.boxF _hO; dsimp only [AE, A7, AF] at _hb) | ((with_reducible refine AO 79 ?_); (refine' CallP.sf ?_ (hbo) ?_); (focus first | (with_reducible exact A0 _) | (exact Owns.simC0 (by assumption)) | (exact Owns.simC1 (by assumption)) | (simp [AK, AH, A4, A0]; done))) | (with_reducible first | exact AG | refine BB ?_) | ((with_reducible refine EO (fun _g _hg _hO => ?_)); (have _hb := And.intro _hb _hO.boxF); dsimp only [AE, A7, AF] at _hb) | ((with_reducible refine EL (fun _g _hg _hO => ?_))) | (with_reducible first | exact AG | refine Bv ?_ | intro _g _hg | refine A5 ?_ ?_ | intro _hc) | omega)
    exact hJ (q - 1) _ (by omega) ⟨i, k + 1, _, _, _, _, _, _, by omega, hI2, rfl, by rw [show i + (k + 1) = i + k + 1 by omega, hnx]; exact GivI.snoc _hO (by simp; omega)⟩
  ·have hk' : (G.l.length : Int) ≤ k := by omega
   have hk'' : G.l.length ≤ k := by omega
   obtain ⟨hnx, hI2⟩ := hI.left hxc (.inl hk'')
   repeat' (first | simp -implicitDefEqProofs [Ga, IM, IG, I9, -getElem?_pos, splice, hxa, hxb, hi', hi, hk', hk'', hx1, hx2, hy2, _hb] | simp (disch := omega) only [A6] | ((with_reducible refine appKS.chk ?_); refine Owns.appF (by assumption) (A0 _) (by simp; omega) (by decide) (fun _z _t _n _H _hle _hO => ?_); have _hb := Owns.boxF _hO; dsimp only [AE, A7, AF] at _hb) | ((with_reducible refine appKS.chk ?_); refine Owns.appS (by assumption) (A0 _) (by simp; omega) (by decide) (fun _z2 _t2 _n _H _hle _hO => ?_); have _hb := Owns.boxF _hO; dsimp only [AE, A7, AF] at _hb) | ((with_reducible refine AO 79 ?_); (refine' CallP.sf ?_ (hbo) ?_); (focus first | (with_reducible exact A0 _) | (exact Owns.simC0 (by assumption)) | (exact Owns.simC1 (by assumption)) | (simp [AK, AH, A4, A0]; done))) | (with_reducible first | exact AG | refine BB ?_) | ((with_reducible refine EO (fun _g _hg _hO => ?_)); (have _hb := And.intro _hb _hO.boxF); dsimp only [AE, A7, AF] at _hb) | ((with_reducible refine EL (fun _g _hg _hO => ?_))) | (with_reducible first | exact AG | refine Bv ?_ | intro _g _hg | refine A5 ?_ ?_ | intro _hc) | omega)
   exact hJ (q - 1) _ (by omega) ⟨i + 1, k, _, _, _, _, _, _, by omega, hI2, rfl, by rw [show i + 1 + k = i + k + 1 by omega, hnx]; exact GivI.snoc _hO (by simp; omega)⟩
 ·have hi' : ¬ (i : Int) < F.l.length := by omega
  by_cases hk : k < G.l.length
  ·obtain ⟨y, d, hyd⟩ : ∃ x c, G.l[k]? = some (x, c) := ⟨G.l[k].1, G.l[k].2, List.getElem?_eq_getElem hk⟩
   have hy1 := heb k y d hyd
   have hk0 : (k : Int) < G.l.length := by omega
   have hk' : ¬ (G.l.length : Int) ≤ k := by omega
   have hk'' : ¬ G.l.length ≤ k := by omega
   obtain ⟨hnx, hI2⟩ := hI.right hyd (.inl (by omega))
   clear hR
   repeat' (first | simp -implicitDefEqProofs [Ga, IM, IG, I9, -getElem?_pos, splice, hxa, hxb, hi', hi, hk, hk0, hk', hk'', hx2, hy1, hy2, _hb] | simp (disch := omega) only [A6] | ((with_reducible refine appKS.chk ?_); refine Owns.appF (by assumption) (A0 _) (by simp; omega) (by decide) (fun _z _t _n _H _hle _hO => ?_); have _hb := Owns.boxF _hO; dsimp only [AE, A7, AF] at _hb) | ((with_reducible refine appKS.chk ?_); refine Owns.appS (by assumption) (A0 _) (by simp; omega) (by decide) (fun _z2 _t2 _n _H _hle _hO => ?_); have _hb := Owns.boxF _hO; dsimp only [AE, A7, AF] at _hb) | ((with_reducible refine AO 79 ?_); (refine' CallP.sf ?_ (hbo) ?_); (focus first | (with_reducible exact A0 _) | (exact Owns.simC0 (by assumption)) | (exact Owns.simC1 (by assumption)) | (simp [AK, AH, A4, A0]; done))) | (with_reducible first | exact AG | refine BB ?_) | ((with_reducible refine EO (fun _g _hg _hO => ?_)); (have _hb := And.intro _hb _hO.boxF); dsimp only [AE, A7, AF] at _hb) | ((with_reducible refine EL (fun _g _hg _hO => ?_))) | (with_reducible first | exact AG | refine Bv ?_ | intro _g _hg | refine A5 ?_ ?_ | intro _hc) | omega)
   exact hJ (q - 1) _ (by omega) ⟨i, k + 1, _, _, _, _, _, _, by omega, hI2, rfl, by rw [show i + (k + 1) = i + k + 1 by omega, hnx]; exact GivI.snoc _hO (by simp; omega)⟩
  ·have hk0 : ¬ (k : Int) < G.l.length := by omega
   have hie : i = F.l.length := by omega
   have hke : k = G.l.length := by omega
   have hall : (GZ F G).l.take (i + k) = (GZ F G).l := List.take_of_length_le (by omega)
   clear _hb
   rw [hall] at _hO hxL htL hzl
   have _hb := Owns.boxF _hO
   dsimp only [AE, A7, AF] at _hb
   subst hR
   rw [hie, Dh] at hx2 hbo
   rw [hke, Dh] at hy2 hbo
   repeat' (first | simp -implicitDefEqProofs [Ga, WQ, c49, -getElem?_pos, splice, hxa, hxb, hi', hi, hk, hk0, hx2, hy2, _hb] | simp (disch := omega) only [A6] | ((with_reducible refine appKS.chk ?_); refine Owns.appS (by assumption) (A0 _) (by simp; omega) (by decide) (fun _z2 _t2 _n _H _hle _hO => ?_); have _hb := Owns.boxF _hO; dsimp only [AE, A7, AF] at _hb) | ((with_reducible refine AO 79 ?_); (refine' CallP.sf ?_ (hbo) ?_); (focus first | (with_reducible exact A0 _) | (exact Owns.simC0 (by assumption)) | (exact Owns.simC1 (by assumption)) | (simp [AK, AH, A4, A0]; done))) | (with_reducible first | exact AG | refine BB ?_) | ((with_reducible refine EO (fun _g _hg _hO => ?_)); (have _hb := And.intro _hb _hO.boxF); dsimp only [AE, A7, AF] at _hb) | ((with_reducible refine EL (fun _g _hg _hO => ?_))) | (with_reducible first | exact AG | refine Bv ?_ | intro _g _hg | refine A5 ?_ ?_ | intro _hc) | omega)
   rw [hV]
   exact Df (Af (_hO.sim0 (A0 _)) (Af (_hO.sim1 (A0 _)) (A0 _)))
theorem Zc (F G : Fut) (hF : F.l.length ≤ 6000) (hG : G.l.length ≤ 6000) (hf : fewF F) (hg : fewF G) : APure Tryz.prog 49 [aG F, aG G] (aG (GZ F G)) := by
 have hA := R7 F
 have hB := R7 G
 have hA0 := hA
 have hB0 := hB
 have hV := FZ (GZ F G)
 have hV2 : (GZ F G).fin = F.fin ++ G.fin := rfl
 have hV3 : (GZ F G).cur = F.cur ++ G.cur := rfl
 rw [hV2, hV3] at hV
 rw [FZ F, FZ G]
 generalize eX F.l = xa at *
 generalize eT F.cur F.l ++ [BX F.fin] = ta at *
 generalize eX G.l = xb at *
 generalize eT G.cur G.l ++ [BX G.fin] = tb at *
 obtain ⟨hxa, hta, haa, hea⟩ := hA
 obtain ⟨hxb, htb, hab, heb⟩ := hB
 have hl := YE F G hF hG hf hg
 have hx0 := haa 0 (by omega)
 have hy0 := hab 0 (by omega)
 rw [PK] at hx0 hy0
 have hc0 := hf.at_ (i := 0) (by omega)
 have hd0 := hg.at_ (i := 0) (by omega)
 rw [PK] at hc0 hd0
 have hbo := Il F.cur G.cur (by omega)
 generalize aG (GZ F G) = V at *
 refine A8 Tryz.func49 A6d rfl fun n H hH => ?_
 have hl := hl n H xa ta xb tb hA0 hB0 V hV
 have _hb : True := trivial
 have _hO : Owns n H [] [⟨3, 1, CV, []⟩] n H := (Owns.start hH).addNil _ _ _
 repeat' (first | simp -implicitDefEqProofs [c49, -getElem?_pos, splice, hxa, hxb, hx0, hy0, hta, htb, _hb] | simp (disch := omega) only [A6] | (refine KZ (by assumption) (by omega) (by omega) (fun _g _n _hg _hn _hl _hO => ?_) rfl; have _hb := _hO.boxF; dsimp only [AE, A7, AF] at _hb) | (refine Jw (by assumption) (by omega) (by omega) (fun _g _n _hg _hn _hl _hO => ?_); have _hb := _hO.boxF; dsimp only [AE, A7, AF] at _hb) | ((with_reducible refine AO 79 ?_); (refine' CallP.sf ?_ (hbo) ?_); (focus first | (with_reducible exact A0 _) | (exact Owns.simC0 (by assumption)) | (exact Owns.simC1 (by assumption)) | (simp [AK, AH, A4, A0]; done))) | (with_reducible first | exact AG | refine BB ?_) | ((with_reducible refine EO (fun _g _hg _hO => ?_)); (have _hb := And.intro _hb _hO.boxF); dsimp only [AE, A7, AF] at _hb) | ((with_reducible refine EL (fun _g _hg _hO => ?_))) | ((with_reducible refine appKS.chk ?_); first | ((refine Ih ?_ ?_ (fun _x _n _H _hle _hO _hb => ?_)); rotate_left 2; dsimp only [AE, A7, AF] at _hb) | ((refine Im ?_ ?_ (fun _x _n _H _hle _hO _hb => ?_)); rotate_left 2; dsimp only [AE, A7, AF] at _hb)) | (with_reducible first | exact AG | refine Bv ?_ | intro _g _hg | refine A5 ?_ ?_ | intro _hc) | omega)
 refine hl _ _ _ _ ⟨?_, ?_, ?_, ?_⟩ _ _ 0 .nil _ _ (_hO.set0 (by simp; omega) _ _) _ rfl <;> omega
end Go.Proofs.YtjdccdelcnmocaaGreatDoor
