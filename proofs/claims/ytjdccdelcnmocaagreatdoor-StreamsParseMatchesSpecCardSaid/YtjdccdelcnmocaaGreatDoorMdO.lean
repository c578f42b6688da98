/- Streams: sources of one part are made: repetitions, and all of them; no condition. -/
import Derived.Test.YtjdccdelcnmocaaGreatDoorMgJ
import Derived.Test.YtjdccdelcnmocaaGreatDoorMdN
import Derived.Test.YtjdccdelcnmocaaGreatDoorMdL
set_option linter.all false
set_option linter.unusedSimpArgs false
set_option linter.unusedVariables false
set_option maxHeartbeats 2000000
namespace Go.Proofs.YtjdccdelcnmocaaGreatDoor
attribute [local simp] Kz De DC Kv Lp Je Jw Dj DK Fe Fi KJ JN LL KL Ig JX Ix L9 Kn K6 Kk LJ K3 Ji RM pe KK Io Iu JW JI Kf Ir L7 Jx LH J5 L8 Is DT J0 Ju Jg Ih Li Lf K5 KN Js LO Ks LC La Im Ip Ln JQ Kt Jt JF L4 DG Lv DY Kq JZ Ky LB LG Lk KH JM LE Jr LF KA JU L0 JY JB Lo JJ Ly Jl Lm Ik Jm Jf Kw DJ KO Lj JG Ld Jn Lh Kj J9 Kp Kb Lc K2 KE LR Il Lq JC L3 Km JR Lz Jd LN L2 M1 LM Lr KG Iv JO L1 LK List.mem_cons guardK CR Ez F6 Fa Lx DX DF DL Dd DP DM DN Dh D9 M0 Ki Dg KF LP JV Jp Kc K8 DR KX LV J1 JA LW LQ Fj DQ DS DH DA Lw Ja DW Ii DD L6 Db DE Ku DO DU LZ LD KR Lg Kl J7 L5 J4 RL IR IV Gt IN IS IL Cx FB FA KV FC F8 Cv CY Sc IH II F9 IK IT D0 D4 Bg BG C3 CK Ar ev get put GQ AP Cr Jc K4 Kd LI JT Jh EF part BZ HA Jy Gx isNil CA CG EL CQ C1 Kx JP J3 KI Iq IF Ij JE Jo LU Jq Jv K7 Jz KZ Iz AV.fits AV.cells ones AV.one EK CD EE E2 FV ES Ll GB Fy CH Br C5 F3 Gg AX BY TO Fc Ko Ie List.getElem?_cons_zero List.getElem?_cons_succ Dc Df Di J8 Kg Ls H9 It Kh JK KD Ke LT JH Lu Iw LY JD
section
variable {gO lo n : Nat} {fin cur : Ai} {px : AV} {l : Bc} {O1 : Nat → Prop} {H : A4}
theorem NewS.up {e : Bool} {F : Fut} {O : Nat → Prop} {n1 n' : Nat} {H1 H' : A4} {r : AV} (h : NewS e gO lo F O n1 H1 r n' H') (hn : n ≤ n1) (hs : SameB n H H1) : NewS e gO lo F O n H r n' H' := by
 obtain ⟨h1, h2, h3, h4, O', h5, h6, h7⟩ := h
 exact ⟨h1, by omega, fun k hk => (h3 k (by omega)).trans (hs k hk), h4, O', fun g hg => (h5 g hg).imp id (fun h => by omega), h6, h7⟩
theorem Un {op m : Int} {va vb : List AV} (hop : 1 ≤ op ∧ op ≤ 3) (hm : IX m) (h3 : op = 3 → 1 ≤ m) (hrg : rgE l) (h : Pts gO lo [⟨px, some l, cur, fin, O1⟩] H n) (hx : Ox px) (hnO : ¬ OU [⟨px, some l, cur, fin, O1⟩] gO) (hO : gO < n) : ACalls Tryz.prog 77 [.agg [aI 4, aI op, aI m, .sl 1 va .ro, .sl 5 vb .ro], px] n H (NewS false gO lo ⟨cur, l.filter fun e => RJ op e.1 m, fin⟩ (OU [⟨px, some l, cur, fin, O1⟩]) n H) := by
 generalize hR : NewS _ _ _ _ _ _ _ = R
 obtain ⟨hraw0, hmon, hb1⟩ := Pf h
 have hxf := hx
 have hb := h.bel
 have hc1 : Ap [⟨px, some l, cur, fin, O1⟩] = cur := by simp [Ap]
 have hOU : O1 = OU [⟨px, some l, cur, fin, O1⟩] := funext fun g => propext ⟨fun h => .inl h, fun h => h.elim id fun h => h.elim⟩
 have hraw : Raw true gO lo fin px l cur (OU [⟨px, some l, cur, fin, O1⟩]) H n := by rw [← hOU]; exact hraw0
 obtain ⟨ff, fa, fb, rfl⟩ := hx
 refine Ab Tryz.func77 ZA rfl fun hs => ?_
 repeat' (first | (simp -implicitDefEqProofs [Q7, Pd, Pv, Pm, Pi, Q1, PO, Pc, PT, OB, c77, -getElem?_pos, splice, -Ar]) | (simp (disch := omega) only [AF]) | (with_reducible first | refine A7 ?_ ?_ ?_ | exact AB | assumption | refine A3 ?_ | refine KM.of ?_ | refine AG ?_ | refine A2 ?_ | refine A5 ?_ | intro _g _hg | refine AE ?_ ?_ | intro _hc) | omega)
 rename_i ga hga
 subst hR
 have hrec := TH (g1 := _g) (g2 := ga) (k := 4) (a := .sl 1 va .ro) (b := .sl 5 vb .ro) hop hm h3 hxf _ l cur O1 _ (upd (upd H ga (some (Aj 4 op m (.sl 1 va .ro) (.sl 5 vb .ro)))) _g (some (PN (.fn ff fa fb)))) (_g + 1) (Nat.le_refl _) (h.newB (by omega) (fun k hk => by simp (disch := omega) only [upd_ne])) rfl hrg hnO (Bx.new hb hO (by omega) (by omega) (by simp (disch := omega) only [upd_ne, AX] <;> rfl)) (Bx.new hb hO (by omega) (by omega) (by simp (disch := omega) only [upd_ne, AX] <;> rfl))
 simp only [Ap, List.append_nil] at hrec
 refine BI (r := .fn _ [] [.ptr _g 0, .ptr ga 0]) rfl (by omega) (fun k hk => by simp (disch := omega) only [upd_ne]; exact hs k (by omega)) ⟨⟨_, _, _, rfl⟩, by omega, (fun k hk => by simp (disch := omega) only [upd_ne]), (fun k hk => by simp (disch := omega) only [upd_ne]; exact hs k (by omega)), fun g => OU [⟨.fn ff fa fb, some l, cur, fin, O1⟩] g ∨ (g = _g ∨ g = ga), ?_, ?_, hrec⟩
 ·rintro g (h | h | h)
  ·exact .inl h
  ·exact .inr (by omega)
  ·exact .inr (by omega)
 ·rintro g (h | h | h)
  ·have := hb g h; omega
  ·omega
  ·omega
theorem VM {op m : Int} {va vb : List AV} {j : Nat} (hm : j ≤ 5000) (h : Pts gO lo [⟨px, some l, cur, fin, O1⟩] H n) (hx : Ox px) (hnO : ¬ OU [⟨px, some l, cur, fin, O1⟩] gO) (hO : gO < n) : ACalls Tryz.prog 77 [.agg [aI 5, aI op, aI (j : Nat), .sl 1 va .ro, .sl 5 vb .ro], px] n H (NewS false gO lo ⟨cur, (EP j cur l fin).1, (EP j cur l fin).2⟩ (OU [⟨px, some l, cur, fin, O1⟩]) n H) := by
 generalize hR : NewS _ _ _ _ _ _ _ = R
 have hxf := hx
 have hb := h.bel
 obtain ⟨ff, fa, fb, rfl⟩ := hx
 refine Ab Tryz.func77 ZA rfl fun hs => ?_
 repeat' (first | (simp -implicitDefEqProofs [Q7, Pd, Pv, Pm, Pi, Q1, PO, Pc, PT, OB, c77, -getElem?_pos, splice, -Ar]) | (simp (disch := omega) only [AF]) | ((with_reducible refine Ay 109 ?_); refine ⟨_, A1m (gO := gO) (lo := lo) hm (h.newB (by dsimp only; omega) (fun k hk => by simp (disch := omega) only [upd_ne])) hxf hnO (by dsimp only; omega), ?_⟩; rintro r n' H' hle hsup hpost) | (with_reducible first | refine A7 ?_ ?_ ?_ | exact AB | assumption | refine A3 ?_ | refine KM.of ?_ | refine AG ?_ | refine A2 ?_ | refine A5 ?_ | intro _g _hg | refine AE ?_ ?_ | intro _hc) | omega)
 rename_i ga hga
 subst hR
 dsimp only at hle hpost
 have hp2 := hpost.up (n := n) (H := H) (by omega) (fun k hk => by simp (disch := omega) only [upd_ne])
 exact BI rfl hp2.2.1 hsup hp2
end
def LS (gO : Nat) (cs : Ai) (H : A4) : Option Nat → Prop
 | none => cs = [] ∧ H gO = some (.cells 74 [.sl 0 [] .nil])
 | some gg => H gO = some (.cells 74 [.slg 1 gg cs.length]) ∧ H gg = some (.grow 3 (cs.map aI))
def OpenP (e : Bool) (gO : Nat) (cs : Ai) (q : Option Nat) (F : Fut) (n : Nat) (H : A4) : Bi := fun r n' H' => Ox r ∧ n ≤ n' ∧ (∀ k, n' ≤ k → H' k = none) ∧ ∃ gg, LS gO (cs ++ F.cur) H' (some gg) ∧ (q = some gg ∨ n ≤ gg) ∧ gg < n' ∧ (∀ g, g < n → g ≠ gO → q ≠ some g → H' g = H g) ∧
 ∃ O' : Nat → Prop, (∀ g, O' g → n ≤ g ∧ g < n') ∧ ¬ O' gg ∧ Raw e gO cs.length F.fin r F.l F.cur O' H' n'
theorem Pr {gO n n' g ga gc gd z : Nat} {t : Tok} {H H' : A4} {cs : Ai} {q : Option Nat} {xs : List Int} (hx : xs.length ≤ 140737488355328) (hz : z = 1 ∨ xs = []) (hO : gO < n) (hq : q = some g ∨ n ≤ g) (hg : g < n') (hn : n ≤ n') (a1 : n ≤ ga ∧ ga < n' ∧ ga ≠ g) (a2 : n ≤ gc ∧ gc < n' ∧ gc ≠ g) (a3 : n ≤ gd ∧ gd < n' ∧ gd ≠ g)
  (h1 : H' gO = some (.cells 74 [.slg 1 g (cs.length + 1)])) (h2 : H' g = some (.grow 3 ((cs ++ [0]).map aI))) (h3 : H' ga = some (.cells 72 [.ptr gO 0])) (h4 : H' gc = some (ML cs.length)) (h5 : H' gd = some (Pe (.sl z (xs.map aI) t))) (fr : ∀ k, k < n → k ≠ gO → q ≠ some k → H' k = H k) (sup : ∀ k, n' ≤ k → H' k = none) :
  OpenP false gO cs q (LA xs) n H (.fn 97 [] [.ptr ga 0, .ptr gc 0, .ptr gd 0]) n' H' := by
 have hrec := XO (gO := gO) (lo := cs.length) (g1 := ga) (g2 := gc) (g3 := gd) hx hz xs.length 0 (fun _ => False) H' n' (by omega) (fun h => h) (fun g h => h.elim) ⟨fun h => h, by omega, a1.2.1, h3⟩ ⟨fun h => h, by omega, a2.2.1, h4⟩ ⟨fun h => h, by omega, a3.2.1, h5⟩
 rw [List.drop_zero] at hrec
 refine ⟨⟨_, _, _, rfl⟩, hn, sup, g, ⟨by simpa [LA] using h1, h2⟩, hq, hg, fr, _, ?_, ?_, hrec⟩
 ·rintro k (h | rfl | rfl | rfl)
  ·exact h.elim
  ·exact ⟨a1.1, a1.2.1⟩
  ·exact ⟨a2.1, a2.2.1⟩
  ·exact ⟨a3.1, a3.2.1⟩
 ·rintro (h | h | h | h)
  ·exact h
  ·exact a1.2.2 h.symm
  ·exact a2.2.2 h.symm
  ·exact a3.2.2 h.symm
theorem LS.lt {gO n : Nat} {H : A4} {cs : Ai} {q : Option Nat} (h : LS gO cs H q) (hs : ∀ g, n ≤ g → H g = none) : gO < n ∧ ∀ g, q = some g → g < n ∧ gO ≠ g := by
 have k1 : ∀ (g : Nat) (ob : AObj), H g = some ob → g < n := fun g ob h => by
  rcases Nat.lt_or_ge g n with h1 | h1
  ·exact h1
  ·rw [hs g h1] at h; cases h
 match q, h with
 | none, h => exact ⟨k1 _ _ h.2, fun g h => by cases h⟩
 | some gg, h =>
  refine ⟨k1 _ _ h.1, fun g e => ?_⟩
  injection e with e
  subst e
  exact ⟨k1 _ _ h.2, fun e => by have := h.1; rw [e, h.2] at this; cases this⟩
theorem R8 {a b c : Int} (hc : 1 ≤ c) (j : Nat) : a + (j : Int) * c < b ↔ j < GS [a, b, c] := by
 show _ ↔ j < ((b - a + c - 1) / c).toNat
 have h := Int.le_ediv_iff_mul_le (a := (j : Int) + 1) (b := b - a + c - 1) (c := c) (by omega)
 rw [Int.add_mul] at h
 omega
theorem Wn {a b c : Int} {j : Nat} (hj : j < GS [a, b, c]) : (Fv [a, b, c]).take (j + 1) = (Fv [a, b, c]).take j ++ [a + (j : Int) * c] := by
 rw [List.take_succ]
 congr 1
 simp [Fv, hj]
theorem Qf (a b c : Int) : (Fv [a, b, c]).length = GS [a, b, c] := by simp [Fv]
theorem R6 {a b c : Int} (hv : 0 ≤ a ∧ a ≤ 9999 ∧ 0 ≤ b ∧ b ≤ 10000 ∧ 1 ≤ c ∧ c ≤ 9999) : GS [a, b, c] ≤ 10000 := by
 show ((b - a + c - 1) / c).toNat ≤ 10000
 have h := Int.ediv_lt_of_lt_mul (a := b - a + c - 1) (b := 10001) (c := c) (by omega) (by
  have h1 : (10000 : Int) * 1 ≤ 10000 * c := by omega
  omega)
 omega
theorem Rr {n n1 ga gb gc gd : Nat} {H1 : A4} {R : Bi} {k o m a b c : Int} {ep : List AV} (hv : 0 ≤ a ∧ a ≤ 9999 ∧ 0 ≤ b ∧ b ≤ 10000 ∧ 1 ≤ c ∧ c ≤ 9999) (qb : H1 gb = some (Aj k o m (.sl 1 [aI a, aI b, aI c] .ro) (.sl 5 ep .ro))) (qd : H1 gd = some (Pe (.sl 0 [] .nil))) (lb : gb < n1) (ld : gd < n1) (nbd : gb ≠ gd) (sup : ∀ k, n1 ≤ k → H1 k = none)
  (hk : ∀ (e : AT) (n2 z : Nat) (t : Tok) (H2 : A4), get e 4 = .fn 97 [] [.ptr ga 0, .ptr gc 0, .ptr gd 0] → n1 ≤ n2 → (∀ k, k < n1 → k ≠ gd → H2 k = H1 k) → H2 gd = some (Pe (.sl z ((Fv [a, b, c]).map aI) t)) → z = 1 ∨ Fv [a, b, c] = [] → (∀ k, n2 ≤ k → H2 k = none) → fin R n [.tmp 4] .ret ⟨e, n2, H2⟩) :
  LoopK (fun Q s => aw Tryz.prog c72_L4 Q s) (Cy 0 (Bz (aw Tryz.prog c72_k1 (fin R n [.tmp 4])) (fin R n [.tmp 4]))) ⟨[(2, .ptr ga 0), (3, .ptr gb 0), (5, .ptr gc 0), (6, .ptr gd 0), (7, aI a)], n1, H1⟩ := by
 have hbd := R6 hv
 have hln := Qf a b c
 refine LoopK.go (fun r st => ∃ (j n2 z : Nat) (t : Tok) (H2 : A4), j + r = GS [a, b, c] ∧ st = ⟨[(2, .ptr ga 0), (3, .ptr gb 0), (5, .ptr gc 0), (6, .ptr gd 0), (7, aI (a + (j : Int) * c))], n2, H2⟩ ∧ n1 ≤ n2 ∧ (∀ k, k < n1 → k ≠ gd → H2 k = H1 k) ∧ H2 gd = some (Pe (.sl z (((Fv [a, b, c]).take j).map aI) t)) ∧ (t ≠ .nil → z = 1) ∧ TokOk t j H2 n2 ∧ (∀ g, CT t g → n1 ≤ g) ∧ (∀ k, n2 ≤ k → H2 k = none)) (GS [a, b, c]) ?_ ?_
 ·exact ⟨0, n1, 0, .nil, H1, by omega, by simp, Nat.le_refl _, fun _ _ _ => rfl, qd, fun h => absurd rfl h, rfl, fun g h => h.elim, sup⟩
 rintro r st ⟨j, n2, z, t, H2, hj, rfl, hn2, hfr, q6, hz, hT, hTn, hsup⟩ J hJ
 have q3 := (hfr gb lb nbd).trans qb
 by_cases hjl : j < GS [a, b, c]
 ·have hlt := (R8 (a := a) (b := b) hv.2.2.2.2.1 j).2 hjl
  have hml : (((Fv [a, b, c]).take j).map aI).length = j := by simp; omega
  have hnx : ((Fv [a, b, c]).take (j + 1)).map aI = ((Fv [a, b, c]).take j).map aI ++ [aI (a + (j : Int) * c)] := by rw [Wn hjl]; simp
  have hw : IntKind.i64.wrap (a + (j : Int) * c + c) = a + ((j + 1 : Nat) : Int) * c := by
   have h0 : 0 ≤ (j : Int) * c := Int.mul_nonneg (by omega) (by omega)
   have e : ((j + 1 : Nat) : Int) * c = (j : Int) * c + c := by rw [Int.natCast_add, Int.add_mul]; simp
   rw [IntWalk.i64_in _ (by omega), e]; omega
  have hpx : 0 ≤ (j : Int) * c := Int.mul_nonneg (by omega) (by omega)
  generalize hx1 : a + ((j + 1 : Nat) : Int) * c = x1 at *
  generalize hx : a + (j : Int) * c = x at *
  generalize hls : ((Fv [a, b, c]).take j).map aI = ls at *
  
  repeat' (first | (simp -implicitDefEqProofs [He, Hi, Hq, Hk, Hj, c72, -getElem?_pos, q3, q6, hlt, hw, nbd, Ne.symm nbd, splice]) | (simp (disch := omega) only [AF]) | (refine Nu (by rw [hml]; exact hT.at_ (fun k hk => by have := hT.lt k hk; rw [upd_ne (by omega)]) (by omega)) hz (by rw [hml]; omega) (fun k hk => by rw [upd_ne (by omega)]; exact hsup k (by omega)) (fun g' n3 H3 k1 k2 k3 k4 k5 k6 k7 => ?_); have q6 := (k4 gd (by omega) (fun h => by have := hTn gd h; omega)).trans ((upd_ne (by omega)).trans q6); have q3 := (k4 gb (by omega) (fun h => by have := hTn gb h; omega)).trans ((upd_ne (by omega)).trans q3)) | (with_reducible first | refine A7 ?_ ?_ ?_ | exact AB | assumption | refine A3 ?_ | refine KM.of ?_ | refine AG ?_ | refine A2 ?_ | refine A6 ?_ | refine A5 ?_ | refine AH ?_ | refine AA ?_ | intro _g _hg | refine AE ?_ ?_ | intro _hc) | omega)
  have hg1 : n1 ≤ g' := k1.elim (hTn g') (fun h => by omega)
  exact hJ (r - 1) _ (by omega) ⟨j + 1, n3, 1, .own g', upd H3 gd (some (Pe (.sl 1 (ls ++ [aI x]) (.own g')))), by omega, by rw [hx1], by omega, fun k h1 h2 => by rw [upd_ne h2, k4 k (by omega) (fun h => by have := hTn k h; omega), upd_ne (by omega)]; exact hfr k h1 h2, by rw [AX, hnx], fun _ => rfl, ⟨by rw [upd_ne (by omega), k5, hml], k3⟩, fun g hg => by have e : g = g' := hg; omega, fun k h1 => by rw [upd_ne (by omega)]; exact k6 k h1⟩
 ·have hlt : ¬ a + (j : Int) * c < b := fun h => hjl ((R8 hv.2.2.2.2.1 j).1 h)
  have hall : (Fv [a, b, c]).take j = Fv [a, b, c] := List.take_of_length_le (by omega)
  rw [hall] at q6
  generalize a + (j : Int) * c = x at *
  
  repeat' (first | (simp -implicitDefEqProofs [He, Hi, Hq, Hk, Hj, c72, -getElem?_pos, q3, hlt, splice]) | (simp (disch := omega) only [AF]) | (with_reducible first | refine A7 ?_ ?_ ?_ | exact AB | assumption | refine A3 ?_ | refine KM.of ?_ | refine AG ?_ | refine A2 ?_ | refine A6 ?_ | refine A5 ?_ | refine AH ?_ | refine AA ?_ | intro _g _hg | refine AE ?_ ?_ | intro _hc) | omega)
  refine hk _ n2 z t H2 rfl hn2 hfr q6 ?_ hsup
  by_cases ht : t = .nil
  ·subst ht
   have e : j = 0 := hT
   exact .inr (List.length_eq_zero_iff.1 (by omega))
  ·exact .inl (hz ht)
theorem Vq {gO n : Nat} {H : A4} {cs : Ai} {q : Option Nat} {o m a b c : Int} {p : List St} (hv : 0 ≤ a ∧ a ≤ 9999 ∧ 0 ≤ b ∧ b ≤ 10000 ∧ 1 ≤ c ∧ c ≤ 9999) (hcs : cs.length ≤ 100) (hL : LS gO cs H q) : ACalls Tryz.prog 72 [.ptr gO 0, encS (.mk 2 o m [a, b, c] p)] n H (OpenP false gO cs q (LA (Fv [a, b, c])) n H) := by
 generalize hR : OpenP _ _ _ _ _ _ _ = R
 rw [AQ]
 generalize Ae p = ep
 refine Ab Tryz.func72 A30 rfl fun hs => ?_
 obtain ⟨hO, hgn⟩ := hL.lt hs
 have hcp : (cs ++ [0]).map aI = cs.map aI ++ [aI 0] := by simp
 cases q with
 | none =>
  obtain ⟨rfl, o1⟩ := hL
  repeat' (first | (simp -implicitDefEqProofs [He, Hi, Hq, Hk, Hj, c72, -getElem?_pos, o1, splice]) | (simp (disch := omega) only [AF]) | (refine QI (.inl rfl) (A0 _) (by simp) (by simp) (by simp [maxLen]) (fun g hg => ?_)) | (with_reducible first | refine A7 ?_ ?_ ?_ | exact AB | assumption | refine A3 ?_ | refine KM.of ?_ | refine AG ?_ | refine A2 ?_ | refine A6 ?_ | refine A5 ?_ | refine AH ?_ | refine AA ?_ | intro _g _hg | refine AE ?_ ?_ | intro _hc) | omega)
  ·simp [Az, AV.fits, ones, AV.cells, AV.one]
  rename_i ga hga gb hgb gc hgc ge hge
  refine Rr (n := n) hv (by simp (disch := omega) only [upd_ne, AX] <;> rfl) (by simp (disch := omega) only [upd_ne, AX] <;> rfl) (by omega) (by omega) (by omega) (fun k hk => by simp (disch := omega) only [upd_ne]; exact hs k (by omega)) (fun e n2 z t H2 h1 h2 h3 h4 h5 h6 => ?_)
  subst hR
  have fr2 : ∀ k, k < _g → H2 k = _ := fun k hk => h3 k (by omega) (by omega)
  exact BI (r := .fn _ [] [.ptr ga 0, .ptr gc 0, .ptr _g 0]) (by simp [Br, C5, F3, h1]) (by omega) h6 (Pr (g := g) (xs := Fv [a, b, c]) (z := z) (t := t) (by rw [Qf]; have := R6 hv; omega) h5 hO (.inr (by omega)) (by omega) (by omega) ⟨by omega, by omega, by omega⟩ ⟨by omega, by omega, by omega⟩ ⟨by omega, by omega, by omega⟩ (by rw [fr2 _ (by omega)]; exact (by simp (disch := omega) only [upd_ne, AX] <;> rfl)) (by rw [fr2 _ (by omega)]; exact (by simp (disch := omega) only [upd_ne, AX] <;> rfl)) (by rw [fr2 _ (by omega)]; exact (by simp (disch := omega) only [upd_ne, AX] <;> rfl)) (by rw [fr2 _ (by omega)]; exact (by simp (disch := omega) only [upd_ne, AX] <;> rfl)) h4 (fun k h1 h2 h3 => by rw [fr2 _ (by omega)]; simp (disch := omega) only [upd_ne]) h6)
 | some gg =>
  obtain ⟨o1, o2⟩ := hL
  obtain ⟨hgn, hne⟩ := hgn gg rfl
  repeat' (first | (simp -implicitDefEqProofs [He, Hi, Hq, Hk, Hj, c72, -getElem?_pos, o1, o2, splice]) | (simp (disch := omega) only [AF]) | (with_reducible refine NA [gg] ?_) | (refine QB (.inl rfl) (A0 _) (by simp (disch := omega) only [upd_ne]; exact o2) (by simp) (by simp; omega) (by simp [maxLen]; omega) (fun g n' h1 h2 h3 => ?_)) | (with_reducible first | refine A7 ?_ ?_ ?_ | exact AB | assumption | refine A3 ?_ | refine KM.of ?_ | refine AG ?_ | refine A2 ?_ | refine A6 ?_ | refine A5 ?_ | refine AH ?_ | refine AA ?_ | intro _g _hg | refine AE ?_ ?_ | intro _hc) | omega)
  ·simp [Az, AV.fits, ones, AV.cells, AV.one]
  rename_i ga hga gb hgb gc hgc ge hge
  have hwh := h1
  refine Rr (n := n) hv (by simp (disch := omega) only [upd_ne, AX] <;> rfl) (by simp (disch := omega) only [upd_ne, AX] <;> rfl) (by omega) (by omega) (by omega) (fun k hk => by simp (disch := omega) only [upd_ne]; exact hs k (by omega)) (fun e n2 z t H2 h1 h2 h3 h4 h5 h6 => ?_)
  subst hR
  have fr2 : ∀ k, k < _g → H2 k = _ := fun k hk => h3 k (by omega) (by omega)
  exact BI (r := .fn _ [] [.ptr ga 0, .ptr gc 0, .ptr _g 0]) (by simp [Br, C5, F3, h1]) (by omega) h6 (Pr (g := g) (xs := Fv [a, b, c]) (z := z) (t := t) (by rw [Qf]; have := R6 hv; omega) h5 hO (hwh.elim (fun h => .inl (by rw [h])) (fun h => .inr (by omega))) (by omega) (by omega) ⟨by omega, by omega, by omega⟩ ⟨by omega, by omega, by omega⟩ ⟨by omega, by omega, by omega⟩ (by rw [fr2 _ (by omega)]; exact (by simp (disch := omega) only [upd_ne, AX] <;> rfl)) (by rw [fr2 _ (by omega)]; exact (by rw [hcp]; simp (disch := omega) only [upd_ne, AX])) (by rw [fr2 _ (by omega)]; exact (by simp (disch := omega) only [upd_ne, AX] <;> rfl)) (by rw [fr2 _ (by omega)]; exact (by simp (disch := omega) only [upd_ne, AX] <;> rfl)) h4 (fun k h1 h2 h3 => by have : k ≠ gg := fun e => h3 (by rw [e]); rw [fr2 _ (by omega)]; simp (disch := omega) only [upd_ne]) h6)
theorem LS.more {gO n : Nat} {H H' : A4} {cs : Ai} {q : Option Nat} (h : LS gO cs H q) (hs : ∀ g, n ≤ g → H g = none) (hb : SameB n H H') : LS gO cs H' q := by
 obtain ⟨h1, h2⟩ := h.lt hs
 match q, h, h2 with
 | none, h, _ => exact ⟨h.1, (hb gO h1).trans h.2⟩
 | some gg, h, h2 => exact ⟨(hb gO h1).trans h.1, (hb gg (h2 gg rfl).1).trans h.2⟩
theorem OpenP.up {e : Bool} {gO n n1 n' : Nat} {H H1 H' : A4} {cs : Ai} {q : Option Nat} {F : Fut} {r : AV} (h : OpenP e gO cs q F n1 H1 r n' H') (hn : n ≤ n1) (hs : SameB n H H1) (hq : ∀ g, q = some g → g < n) : OpenP e gO cs q F n H r n' H' := by
 obtain ⟨h1, h2, h3, gg, h4, h5, h6, h7, O', h8, h9, h10⟩ := h
 exact ⟨h1, by omega, h3, gg, h4, h5.imp id (fun h => by omega), h6, fun g k1 k2 k3 => (h7 g (by omega) k2 k3).trans (hs g k1), O', fun g hg => ⟨by have := h8 g hg; omega, (h8 g hg).2⟩, h9, h10⟩
theorem OpenP.once {gO n n' n2 : Nat} {H H' H2 : A4} {cs : Ai} {q : Option Nat} {F : Fut} {r2 : AV} {gg : Nat} {O' : Nat → Prop} (hO : gO < n) (h2 : n ≤ n') (h4 : LS gO (cs ++ F.cur) H' (some gg)) (h5 : q = some gg ∨ n ≤ gg) (h6 : gg < n') (h7 : ∀ g, g < n → g ≠ gO → q ≠ some g → H' g = H g) (h8 : ∀ g, O' g → n ≤ g ∧ g < n') (h9 : ¬ O' gg) (k : NewS true gO cs.length F O' n' H' r2 n2 H2) : OpenP true gO cs q F n H r2 n2 H2 := by
 obtain ⟨k1, k2, k3, k4, O2, k5, k6, k7⟩ := k
 refine ⟨k1, by omega, k4, gg, ⟨(k3 gO (by omega)).trans h4.1, (k3 gg h6).trans h4.2⟩, h5, by omega, fun g a1 a2 a3 => (k3 g (by omega)).trans (h7 g a1 a2 a3), O2, fun g hg => ⟨?_, k6 g hg⟩, fun hg => (k5 gg hg).elim h9 (fun h => by omega), k7⟩
 exact (k5 g hg).elim (fun h => (h8 g h).1) (fun h => by omega)
theorem NewS.tr {gO lo n n1 n2 : Nat} {H H1 H2 : A4} {F : Fut} {O O1 : Nat → Prop} {r : AV} (hn : n ≤ n1) (hs : SameB n H H1) (h5 : ∀ g, O1 g → O g ∨ n ≤ g) (k : NewS true gO lo F O1 n1 H1 r n2 H2) : NewS true gO lo F O n H r n2 H2 := by
 obtain ⟨k1, k2, k3, k4, O2, k5, k6, k7⟩ := k
 exact ⟨k1, by omega, fun g hg => (k3 g (by omega)).trans (hs g hg), k4, O2, fun g hg => (k5 g hg).elim (h5 g) (fun h => .inr (by omega)), k6, k7⟩
theorem YP (s : St) : (Av s).cur.length ≤ Bh s := by
 refine St.ind (Q := fun s => (Av s).cur.length ≤ Bh s) ?_ s
 intro k o n v p ih
 rw [Av, HI, Bh]
 have hsum : ((p.map Av).map fun F => F.cur.length).sum ≤ C2 p := by
  induction p with
  | nil => simp [C2]
  | cons x r ihr =>
   have h1 := ih x List.mem_cons_self
   have h2 := ihr fun y hy => ih y (List.mem_cons_of_mem _ hy)
   simp only [List.map_cons, List.sum_cons, C2]; omega
 have hcha : ∀ Fs : List Fut, (M3 Fs).cur.length = (Fs.map fun F => F.cur.length).sum := by
  intro Fs
  induction Fs with
  | nil => rfl
  | cons F r ih => simp [M3, ih]
 generalize p.map Av = Fs at *
 unfold Fo
 split
 ·simp [LA]
 ·split
  ·simp [LA]
  ·split
   ·rw [hcha]; omega
   ·split
    ·have e : (Qv Fs).cur.length = (Fs.map fun F => F.cur.length).sum := by simp [Qv, List.length_flatten, Function.comp_def]
     rw [e]; omega
    ·split
     ·rename_i F
      have e : (IP k o n F).cur = F.cur := by
       unfold IP; (repeat' split) <;> first | rfl | (unfold Ve; split <;> rfl)
      rw [e]
      simp only [List.map_cons, List.map_nil, List.sum_cons, List.sum_nil] at hsum
      omega
     ·rename_i F G
      simp only [List.map_cons, List.map_nil, List.sum_cons, List.sum_nil] at hsum
      split <;> simp <;> omega
     ·simp
theorem Yg {gO n : Nat} {H : A4} {cs : Ai} {q : Option Nat} {k o m : Int} {v : List Int} (hL : LS gO cs H q) (main : ∀ n1 H1, LS gO cs H1 q → ACalls Tryz.prog 72 [.ptr gO 0, encS (.mk k o m v [])] n1 H1 (OpenP false gO cs q (Av (.mk k o m v [])) n1 H1)) : ACalls Tryz.prog 43 [.ptr gO 0, encS (.mk k o m v [])] n H (OpenP true gO cs q (Av (.mk k o m v [])) n H) := by
 generalize hR : OpenP _ _ _ _ _ _ _ = R
 rw [AQ] at main ⊢
 rw [show Ae [] = [] by simp [Ae]] at main ⊢
 generalize Av (.mk k o m v []) = F at *
 refine Ab Tryz.func43 ZE rfl fun hs => ?_
 obtain ⟨hO, hgn⟩ := hL.lt hs
 repeat' (first | (simp -implicitDefEqProofs [Hy, I7, IA, I8, I6, QO, QG, Mk, Mb, c43, -getElem?_pos, splice]) | (simp (disch := omega) only [AF]) | ((with_reducible refine Ay 72 ?_); refine ⟨_, main _ _ (hL.more hs (fun k hk => by simp (disch := omega) only [upd_ne])), ?_⟩; rintro r n' H' hle hsup ⟨h1, h2, h3, gg, h4, h5, h6, h7, O', h8, h9, h10⟩) | ((with_reducible refine Ay 71 ?_); refine ⟨_, WR h10 h1 (fun g hg => (h8 g hg).2) (fun h => by have := (h8 gO h).1; dsimp only at this hle; omega) (by dsimp only at hle ⊢; omega), ?_⟩; rintro r2 n2 H2 hle2 hsup2 hpost) | (with_reducible first | refine A7 ?_ ?_ ?_ | exact AB | assumption | refine A3 ?_ | refine KM.of ?_ | refine AG ?_ | refine A2 ?_ | refine A6 ?_ | refine A5 ?_ | refine AH ?_ | refine AA ?_ | intro _g _hg | refine AE ?_ ?_ | intro _hc) | omega)
 subst hR
 dsimp only at h2 h5 h7 h8 hle hle2 hpost
 exact BI rfl (by omega) hsup2 ((OpenP.once (n := _g + 1) (by omega) h2 h4 h5 h6 h7 h8 h9 hpost).up (by omega) (fun k hk => by simp (disch := omega) only [upd_ne]) (fun g hg => (hgn g hg).1))
def TokOkS (t : Tok) (k : Nat) (H : A4) (n : Nat) : Prop := match t with
 | .own g => H g = some (.row 76 k) ∧ g < n
 | .nil => k = 0
 | .ro => False
theorem XL {t t2 : Tok} {xs : List AV} {x : AV} {z : Nat} {d : Option Nat} {K : AS → Prop} {en : AT} {n : Nat} {H : A4} (h : TokOkS t xs.length H n) (hz : t ≠ .nil → z = 1) (hl : xs.length ≤ 1000000) (hs : ∀ g, n ≤ g → H g = none)
  (hk : ∀ g' n' H', (CT t g' ∨ n ≤ g') → n ≤ n' → g' < n' → (∀ k, k < n → ¬ CT t k → H' k = H k) → H' g' = some (.row 76 (xs.length + 1)) → (∀ k, n' ≤ k → H' k = none) → (∀ k, CT t k → k ≠ g' → H' k = none) → K ⟨AP en d (.sl 1 (xs ++ [x]) (.own g')), n', H'⟩) :
  appKS 76 1 8 d K ⟨en, n, H⟩ (.sl z xs t) (.sl 1 [x] t2) := by
 match t, h with
 | .nil, h =>
  have h0 : xs = [] := List.length_eq_zero_iff.1 h
  subst h0
  refine Qw (by simp) (by simp) (by simp [maxLen]) fun g hg => ?_
  exact hk g (g + 1) _ (.inr hg) (by omega) (by omega) (fun k h1 _ => by rw [upd_ne (by omega)]) (AX _ _ _) (fun k h1 => by rw [upd_ne (by omega)]; exact hs k (by omega)) (fun k h1 => h1.elim)
 | .own g0, h =>
  obtain ⟨h1, h2⟩ := h
  have hz := hz (by simp)
  subst hz
  refine Qh h1 (by simp; omega) (by simp [maxLen]; omega) fun g n' h3 h4 h5 => ?_
  refine hk g n' _ (h3.elim (fun h => .inl h) .inr) h4 h5 (fun k k1 k2 => ?_) (AX _ _ _) (fun k k1 => ?_) (fun k k1 k2 => ?_)
  ·have : k ≠ g0 := k2
   rw [upd_ne (by rcases h3 with h3 | h3 <;> omega), upd_ne this]
  ·rw [upd_ne (by omega), upd_ne (by omega)]; exact hs k (by omega)
  ·have e : k = g0 := k1
   subst e
   rw [upd_ne k2, AX]
theorem TokOkS.at_ {t : Tok} {k n n1 : Nat} {H H1 : A4} (h : TokOkS t k H n) (hH : ∀ g, CT t g → H1 g = H g) (hn : n ≤ n1) : TokOkS t k H1 n1 := by
 match t, h with
 | .nil, h => exact h
 | .own g, h => exact ⟨(hH g rfl).trans h.1, by have := h.2; omega⟩
theorem TokOkS.lt {t : Tok} {k n : Nat} {H : A4} (h : TokOkS t k H n) : ∀ g, CT t g → g < n := by
 match t, h with
 | .nil, h => exact fun g hg => hg.elim
 | .own k, h => intro g hg; have e : g = k := hg; subst e; exact h.2
structure Opnd (gO : Nat) (cs : Ai) (q : Option Nat) (n : Nat) (H : A4) (ps : List Pt) (q1 : Option Nat) (n1 : Nat) (H1 : A4) : Prop where
 ls : LS gO (cs ++ Ap ps) H1 q1
 qn : ∀ g, q1 = some g → (q = some g ∨ n ≤ g) ∧ ¬ OU ps g
 sm : ps = [] ∨ ∃ g, q1 = some g
 pts : Pts gO cs.length ps H1 n1
 nw : ∀ g, OU ps g → n ≤ g
 all : Yi ps
 fr : ∀ g, g < n → g ≠ gO → q ≠ some g → H1 g = H g
 sup : ∀ k, n1 ≤ k → H1 k = none
 le : n ≤ n1
 lO : gO < n
theorem Pts.snoc : ∀ {ps : List Pt} {p : Pt} {gO lo n : Nat} {H : A4}, Pts gO lo ps H n → PtOk gO (lo + (Ap ps).length) p H n → (∀ g, p.O g → g < n) → (∀ g, OU ps g → ¬ p.O g) → Pts gO lo (ps ++ [p]) H n
 | [], p, gO, lo, n, H, _, h1, h2, _ => ⟨by simpa [Ap] using h1, h2, fun g _ h => h.elim, trivial⟩
 | x :: ps, p, gO, lo, n, H, h, h1, h2, h3 => by
  refine ⟨h.1, h.2.1, fun g hg hu => ?_, h.2.2.2.snoc (by simpa [Ap, Nat.add_assoc] using h1) h2 fun g hg => h3 g (.inr hg)⟩
  rcases (En ps [p] g).1 hu with h4 | h4 | h4
  ·exact h.2.2.1 g hg h4
  ·exact h3 g (.inl hg) h4
  ·exact h4
theorem Opnd.step {gO n n1 n2 : Nat} {cs : Ai} {q q1 : Option Nat} {H H1 H2 : A4} {ps : List Pt} {F : Fut} {r : AV} (h : Opnd gO cs q n H ps q1 n1 H1) (k : OpenP true gO (cs ++ Ap ps) q1 F n1 H1 r n2 H2) (hm : Ni F) : ∃ (O' : Nat → Prop) (gg : Nat), Opnd gO cs q n H (ps ++ [⟨r, some F.l, F.cur, F.fin, O'⟩]) (some gg) n2 H2 ∧ (∀ g, O' g → n1 ≤ g) ∧ (∀ g, g < n1 → g ≠ gO → q1 ≠ some g → H2 g = H1 g) := by
 obtain ⟨k1, k2, k3, gg, k4, k5, k6, k7, O', k8, k9, k10⟩ := k
 have hou : ∀ g, OU (ps ++ [⟨r, some F.l, F.cur, F.fin, O'⟩]) g ↔ OU ps g ∨ O' g := fun g => by rw [En]; simp [OU]
 have hb := h.pts.bel
 have hle := h.le
 have hlO := h.lO
 refine ⟨O', gg, ⟨?_, ?_, .inr ⟨gg, rfl⟩, ?_, ?_, ?_, ?_, k3, by omega, hlO⟩, fun g hg => (k8 g hg).1, k7⟩
 ·rw [Gd]; simpa [Ap, List.append_assoc] using k4
 ·intro g hg
  injection hg with hg
  subst hg
  refine ⟨?_, fun hu => ?_⟩
  ·rcases k5 with k5 | k5
   ·exact (h.qn gg k5).1
   ·exact .inr (by omega)
  ·rcases (hou gg).1 hu with hu | hu
   ·rcases k5 with k5 | k5
    ·exact (h.qn gg k5).2 hu
    ·have := hb gg hu; omega
   ·exact k9 hu
 ·refine Pts.snoc (h.pts.at_ (fun g hg => k7 g (hb g hg) (fun e => by have := h.nw g hg; omega) (fun e => (h.qn g e).2 hg)) k2) ?_ (fun g hg => (k8 g hg).2) (fun g hg hO => by have := hb g hg; have := k8 g hO; omega)
  exact ⟨by simpa [List.length_append] using k10, hm.1⟩
 ·intro g hg
  rcases (hou g).1 hg with hg | hg
  ·exact h.nw g hg
  ·have := k8 g hg; omega
 ·intro p hp
  rcases List.mem_append.1 hp with hp | hp
  ·exact h.all p hp
  ·simp at hp; subst hp; exact ⟨⟨_, rfl⟩, k1⟩
 ·intro g a1 a2 a3
  rw [k7 g (by omega) a2 (fun e => (h.qn g e).1.elim a3 (fun h => by omega))]
  exact h.fr g a1 a2 a3
theorem Opnd.more {gO n n1 n2 : Nat} {cs : Ai} {q q1 : Option Nat} {H H1 H2 : A4} {ps : List Pt} {t : Tok} (h : Opnd gO cs q n H ps q1 n1 H1) (ht : ∀ g, CT t g → n ≤ g ∧ ¬ OU ps g ∧ q1 ≠ some g) (hn : n1 ≤ n2) (hH : ∀ k, k < n1 → ¬ CT t k → H2 k = H1 k) (hs : ∀ k, n2 ≤ k → H2 k = none) : Opnd gO cs q n H ps q1 n2 H2 := by
 have hle := h.le
 have hlO := h.lO
 refine ⟨?_, h.qn, h.sm, h.pts.at_ (fun g hg => hH g (h.pts.bel g hg) fun k => (ht g k).2.1 hg) hn, h.nw, h.all, fun g a1 a2 a3 => ?_, hs, by omega, hlO⟩
 ·have hlt := h.ls.lt h.sup
  have hgO : H2 gO = H1 gO := hH gO hlt.1 fun k => by have := (ht gO k).1; omega
  have h1 := h.ls
  match q1, h1, hlt, ht with
  | none, h1, _, _ => exact ⟨h1.1, hgO.trans h1.2⟩
  | some gg, h1, hlt, ht => exact ⟨hgO.trans h1.1, (hH gg (hlt.2 gg rfl).1 fun k => (ht gg k).2.2 rfl).trans h1.2⟩
 ·rw [hH g (by omega) fun k => by have := (ht g k).1; omega]
  exact h.fr g a1 a2 a3
theorem Opnd.fin_ {gO n n1 n2 : Nat} {cs : Ai} {q q1 : Option Nat} {H H1 H2 : A4} {ps : List Pt} {F : Fut} {r : AV} (h : Opnd gO cs q n H ps q1 n1 H1) (hp : ps ≠ []) (hc : F.cur = Ap ps) (k : NewS true gO cs.length F (OU ps) n1 H1 r n2 H2) : OpenP true gO cs q F n H r n2 H2 := by
 obtain ⟨gg, hg⟩ := h.sm.resolve_left hp
 subst hg
 have hlt := h.ls.lt h.sup
 obtain ⟨k1, k2, k3, k4, O2, k5, k6, k7⟩ := k
 have h1 := h.le
 have hgl := (hlt.2 gg rfl).1
 refine ⟨k1, by omega, k4, gg, ?_, (h.qn gg rfl).1, by omega, fun g a1 a2 a3 => (k3 g (by omega)).trans (h.fr g a1 a2 a3), O2, fun g hg => ⟨(k5 g hg).elim (h.nw g) (fun h => by omega), k6 g hg⟩, fun hg => (k5 gg hg).elim (h.qn gg rfl).2 (fun h => by omega), k7⟩
 rw [hc]
 exact ⟨(k3 gO hlt.1).trans h.ls.1, (k3 gg hgl).trans h.ls.2⟩
theorem TokOkS.neq {t : Tok} {k n g gO : Nat} {H : A4} {cs : Ai} {q : Option Nat} (h : TokOkS t k H n) (hg : CT t g) (hL : LS gO cs H q) : q ≠ some g := by
 intro e
 subst e
 have h2 := hL.2
 match t, h, hg with
 | .own j, h, hg =>
  have e2 : g = j := hg
  subst e2
  rw [h.1] at h2
  cases h2
theorem MV : ∀ a b : List St, C2 (a ++ b) = C2 a + C2 b
 | [], b => by simp [C2]
 | y :: a, b => by have := MV a b; simp [C2, this]; omega
abbrev HU (s : St) : Prop := ∀ (gO n : Nat) (H : A4) (cs : Ai) (q : Option Nat), cs.length + Bh s ≤ 100 → LS gO cs H q → ACalls Tryz.prog 43 [.ptr gO 0, encS s] n H (OpenP true gO cs q (Av s) n H)
theorem Te {gO n gs : Nat} {H : A4} {cs : Ai} {q : Option Nat} {k o m : Int} {v : List Int} {p : List St} {R : Bi} (hp0 : p ≠ []) (hp60 : p.length ≤ 60) (hsz : cs.length + C2 p ≤ 99) (hx : ∀ x ∈ p, HU x) (hL : LS gO cs H q) (hs : ∀ g, n ≤ g → H g = none) (hgs : gs < n) (hgO : gO ≠ gs) (hq : q ≠ some gs) (qs : H gs = some (Aj k o m (.sl 1 (v.map aI) .ro) (.sl 5 (Ae p) .ro))) (nR : Nat)
  (hk : ∀ (ps : List Pt) (q1 : Option Nat) (n1 : Nat) (H1 : A4) (g5 : Nat), Opnd gO cs q n H ps q1 n1 H1 → ps.map Pt.fut = p.map Av → H1 gs = some (Aj k o m (.sl 1 (v.map aI) .ro) (.sl 5 (Ae p) .ro)) → aw Tryz.prog c43_k5 (fin R nR [.tmp 4]) ⟨[(3, .ptr gs 0), (5, .sl 1 (ps.map Pt.x) (.own g5))], n1, H1⟩) :
  LoopK (fun Q s => aw Tryz.prog c43_L8 Q s) (Cy 0 (Bz (aw Tryz.prog c43_k5 (fin R nR [.tmp 4])) (fin R nR [.tmp 4]))) ⟨[(0, .ptr gO 0), (3, .ptr gs 0), (5, .sl 0 [] .nil), (17, .sl 5 (Ae p) .ro), (18, aI p.length), (19, aI 0)], n, H⟩ := by
 have hpl := BB p
 refine LoopK.go (fun r st => ∃ (j : Nat) (ps : List Pt) (q1 : Option Nat) (n1 z : Nat) (t : Tok) (H1 : A4), j + r = p.length ∧ st = ⟨[(0, .ptr gO 0), (3, .ptr gs 0), (5, .sl z (ps.map Pt.x) t), (17, .sl 5 (Ae p) .ro), (18, aI p.length), (19, aI j)], n1, H1⟩ ∧ Opnd gO cs q n H ps q1 n1 H1 ∧ ps.map Pt.fut = (p.take j).map Av ∧ (Ap ps).length ≤ C2 (p.take j) ∧ (t ≠ .nil → z = 1) ∧ TokOkS t ps.length H1 n1 ∧ (∀ g, CT t g → n ≤ g ∧ ¬ OU ps g)) p.length ?_ ?_
 ·refine ⟨0, [], q, n, 0, .nil, H, by omega, rfl, ⟨by simpa [Ap] using hL, fun g hg => ⟨.inl hg, fun h => h⟩, .inl rfl, trivial, fun g hg => hg.elim, (fun p hp => by cases hp), fun _ _ _ _ => rfl, hs, Nat.le_refl _, (hL.lt hs).1⟩, rfl, by simp [Ap], fun h => absurd rfl h, rfl, fun g hg => hg.elim⟩
 rintro r0 st ⟨j, ps, q1, n1, z, t, H1, hj, rfl, hO, hF, hcl, hz, hT, hTn⟩ J hJ
 have hle := hO.le
 have q3 : H1 gs = _ := (hO.fr gs hgs (Ne.symm hgO) hq).trans qs
 by_cases hjl : j < p.length
 ·obtain ⟨x, hxj⟩ : ∃ x, p[j]? = some x := ⟨_, List.getElem?_eq_getElem hjl⟩
  have hjl' : (j : Int) < p.length := by omega
  have hxe := Er hxj
  have hxf := BF x
  have hop := hx x (List.mem_of_getElem? hxj)
  have htk : p.take (j + 1) = p.take j ++ [x] := by rw [List.take_succ, hxj]; rfl
  have hsizt : C2 (p.take j) + Bh x ≤ C2 p := by
   have h2 := MV (p.take (j + 1)) (p.drop (j + 1))
   rw [List.take_append_drop, htk, MV] at h2
   simp only [C2] at h2
   omega
  have hmon := Ue x
  have hcx := YP x
  have hlen : ps.length = j := by have := congrArg List.length hF; simp at this; omega
  have hml : (ps.map Pt.x).length = ps.length := by simp
  obtain ⟨k', o', m', v', p'⟩ := x
  rw [AQ] at hxe hxf
  have hop2 : ∀ (n : Nat) (H : A4), LS gO (cs ++ Ap ps) H q1 → ACalls Tryz.prog 43 [.ptr gO 0, .agg [aI k', aI o', aI m', .sl 1 (v'.map aI) .ro, .sl 5 (Ae p') .ro]] n H (OpenP true gO (cs ++ Ap ps) q1 (Av (.mk k' o' m' v' p')) n H) := fun n H h => by
   have := hop gO n H (cs ++ Ap ps) q1 (by rw [List.length_append]; omega) h
   rwa [AQ] at this
  generalize hFe : Av (.mk k' o' m' v' p') = F at *
  generalize Ae p = ep at *
  generalize Ae p' = ep' at *
  generalize v'.map aI = ev' at *
  
  repeat' (first | (simp -implicitDefEqProofs [Hy, I7, IA, I8, I6, QO, QG, Mk, Mb, c43, -getElem?_pos, q3, hjl', hxe, splice]) | (simp (disch := omega) only [AF]) | ((with_reducible refine Ay 43 ?_); refine ⟨_, hop2 _ _ (hO.ls.more hO.sup (fun k hk => by simp (disch := omega) only [upd_ne])), ?_⟩; rintro r n2 H2 hle2 hsup2 hpost; dsimp only at hle2 hpost; have hpo := hpost.up (n := n1) (H := H1) (by omega) (fun k hk => by simp (disch := omega) only [upd_ne]) (fun g hg => ((hO.ls.lt hO.sup).2 g hg).1); obtain ⟨O', gg, hO2, hOn, hfr2⟩ := hO.step hpo hmon; have hT2 : TokOkS t ps.length H2 n2 := hT.at_ (fun g hg => hfr2 g (hT.lt g hg) (fun e => by have := (hTn g hg).1; have := hO.lO; omega) (hT.neq hg hO.ls)) (by omega)) | (refine XL (by rw [hml]; exact hT2.at_ (fun k hk => by have := hT2.lt k hk; rw [upd_ne (by omega)]) (by omega)) hz (by rw [hml]; omega) (fun k hk => by rw [upd_ne (by omega)]; exact hsup2 k (by omega)) (fun g' n3 H3 k1 k2 k3 k4 k5 k6 k7 => ?_)) | (with_reducible first | refine A7 ?_ ?_ ?_ | exact AB | assumption | refine A3 ?_ | refine KM.of ?_ | refine AG ?_ | refine A2 ?_ | refine A6 ?_ | refine A5 ?_ | refine AH ?_ | refine AA ?_ | intro _g _hg | refine AE ?_ ?_ | intro _hc) | omega)
  ·obtain ⟨f1, f2, f3, rfl⟩ := hpo.1
   simp [Az, AV.fits, ones, AV.cells, AV.one]
  have hou : ∀ g, OU (ps ++ [⟨r, some F.l, F.cur, F.fin, O'⟩]) g ↔ OU ps g ∨ O' g := fun g => by rw [En]; simp [OU]
  have htk2 : ∀ g, CT t g → n ≤ g ∧ ¬ OU (ps ++ [⟨r, some F.l, F.cur, F.fin, O'⟩]) g ∧ some gg ≠ some g := fun g hg =>
   ⟨(hTn g hg).1, fun h => ((hou g).1 h).elim (hTn g hg).2 (fun h => by have := hOn g h; have := hT.lt g hg; omega), hT2.neq hg hO2.ls⟩
  have hO3 := hO2.more (n2 := n3) (H2 := H3) htk2 (by omega) (fun k h1 h2 => (k4 k (by omega) h2).trans (upd_ne (by omega))) k6
  refine hJ (r0 - 1) _ (by omega) ⟨j + 1, ps ++ [⟨r, some F.l, F.cur, F.fin, O'⟩], some gg, n3, 1, .own g', H3, by omega, by simp, hO3, ?_, ?_, fun _ => rfl, ⟨by rw [k5]; simp, k3⟩, ?_⟩
  ·rw [htk, List.map_append, List.map_append, hF, List.map_singleton, List.map_singleton, hFe]; rfl
  ·rw [htk, MV, Gd, List.length_append]; simp only [Ap, List.append_nil, C2]; omega
  ·intro g hg
   have e : g = g' := hg
   subst e
   rcases k1 with k1 | k1
   ·exact ⟨(htk2 g k1).1, (htk2 g k1).2.1⟩
   ·exact ⟨by omega, fun h => by have := hO2.pts.bel g h; omega⟩
 ·have hjl' : ¬ (j : Int) < p.length := by omega
  have hlen : ps.length = j := by have := congrArg List.length hF; simp at this; omega
  have htk : p.take j = p := List.take_of_length_le (by omega)
  rw [htk] at hF
  have hpos : 0 < p.length := List.length_pos_iff.2 hp0
  match t, hT, hz with
  | .nil, hT, _ => exact absurd hT (by show ¬ ps.length = 0; omega)
  | .ro, hT, _ => exact hT.elim
  | .own g5, hT, hz =>
   have hz := hz (by simp)
   subst hz
   have hk2 := hk ps q1 n1 H1 g5 hO hF q3
   
   simp -implicitDefEqProofs [Mk, -getElem?_pos, hjl']
   exact hk2
theorem Opnd.nO {gO n n1 : Nat} {cs : Ai} {q q1 : Option Nat} {H H1 : A4} {ps : List Pt} (h : Opnd gO cs q n H ps q1 n1 H1) : ¬ OU ps gO := fun hu => by have := h.nw gO hu; have := h.lO; omega
theorem ACalls.imp {f : Nat} {args : List AV} {n : Nat} {H : A4} {R R' : Bi} (h : ACalls Tryz.prog f args n H R) (k : ∀ r n' H', n ≤ n' → R r n' H' → R' r n' H') : ACalls Tryz.prog f args n H R' :=
 fun hs w0 G w vs hl hr hv => (h hs w0 G w vs hl hr hv).mono fun e w' ⟨v, r, G', n', H', e1, e2, e3, e4, e5, e6⟩ => ⟨v, r, G', n', H', e1, k r n' H' e5 e2, e3, e4, e5, e6⟩
theorem XP {gO lo n1 n2 : Nat} {F : Fut} {O : Nat → Prop} {H1 H2 : A4} {r : AV} (hN : NewS false gO lo F O n1 H1 r n2 H2) (h1 : ¬ O gO) (h2 : gO < n1) : ACalls Tryz.prog 71 [r] n2 H2 (NewS true gO lo F O n1 H1) := by
 obtain ⟨m1, m2, m3, m4, O2, m5, m6, m7⟩ := hN
 exact (WR m7 m1 m6 (fun h => (m5 gO h).elim h1 (fun h => by omega)) (by omega)).imp fun r2 n3 H3 h3 hp => NewS.tr m2 m3 m5 hp
section
variable {gO n n1 gs g5 : Nat} {cs : Ai} {q q1 : Option Nat} {H H1 : A4} {ps : List Pt} {k o m : Int} {v : List Int} {p : List St}
theorem Y6 {f0 : Nat} {a0 w0 : List AV} {l : Bc} {cur fe : Ai} {O1 : Nat → Prop} (hop : 1 ≤ o ∧ o ≤ 3) (hm : IX m) (h3 : o = 3 → 1 ≤ m) (hrg : rgE l) (hO : Opnd gO cs q n H [⟨.fn f0 a0 w0, some l, cur, fe, O1⟩] q1 n1 H1)  (q3 : H1 gs = some (Aj 4 o m (.sl 1 (v.map aI) .ro) (.sl 5 (Ae p) .ro))) : aw Tryz.prog c43_k5 (fin (OpenP true gO cs q ⟨cur, l.filter fun e => RJ o e.1 m, fe⟩ n H) n [.tmp 4]) ⟨[(3, .ptr gs 0), (5, .sl 1 [.fn f0 a0 w0] (.own g5))], n1, H1⟩ := by
 generalize hR : OpenP _ _ _ _ _ _ _ = R
 have hlO : gO < n1 := by have := hO.lO; have := hO.le; omega
 
 repeat' (first | (simp -implicitDefEqProofs [I6, I8, IA, I7, Hy, -getElem?_pos, q3,  splice]) | (simp (disch := omega) only [AF]) | ((with_reducible refine Ay 77 ?_); refine ⟨_, Un hop hm h3 hrg hO.pts ⟨_, _, _, rfl⟩ hO.nO hlO, ?_⟩; rintro r n2 H2 hle2 hsup2 hpost) | ((with_reducible refine Ay 71 ?_); refine ⟨_, XP hpost hO.nO hlO, ?_⟩; rintro r2 n3 H3 hle3 hsup3 hp2) | (with_reducible first | refine A7 ?_ ?_ ?_ | exact AB | assumption | refine A3 ?_ | refine KM.of ?_ | refine AG ?_ | refine A2 ?_ | refine A6 ?_ | refine A5 ?_ | refine AH ?_ | refine AA ?_ | intro _g _hg | refine AE ?_ ?_ | intro _hc) | omega)
 subst hR
 have hle := hO.le
 have ho := hO.fin_ (by simp) (by simp [Ap]) hp2
 exact BI rfl ho.2.1 hsup3 ho
theorem YZ {f0 : Nat} {a0 w0 : List AV} {l : Bc} {cur fe : Ai} {O1 : Nat → Prop} {j : Nat} (hm : j ≤ 5000) (hO : Opnd gO cs q n H [⟨.fn f0 a0 w0, some l, cur, fe, O1⟩] q1 n1 H1)  (q3 : H1 gs = some (Aj 5 o (j : Nat) (.sl 1 (v.map aI) .ro) (.sl 5 (Ae p) .ro))) : aw Tryz.prog c43_k5 (fin (OpenP true gO cs q ⟨cur, (EP j cur l fe).1, (EP j cur l fe).2⟩ n H) n [.tmp 4]) ⟨[(3, .ptr gs 0), (5, .sl 1 [.fn f0 a0 w0] (.own g5))], n1, H1⟩ := by
 generalize hR : OpenP _ _ _ _ _ _ _ = R
 have hlO : gO < n1 := by have := hO.lO; have := hO.le; omega
 
 repeat' (first | (simp -implicitDefEqProofs [I6, I8, IA, I7, Hy, -getElem?_pos, q3,  splice]) | (simp (disch := omega) only [AF]) | ((with_reducible refine Ay 77 ?_); refine ⟨_, VM (m := 0) hm hO.pts ⟨_, _, _, rfl⟩ hO.nO hlO, ?_⟩; rintro r n2 H2 hle2 hsup2 hpost) | ((with_reducible refine Ay 71 ?_); refine ⟨_, XP hpost hO.nO hlO, ?_⟩; rintro r2 n3 H3 hle3 hsup3 hp2) | (with_reducible first | refine A7 ?_ ?_ ?_ | exact AB | assumption | refine A3 ?_ | refine KM.of ?_ | refine AG ?_ | refine A2 ?_ | refine A6 ?_ | refine A5 ?_ | refine AH ?_ | refine AA ?_ | intro _g _hg | refine AE ?_ ?_ | intro _hc) | omega)
 subst hR
 have hle := hO.le
 have ho := hO.fin_ (by simp) (by simp [Ap]) hp2
 exact BI rfl ho.2.1 hsup3 ho
end
theorem ZG {p : Pt} {F : Fut} (h : p.fut = F) (ha : (∃ l, p.l = some l) ∧ Ox p.x) : ∃ f a b O, p = ⟨.fn f a b, some F.l, F.cur, F.fin, O⟩ := by
 obtain ⟨x, l, cur, fe, O⟩ := p
 obtain ⟨⟨l, rfl⟩, f, a, b, rfl⟩ := ha
 subst h
 exact ⟨f, a, b, O, rfl⟩
theorem Xs {R R' : Bi} {n n0 : Nat} {res : List ARes} {e : AExit} {s : AS} (hn : n ≤ n0) (hR : ∀ r n' H', n0 ≤ n' → R r n' H' → R' r n' H') (h : fin R n0 res e s) : fin R' n res e s := by
 cases e with
 | normal => obtain ⟨r, n', H', h1, h2, h3, h4, h5, h6⟩ := h; exact ⟨r, n', H', h1, by omega, h3, h4, h5, hR _ _ _ h2 h6⟩
 | ret => obtain ⟨r, n', H', h1, h2, h3, h4, h5, h6⟩ := h; exact ⟨r, n', H', h1, by omega, h3, h4, h5, hR _ _ _ h2 h6⟩
 | exit id => exact h
abbrev UC (k o m : Int) (v : List Int) (p : List St) : Prop := ∀ {gO n n1 gs g5 : Nat} {cs : Ai} {q q1 : Option Nat} {H H1 : A4} {ps : List Pt}, ps.map Pt.fut = p.map Av → Opnd gO cs q n H ps q1 n1 H1 → ps ≠ [] → H1 gs = some (Aj k o m (.sl 1 (v.map aI) .ro) (.sl 5 (Ae p) .ro)) → aw Tryz.prog c43_k5 (fin (OpenP true gO cs q (Av (.mk k o m v p)) n H) n [.tmp 4]) ⟨[(3, .ptr gs 0), (5, .sl 1 (ps.map Pt.x) (.own g5))], n1, H1⟩
theorem SD {k o m : Int} {v : List Int} {p : List St} (hd : UC k o m v p) (hp0 : p ≠ []) (hsz : 1 + C2 p ≤ 60) (hx : ∀ x ∈ p, HU x) : HU (.mk k o m v p) := by
 intro gO n H cs q hcs hL
 simp only [Bh] at hcs
 have h60 : p.length ≤ 60 := by have := F0 p; omega
 have hpl := BB p
 have hl0 : ¬ p.length = 0 := fun e => hp0 (List.length_eq_zero_iff.1 e)
 have hl0' : ¬ (p.length : Int) = 0 := by omega
 unfold UC at hd
 generalize hR : OpenP _ _ _ _ _ _ _ = R
 rw [AQ]
 refine Ab Tryz.func43 ZE rfl fun hs => ?_
 obtain ⟨hO, hgn⟩ := hL.lt hs
 repeat' (first | (simp -implicitDefEqProofs [c43, Mb, -getElem?_pos, hpl, hl0, hl0', splice]) | (simp (disch := omega) only [AF]) | (with_reducible first | refine A7 ?_ ?_ ?_ | exact AB | assumption | refine A3 ?_ | refine KM.of ?_ | refine AG ?_ | refine A2 ?_ | refine A6 ?_ | refine A5 ?_ | refine AH ?_ | refine AA ?_ | intro _g _hg | refine AE ?_ ?_ | intro _hc) | omega)
 refine Te (gO := gO) (n := _g + 1) (gs := _g) (cs := cs) (q := q) (k := k) (o := o) (m := m) (v := v) hp0 h60 (by omega) hx (hL.more hs (fun k hk => by simp (disch := omega) only [upd_ne])) (fun k hk => by simp (disch := omega) only [upd_ne]; exact hs k (by omega)) (by omega) (by omega) (fun e => by have := hgn _ e; omega) (by simp (disch := omega) only [upd_ne, AX] <;> rfl) n ?_
 intro ps q1 n1 H1 g5 hO2 hF q3
 subst hR
 have hps : ps ≠ [] := by
  intro e
  subst e
  have := congrArg List.length hF
  simp at this
  exact hp0 (List.length_eq_zero_iff.1 this.symm)
 refine Hf (hd hF hO2 hps q3) fun e st he => Xs (by omega) (fun r n' H' _ h => h.up (by omega) (fun k hk => by simp (disch := omega) only [upd_ne]) fun g hg => (hgn g hg).1) he
end Go.Proofs.YtjdccdelcnmocaaGreatDoor
