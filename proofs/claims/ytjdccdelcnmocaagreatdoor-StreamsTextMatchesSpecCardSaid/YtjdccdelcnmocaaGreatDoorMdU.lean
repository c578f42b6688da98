/- Streams: what the reference gives: streams with one part; no condition. -/
import Derived.Test.YtjdccdelcnmocaaGreatDoorMgJ
import Derived.Test.YtjdccdelcnmocaaGreatDoorMdT
import Derived.Test.YtjdccdelcnmocaaGreatDoorMdS
import Derived.Test.YtjdccdelcnmocaaGreatDoorAdG
set_option linter.all false
set_option linter.unusedSimpArgs false
set_option linter.unusedVariables false
set_option maxHeartbeats 2000000
namespace Go.Proofs.YtjdccdelcnmocaaGreatDoor
structure AllC (s : St) : Prop where
 fit : Cy s
 ok : Nz s
 sm : Rk s
 sz : Bk s ≤ 60
attribute [local simp] Nr F6 Ej Lh Ke MA LY F0 Eg HW HP NA KJ Mo MQ Ml MY LL L9 N3 KY MH MN Nf Nu T7 pe Ki LQ Kx Ng Kw LB Lq Nv LZ NX Nn LI LF FP Mq Ku Mb Kp N6 MX KD Mg Mh M7 Kg Kl KZ NM LC Lc K9 LN NY NC N7 FB M6 Ei Lt N5 Nc Mx N9 KQ LJ Nt KX NQ MM NU MS L4 Nq MW Lx LE Md LD Mt L3 Ka NO Kf Eu NG Mr MD Lv LR NS NL Mv KO Kb KA NI Ma KH Lr KF N1 Mw LW NK M1 Mp LH Mj L8 LX MR MG Nh N2 LG NN List.mem_cons guardK Df Fh GG HG LO Ek EW FD FE Ep Eb F1 EY FM Mz Me Ew KT KP Nm Mn NF Kz Em Mf Ni N8 Ns KK Kj H8 Ef F8 Ex Ev M5 LU En Ms FI M3 F2 Ey MU Er FJ NP MP Lw LP L1 LT N0 Lm T8 Ji Jj ID Jk Jo Jd EL Gi Ge Ky Gm Gc EK Dd UH JV Jg GZ K4 K2 EI EJ Bv Bb Ck DF AI ev get put I1 AO Dv Lu Ko Lo MZ Nk KI FU part Bo I4 Lf I7 isNil D9 DC FT DW Cu L0 ME My MJ LV K0 MK Km KG Na KN NV Ld NZ MC K8 AV.fits AV.cells ones AV.one FZ D6 FV EV Gp Ff M4 Hg HJ D8 Bm CA EZ Hz AK Bl Vy HI MO M9 List.getElem?_cons_zero List.getElem?_cons_succ El EX FC Nb Lj Mc IJ L6 LM Kv Lp Mk L5 N4 MV KL Kt M2
abbrev aW (l : List Ad) : List AV := l.map AV.str
def StrB (n0 n : Nat) (H : A2) (w : AV) (l : List Ad) : Prop := (l = [] ∧ w = DX) ∨ ∃ gg, n0 ≤ gg ∧ gg < n ∧ w = .slg 1 gg l.length ∧ H gg = some (.grow 9 (aW l))
theorem StrB.alloc {n0 n : Nat} {H : A2} {w : AV} {l : List Ad} (h : StrB n0 n H w l) {g : Nat} (hg : n ≤ g) (ob : Option AObj) : StrB n0 (g + 1) (upd H g ob) w l := by
 rcases h with h | ⟨gg, h1, h2, h3, h4⟩
 ·exact .inl h
 ·exact .inr ⟨gg, h1, by omega, h3, by rw [upd_ne (by omega)]; exact h4⟩
theorem SM {n0 n : Nat} {H : A2} {w : AV} {l : List Ad} {x : Ad} {d : Option Nat} {K : AS → Prop} {e : AW} {t : Tok} (h : StrB n0 n H w l) (hn : n0 ≤ n) (hs : ∀ g, n ≤ g → H g = none) (hl : l.length ≤ 1000000)
  (hk : ∀ (w' : AV) (n' : Nat) (H' : A2), n ≤ n' → StrB n0 n' H' w' (l ++ [x]) → (∀ g, n' ≤ g → H' g = none) → (∀ g, g < n0 → H' g = H g) → w'.one = true → K ⟨AO e d w', n', H'⟩) : appKS 9 1 16 d K ⟨e, n, H⟩ w (.sl 1 [.str x] t) := by
 rcases h with ⟨rfl, rfl⟩ | ⟨gg, h1, h2, rfl, h3⟩
 ·refine DS (.inl rfl) (A4 _) (by simp) (by simp) (by simp [maxLen]) fun g hg => ?_
  exact hk _ _ _ (by omega) (.inr ⟨g, by omega, by omega, rfl, by rw [AK]; rfl⟩) (fun k hk => by rw [upd_ne (by omega)]; exact hs k (by omega)) (fun k hk => by rw [upd_ne (by omega)]) rfl
 ·have hll : (aW l).length = l.length * 1 := by simp
  refine Io (.inl rfl) (A4 _) h3 hll (by simp; omega) (by simp [maxLen]; omega) fun g n' hg h4 h5 => ?_
  refine hk _ _ _ h4 (.inr ⟨g, by omega, h5, by simp, ?_⟩) (fun k hk => ?_) (fun k hk => ?_) rfl
  ·rw [AK]; simp [AX, AV.cells]
  ·rw [upd_ne (by omega)]
   by_cases e : k = gg
   ·subst e; exact AK _ _ _
   ·rw [upd_ne e]; exact hs k (by omega)
  ·rw [upd_ne (by omega), upd_ne (by omega)]
theorem Z0 (l : List Ad) (sep : Ad) (g n : Nat) (H : A2) (hg : H g = some (.grow 9 (aW l))) (hl : l.length ≤ 1000000) (hs : sep.length ≤ 1000000) (hb : (Lib.join l sep).length ≤ 1000000000) : APureAt Tryz.prog 60 [.slg 1 g l.length, .str sep] n H (.str (Lib.join l sep)) := by
 have hmono := QI sep l
 have hwl : (aW l).length = l.length := by simp
 refine Bp Tryz.func60 A0l rfl fun hH => ?_
 repeat' (first | (simp -implicitDefEqProofs [c60, -getElem?_pos, AL]) | (simp (disch := omega) only [AB]) | (with_reducible first | refine A5 ?_ ?_ ?_ | exact A7 | assumption | refine A0 ?_ | refine KM.of ?_ | refine AA ?_ | intro _g _hg | refine A9 ?_ ?_ | intro _hc) | omega)
 refine LoopK.go (fun q st => ∃ (k : Nat), k + q = l.length ∧ st = ⟨[(0, .slg 1 g l.length), (1, .str sep), (5, .str (Lib.join (l.take k) sep)), (6, aI k)], n, H⟩) l.length ⟨0, by omega, rfl⟩ ?_
 rintro q st ⟨k, hkq, rfl⟩ J hJ
 by_cases hk : k < l.length
 ·obtain ⟨y, hy⟩ : ∃ y, l[k]? = some y := ⟨_, List.getElem?_eq_getElem hk⟩
  have hy2 : (aW l)[k]? = some (.str y) := by rw [List.getElem?_map, hy]; rfl
  have e := Ip sep l k y hy
  have hm := hmono k
  have hm1 := hmono (k + 1)
  rw [e] at hm1
  have hk' : (k : Int) < l.length := by omega
  by_cases h0 : 0 < k
  ·rw [if_pos h0] at e hm1
   rw [List.length_append, List.length_append] at hm1
   generalize Lib.join (l.take k) sep = acc at *
   generalize aW l = av at *
   have a1 : ¬ (9223372036854775807 : Int) < (acc.length : Int) + sep.length := by omega
   have a2 : ¬ (9223372036854775807 : Int) < (acc.length : Int) + sep.length + y.length := by omega
   have a3 : ¬ (9223372036854775807 : Int) < (acc.length : Int) + (sep.length + y.length) := by omega
   have h0' : (0 : Int) < k := by omega
   repeat' (first | (simp -implicitDefEqProofs [Ee, Fv, Fr, Fl, -getElem?_pos, hg, hy2, hk', h0, h0', a1, a2, a3]) | (simp (disch := omega) only [AB]) | (with_reducible first | refine A5 ?_ ?_ ?_ | exact A7 | assumption | refine A0 ?_ | refine KM.of ?_ | refine AA ?_ | intro _g _hg | refine A9 ?_ ?_ | intro _hc) | omega)
   exact hJ (q - 1) _ (by omega) ⟨k + 1, by omega, by rw [e]; simp⟩
  ·have : k = 0 := by omega
   subst this
   rw [if_neg h0] at e hm1
   rw [List.length_append] at hm1
   have hne : ¬ l = [] := fun e' => by rw [e'] at hk; simp at hk
   generalize Lib.join (l.take 0) sep = acc at *
   generalize aW l = av at *
   have a1 : ¬ (9223372036854775807 : Int) < (acc.length : Int) + y.length := by omega
   repeat' (first | (simp -implicitDefEqProofs [Ee, Fv, Fr, Fl, -getElem?_pos, hg, hy2, hk', a1, hne]) | (simp (disch := omega) only [AB]) | (with_reducible first | refine A5 ?_ ?_ ?_ | exact A7 | assumption | refine A0 ?_ | refine KM.of ?_ | refine AA ?_ | intro _g _hg | refine A9 ?_ ?_ | intro _hc) | omega)
   exact hJ (q - 1) _ (by omega) ⟨1, by omega, by rw [e]; simp⟩
 ·have hk0 : k = l.length := by omega
  subst hk0
  rw [List.take_length]
  generalize aW l = av at *
  repeat' (first | (simp -implicitDefEqProofs [Ee, Hd, c60, -getElem?_pos, hg]) | (simp (disch := omega) only [AB]) | (with_reducible first | refine A5 ?_ ?_ ?_ | exact A7 | assumption | refine A0 ?_ | refine KM.of ?_ | refine AA ?_ | intro _g _hg | refine A9 ?_ ?_ | intro _hc) | omega)
  all_goals first | exact A6 _ | exact KeepM.rfl_ _ _
theorem A0a {n0 n : Nat} {H : A2} {w : AV} {l : List Ad} (h : StrB n0 n H w l) (sep : Ad) (hl : l.length ≤ 1000000) (hs : sep.length ≤ 1000000) (hb : (Lib.join l sep).length ≤ 1000000000) : APureAt Tryz.prog 60 [w, .str sep] n H (.str (Lib.join l sep)) := by
 rcases h with ⟨rfl, rfl⟩ | ⟨gg, _, _, rfl, h3⟩
 ·have := ZR [] sep (by simp) hs (by simp [Lib.join]) (by simp)
  exact (this.at_ n H).sim (Ab DZ (A4 _))
 ·exact Z0 l sep gg n H h3 hl hs hb
theorem Ti (k : Int) (h1 : 1 ≤ k) (h2 : k ≤ 16) : APure Tryz.prog 59 [aI k] (.str (Al k).w) := by
 rcases (by omega : k = 1 ∨ k = 2 ∨ k = 3 ∨ k = 4 ∨ k = 5 ∨ k = 6 ∨ k = 7 ∨ k = 8 ∨ k = 9 ∨ k = 10 ∨ k = 11 ∨ k = 12 ∨ k = 13 ∨ k = 14 ∨ k = 15 ∨ k = 16) with rfl | rfl | rfl | rfl | rfl | rfl | rfl | rfl | rfl | rfl | rfl | rfl | rfl | rfl | rfl | rfl
 all_goals
  refine AD Tryz.func59 A40 rfl fun n H hH => ?_
  repeat' (first | (simp -implicitDefEqProofs [c59, -getElem?_pos, AL, Al, shqs]) | (simp (disch := omega) only [AB]) | (with_reducible first | refine A5 ?_ ?_ ?_ | exact A7 | refine SameB.upd ?_ ?_ _ | assumption | refine A0 ?_ | refine KM.of ?_ | refine AA ?_ | refine AF ?_ | refine AG ?_ | refine AE ?_ | intro _g _hg | refine A9 ?_ ?_ | intro _hc) | omega)
theorem Ow (o : Int) (h1 : 1 ≤ o) (h2 : o ≤ 6) : APure Tryz.prog 54 [aI o] (.str (fnW.getD (o - 1).toNat [])) := by
 rcases (by omega : o = 1 ∨ o = 2 ∨ o = 3 ∨ o = 4 ∨ o = 5 ∨ o = 6) with rfl | rfl | rfl | rfl | rfl | rfl
 all_goals
  refine AD Tryz.func54 A4n rfl fun n H hH => ?_
  repeat' (first | (simp -implicitDefEqProofs [c54, -getElem?_pos, AL, fnW]) | (simp (disch := omega) only [AB]) | (with_reducible first | refine A5 ?_ ?_ ?_ | exact A7 | refine SameB.upd ?_ ?_ _ | assumption | refine A0 ?_ | refine KM.of ?_ | refine AA ?_ | refine AF ?_ | refine AG ?_ | refine AE ?_ | intro _g _hg | refine A9 ?_ ?_ | intro _hc) | omega)
theorem OJ (o : Int) (h1 : 1 ≤ o) (h2 : o ≤ 3) : APure Tryz.prog 56 [aI o] (.str (cdW.getD (o - 1).toNat [])) := by
 rcases (by omega : o = 1 ∨ o = 2 ∨ o = 3) with rfl | rfl | rfl
 all_goals
  refine AD Tryz.func56 A51 rfl fun n H hH => ?_
  repeat' (first | (simp -implicitDefEqProofs [c56, -getElem?_pos, AL, cdW]) | (simp (disch := omega) only [AB]) | (with_reducible first | refine A5 ?_ ?_ ?_ | exact A7 | refine SameB.upd ?_ ?_ _ | assumption | refine A0 ?_ | refine KM.of ?_ | refine AA ?_ | refine AF ?_ | refine AG ?_ | refine AE ?_ | intro _g _hg | refine A9 ?_ ?_ | intro _hc) | omega)
end Go.Proofs.YtjdccdelcnmocaaGreatDoor
