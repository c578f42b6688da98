/- Streams: the text of a stream, as the reference reads it: the function; no condition. -/
import Derived.Test.YtjdccdelcnmocaaGreatDoorMdW
import Derived.Test.YtjdccdelcnmocaaGreatDoorMgJ
import Derived.Test.YtjdccdelcnmocaaGreatDoorMdL
import Derived.WalkKit
import Derived.ProofKit
import Derived.OpenShut
import Derived.LaidLaws
import Derived.Deep.DeepHandedRow
import Derived.Deep.DeepWitnessRowRef
import Derived.Lib.LaidTab
import Derived.Lib.LaidU8
import Derived.MakeChecks
import Derived.Lay
set_option linter.all false
set_option linter.unusedSimpArgs false
set_option linter.unusedVariables false
set_option maxHeartbeats 1000000
namespace Go.Proofs.YtjdccdelcnmocaaGreatDoor
attribute [local simp] Kz De DC Kv Lp Je Jw Dj DK Fe Fi KJ JN LL KL Ig JX Ix L9 Kn K6 Kk LJ K3 Ji RM pe KK Io Iu JW JI Kf Ir L7 Jx LH J5 L8 Is DT J0 Ju Jg Ih Li Lf K5 KN Js LO Ks LC La Im Ip Ln JQ Kt Jt JF L4 DG Lv DY Kq JZ Ky LB LG Lk KH JM LE Jr LF KA JU L0 JY JB Lo JJ Ly Jl Lm Ik Jm Jf Kw DJ KO Lj JG Ld Jn Lh Kj J9 Kp Kb Lc K2 KE LR Il Lq JC L3 Km JR Lz Jd LN L2 M1 LM Lr KG Iv JO L1 LK List.mem_cons guardK CR Ez F6 Fa Lx DX DF DL Dd DP DM DN Dh D9 M0 Ki Dg KF LP JV Jp Kc K8 DR KX LV J1 JA LW LQ Fj DQ DS DH DA Lw Ja DW Ii DD L6 Db DE Ku DO DU LZ LD KR Lg Kl J7 L5 J4 RL IR IV Gt IN IS IL Cx FB FA KV FC F8 Cv CY Sc IH II F9 IK IT D0 D4 Bg BG C3 CK Ar ev get put GQ AP Cr Jc K4 Kd LI JT Jh EF part BZ HA Jy Gx isNil CA CG EL CQ C1 Kx JP J3 KI Iq IF Ij JE Jo LU Jq Jv K7 Jz KZ Iz AV.fits AV.cells ones AV.one EK CD EE E2 FV ES Ll GB Fy CH Br C5 F3 Gg AX BY TO Fc Ko Ie List.getElem?_cons_zero List.getElem?_cons_succ Dc Df Di J8 Kg Ls H9 It Kh JK KD Ke LT JH Lu Iw LY JD
theorem TP (f : Nat) : ∀ s : AW, s.length < f → s.length ≤ 4000 → APure Tryz.prog 27 [.str s] (FX (Fl f s)) := by
 induction f with
 | zero => intro s h; omega
 | succ f ih =>
  intro s hlf hs
  have hmid := X0 f s
  generalize hX : Fl (f + 1) s = X at *
  have hsp := G3 p40 s
  have hst := Hc p40 s
  have hsd := Gk p40 s
  have hsi := @MM p40 s
  have hso := @HR p40 s
  have hlen : (s.takeWhile p40).length + (s.dropWhile p40).length = s.length := by
   have := congrArg List.length hsp
   rw [List.length_append] at this; omega
  have hhead : ∀ c t, s.dropWhile p40 = c :: t → c = 40 := fun c t h => by have := Mh h; simpa using this
  generalize hw : s.takeWhile p40 = w at *
  generalize hd : s.dropWhile p40 = d at *
  refine A9 Tryz.func27 A2j rfl fun n H hH => ?_
  have _hb : True := trivial
  have _hO : Owns n H [] [] n H := Owns.start hH
  
  repeat' (first | (simp -implicitDefEqProofs [c27, -getElem?_pos, splice, _hb]) | (simp (disch := omega) only [AF]) | (with_reducible first | refine A7 ?_ ?_ ?_ | exact AB | refine SameB.upd ?_ ?_ _ | assumption | refine A2 ?_ | refine A6 ?_) | ((with_reducible refine AY (by first | assumption | (exact Owns.set0 (by assumption) (by simp <;> omega) _ _) | (exact Owns.set1 (by assumption) (by simp <;> omega) (by simp <;> omega) _ _)) (fun _g _hg _hO => ?_)); (have _hb := And.intro _hb _hO.boxF); dsimp only [AN, AI, AM] at _hb) | ((with_reducible refine AO (by first | assumption | (exact Owns.set0 (by assumption) (by simp <;> omega) _ _) | (exact Owns.set1 (by assumption) (by simp <;> omega) (by simp <;> omega) _ _)) (fun _g _hg _hO => ?_))) | ((with_reducible refine appKS.chk ?_); first | ((refine Owns.app (by first | assumption | (exact Owns.set0 (by assumption) (by simp <;> omega) _ _) | (exact Owns.set1 (by assumption) (by simp <;> omega) (by simp <;> omega) _ _)) (.inl rfl) (by first | (exact Owns.simL0 (by assumption)) | (exact Owns.simL1 (by assumption)) | (with_reducible exact A0 _) | assumption | (simp [AC, A8, A1, A0]; done)) ?_ ?_ (fun _x _n _H _hle _hO _hb => ?_)); rotate_left 2; dsimp only [AN, AI, AM] at _hb) | ((refine Owns.app1 (by first | assumption | (exact Owns.set0 (by assumption) (by simp <;> omega) _ _) | (exact Owns.set1 (by assumption) (by simp <;> omega) (by simp <;> omega) _ _)) (.inl rfl) (by first | (exact Owns.simL0 (by assumption)) | (exact Owns.simL1 (by assumption)) | (with_reducible exact A0 _) | assumption | (simp [AC, A8, A1, A0]; done)) ?_ ?_ (fun _x _n _H _hle _hO _hb => ?_)); rotate_left 2; dsimp only [AN, AI, AM] at _hb)) | (first | (with_reducible exact Owns.fit0 (by assumption)) | (with_reducible exact Owns.fit1 (by assumption))) | (with_reducible first | exact Owns.le (by assumption) | exact Owns.same (by assumption) | refine A3 ?_ | refine KM.of ?_ | refine AG ?_ | refine A2 ?_ | refine A6 ?_ | refine A5 ?_ | refine AH ?_ | refine AA ?_ | intro _g _hg | refine AE ?_ ?_ | intro _hc) | omega)
  rename_i g2 hg2 hO2 hb2
  generalize hg4e : _g = g4 at *
  clear hO2 hb2 _hb
  have _hO := _hO.set0 (by simp; omega) 25 [aI 0, aI 0, aI 0, Bv, Bv]
  generalize hH1 : upd (upd (upd H g2 (some HD)) g4 (some HD)) g4 (some HD) = H1 at *
  -- behind the loop
  have hk30 : aw Tryz.prog c27_k30 (D1 (FX X) n H c27.res) ⟨[(0, .str s), (2, .ptr g2 0), (4, .ptr g4 0), (5, aI w.length)], g4 + 1, H1⟩ := by
   have _hb := Owns.boxF _hO
   dsimp only [AN, AI, AM] at _hb
   cases d with
   | nil =>
    rw [if_pos (.inl rfl)] at hmid
    have hT : w.length = s.length := by simp at hlen; omega
    have hT' : ((w.length : Int) == (s.length : Int)) = true := by simp [hT]
    subst hmid
    cases s with
    | nil =>
     have hw0 : w.length = 0 := by simp at hT; omega
     repeat' (first | (simp -implicitDefEqProofs [Gv, c27, -getElem?_pos, splice, hw0, _hb]) | (simp (disch := omega) only [AF]) | (with_reducible first | refine A7 ?_ ?_ ?_ | exact AB | refine SameB.upd ?_ ?_ _ | assumption | refine A2 ?_ | refine A6 ?_) | ((with_reducible refine AY (by first | assumption | (exact Owns.set0 (by assumption) (by simp <;> omega) _ _) | (exact Owns.set1 (by assumption) (by simp <;> omega) (by simp <;> omega) _ _)) (fun _g _hg _hO => ?_)); (have _hb := And.intro _hb _hO.boxF); dsimp only [AN, AI, AM] at _hb) | ((with_reducible refine AO (by first | assumption | (exact Owns.set0 (by assumption) (by simp <;> omega) _ _) | (exact Owns.set1 (by assumption) (by simp <;> omega) (by simp <;> omega) _ _)) (fun _g _hg _hO => ?_))) | ((with_reducible refine appKS.chk ?_); first | ((refine Owns.app (by first | assumption | (exact Owns.set0 (by assumption) (by simp <;> omega) _ _) | (exact Owns.set1 (by assumption) (by simp <;> omega) (by simp <;> omega) _ _)) (.inl rfl) (by first | (exact Owns.simL0 (by assumption)) | (exact Owns.simL1 (by assumption)) | (with_reducible exact A0 _) | assumption | (simp [AC, A8, A1, A0]; done)) ?_ ?_ (fun _x _n _H _hle _hO _hb => ?_)); rotate_left 2; dsimp only [AN, AI, AM] at _hb) | ((refine Owns.app1 (by first | assumption | (exact Owns.set0 (by assumption) (by simp <;> omega) _ _) | (exact Owns.set1 (by assumption) (by simp <;> omega) (by simp <;> omega) _ _)) (.inl rfl) (by first | (exact Owns.simL0 (by assumption)) | (exact Owns.simL1 (by assumption)) | (with_reducible exact A0 _) | assumption | (simp [AC, A8, A1, A0]; done)) ?_ ?_ (fun _x _n _H _hle _hO _hb => ?_)); rotate_left 2; dsimp only [AN, AI, AM] at _hb)) | (first | (with_reducible exact Owns.fit0 (by assumption)) | (with_reducible exact Owns.fit1 (by assumption))) | (with_reducible first | exact Owns.le (by assumption) | exact Owns.same (by assumption) | refine A3 ?_ | refine KM.of ?_ | refine AG ?_ | refine A2 ?_ | refine A6 ?_ | refine A5 ?_ | refine AH ?_ | refine AA ?_ | intro _g _hg | refine AE ?_ ?_ | intro _hc) | omega)
     all_goals exact FW
    | cons b r =>
     generalize hse : b :: r = s at *
     obtain ⟨L, hLe⟩ : ∃ L, s.length = L + 1 := ⟨r.length, by rw [← hse]; rfl⟩
     obtain ⟨c, hc⟩ : ∃ c, s[L]? = some c := ⟨_, List.getElem?_eq_getElem (by omega)⟩
     have hLe' : (s.length : Int) = (L : Int) + 1 := by omega
     have hwL : (w.length : Int) = (L : Int) + 1 := by omega
     have hL1 : (1 : Int) ≤ (L : Int) + 1 := by omega
     repeat' (first | (simp -implicitDefEqProofs [Gv, c27, -getElem?_pos, splice, hwL, hLe', hc, hLe, hL1, _hb]) | (simp (disch := omega) only [AF]) | (with_reducible first | refine A7 ?_ ?_ ?_ | exact AB | refine SameB.upd ?_ ?_ _ | assumption | refine A2 ?_ | refine A6 ?_) | ((with_reducible refine AY (by first | assumption | (exact Owns.set0 (by assumption) (by simp <;> omega) _ _) | (exact Owns.set1 (by assumption) (by simp <;> omega) (by simp <;> omega) _ _)) (fun _g _hg _hO => ?_)); (have _hb := And.intro _hb _hO.boxF); dsimp only [AN, AI, AM] at _hb) | ((with_reducible refine AO (by first | assumption | (exact Owns.set0 (by assumption) (by simp <;> omega) _ _) | (exact Owns.set1 (by assumption) (by simp <;> omega) (by simp <;> omega) _ _)) (fun _g _hg _hO => ?_))) | ((with_reducible refine appKS.chk ?_); first | ((refine Owns.app (by first | assumption | (exact Owns.set0 (by assumption) (by simp <;> omega) _ _) | (exact Owns.set1 (by assumption) (by simp <;> omega) (by simp <;> omega) _ _)) (.inl rfl) (by first | (exact Owns.simL0 (by assumption)) | (exact Owns.simL1 (by assumption)) | (with_reducible exact A0 _) | assumption | (simp [AC, A8, A1, A0]; done)) ?_ ?_ (fun _x _n _H _hle _hO _hb => ?_)); rotate_left 2; dsimp only [AN, AI, AM] at _hb) | ((refine Owns.app1 (by first | assumption | (exact Owns.set0 (by assumption) (by simp <;> omega) _ _) | (exact Owns.set1 (by assumption) (by simp <;> omega) (by simp <;> omega) _ _)) (.inl rfl) (by first | (exact Owns.simL0 (by assumption)) | (exact Owns.simL1 (by assumption)) | (with_reducible exact A0 _) | assumption | (simp [AC, A8, A1, A0]; done)) ?_ ?_ (fun _x _n _H _hle _hO _hb => ?_)); rotate_left 2; dsimp only [AN, AI, AM] at _hb)) | (first | (with_reducible exact Owns.fit0 (by assumption)) | (with_reducible exact Owns.fit1 (by assumption))) | (with_reducible first | exact Owns.le (by assumption) | exact Owns.same (by assumption) | refine A3 ?_ | refine KM.of ?_ | refine AG ?_ | refine A2 ?_ | refine A6 ?_ | refine A5 ?_ | refine AH ?_ | refine AA ?_ | intro _g _hg | refine AE ?_ ?_ | intro _hc) | omega)
     all_goals exact FW
   | cons c t =>
    have hc := hhead c t rfl
    subst hc
    have hlen' : w.length + (t.length + 1) = s.length := by simpa using hlen
    obtain ⟨L, hLe⟩ : ∃ L, s.length = L + 1 := ⟨s.length - 1, by omega⟩
    obtain ⟨c, hc⟩ : ∃ c, s[L]? = some c := ⟨_, List.getElem?_eq_getElem (by omega)⟩
    have hgl : s.getLast? = some c := by rw [List.getLast?_eq_getElem?, ← hc]; congr 1; omega
    have hLe' : (s.length : Int) = (L : Int) + 1 := by omega
    have hT : ¬ w.length = s.length := by omega
    have hT' : ((w.length : Int) == (L : Int) + 1) = false := by simp; omega
    have hT2 : ((w.length : Int) == (s.length : Int)) = false := by simp; omega
    have hsl0 : (L : Int) < s.length := by omega
    by_cases h41 : c = 41
    ·subst h41
     rw [if_neg (by rw [not_or]; exact ⟨by simp, by rw [hgl]; simp⟩)] at hmid
     have ht := RO (by rw [← hsp]; exact hgl) (by decide)
     have hil : t.dropLast.length + 1 = t.length := by
      have := congrArg List.length ht
      rw [List.length_append] at this; simp at this; simp; omega
     have hcut : ∀ L : Nat, s.length = L + 1 → (s.take L).drop (w.length + 1) = t.dropLast := by
      intro L hL
      have hse : s = (w ++ [40] ++ t.dropLast) ++ [41] := by rw [hsp, ht]; simp
      have h2 : s.take L = w ++ [40] ++ t.dropLast := by
       rw [hse]; exact List.take_left' (by simp; omega)
      rw [h2]
      exact List.drop_left' (by simp)
     have h29 := fun e hO e0 e2 e4 e5 => VG f s w t.dropLast hs (by omega) hcut (by omega) hst (fun a ha => ih a (by omega) (by omega)) n H g2 g4 (by omega) (g4 + 1) H1 e hO e0 e2 e4 e5 X (by rw [hmid]; rfl)
     repeat' (first | (simp -implicitDefEqProofs [Gv, -getElem?_pos, splice, hT', hT, hT2, hLe', hc, _hb]) | (simp (disch := omega) only [AF]) | (with_reducible first | refine A7 ?_ ?_ ?_ | exact AB | refine SameB.upd ?_ ?_ _ | assumption | refine A2 ?_ | refine A6 ?_) | ((with_reducible refine AY (by first | assumption | (exact Owns.set0 (by assumption) (by simp <;> omega) _ _) | (exact Owns.set1 (by assumption) (by simp <;> omega) (by simp <;> omega) _ _)) (fun _g _hg _hO => ?_)); (have _hb := And.intro _hb _hO.boxF); dsimp only [AN, AI, AM] at _hb) | ((with_reducible refine AO (by first | assumption | (exact Owns.set0 (by assumption) (by simp <;> omega) _ _) | (exact Owns.set1 (by assumption) (by simp <;> omega) (by simp <;> omega) _ _)) (fun _g _hg _hO => ?_))) | ((with_reducible refine appKS.chk ?_); first | ((refine Owns.app (by first | assumption | (exact Owns.set0 (by assumption) (by simp <;> omega) _ _) | (exact Owns.set1 (by assumption) (by simp <;> omega) (by simp <;> omega) _ _)) (.inl rfl) (by first | (exact Owns.simL0 (by assumption)) | (exact Owns.simL1 (by assumption)) | (with_reducible exact A0 _) | assumption | (simp [AC, A8, A1, A0]; done)) ?_ ?_ (fun _x _n _H _hle _hO _hb => ?_)); rotate_left 2; dsimp only [AN, AI, AM] at _hb) | ((refine Owns.app1 (by first | assumption | (exact Owns.set0 (by assumption) (by simp <;> omega) _ _) | (exact Owns.set1 (by assumption) (by simp <;> omega) (by simp <;> omega) _ _)) (.inl rfl) (by first | (exact Owns.simL0 (by assumption)) | (exact Owns.simL1 (by assumption)) | (with_reducible exact A0 _) | assumption | (simp [AC, A8, A1, A0]; done)) ?_ ?_ (fun _x _n _H _hle _hO _hb => ?_)); rotate_left 2; dsimp only [AN, AI, AM] at _hb)) | (first | (with_reducible exact Owns.fit0 (by assumption)) | (with_reducible exact Owns.fit1 (by assumption))) | (with_reducible first | exact Owns.le (by assumption) | exact Owns.same (by assumption) | refine A3 ?_ | refine KM.of ?_ | refine AG ?_ | refine A2 ?_ | refine A6 ?_ | refine A5 ?_ | refine AH ?_ | refine AA ?_ | intro _g _hg | refine AE ?_ ?_ | intro _hc) | omega)
     exact h29 _ _hO rfl rfl rfl rfl
    ·have hne : ¬ (c.toNat : Int) = 41 := fun e => h41 (UInt8.toNat_inj.1 (by have : (41 : UInt8).toNat = 41 := rfl; omega))
     rw [if_pos (.inr (by rw [hgl]; simpa using h41))] at hmid
     subst hmid
     repeat' (first | (simp -implicitDefEqProofs [Gv, c27, -getElem?_pos, splice, hT', hT, hT2, hLe', hc, hne, _hb]) | (simp (disch := omega) only [AF]) | (with_reducible first | refine A7 ?_ ?_ ?_ | exact AB | refine SameB.upd ?_ ?_ _ | assumption | refine A2 ?_ | refine A6 ?_) | ((with_reducible refine AY (by first | assumption | (exact Owns.set0 (by assumption) (by simp <;> omega) _ _) | (exact Owns.set1 (by assumption) (by simp <;> omega) (by simp <;> omega) _ _)) (fun _g _hg _hO => ?_)); (have _hb := And.intro _hb _hO.boxF); dsimp only [AN, AI, AM] at _hb) | ((with_reducible refine AO (by first | assumption | (exact Owns.set0 (by assumption) (by simp <;> omega) _ _) | (exact Owns.set1 (by assumption) (by simp <;> omega) (by simp <;> omega) _ _)) (fun _g _hg _hO => ?_))) | ((with_reducible refine appKS.chk ?_); first | ((refine Owns.app (by first | assumption | (exact Owns.set0 (by assumption) (by simp <;> omega) _ _) | (exact Owns.set1 (by assumption) (by simp <;> omega) (by simp <;> omega) _ _)) (.inl rfl) (by first | (exact Owns.simL0 (by assumption)) | (exact Owns.simL1 (by assumption)) | (with_reducible exact A0 _) | assumption | (simp [AC, A8, A1, A0]; done)) ?_ ?_ (fun _x _n _H _hle _hO _hb => ?_)); rotate_left 2; dsimp only [AN, AI, AM] at _hb) | ((refine Owns.app1 (by first | assumption | (exact Owns.set0 (by assumption) (by simp <;> omega) _ _) | (exact Owns.set1 (by assumption) (by simp <;> omega) (by simp <;> omega) _ _)) (.inl rfl) (by first | (exact Owns.simL0 (by assumption)) | (exact Owns.simL1 (by assumption)) | (with_reducible exact A0 _) | assumption | (simp [AC, A8, A1, A0]; done)) ?_ ?_ (fun _x _n _H _hle _hO _hb => ?_)); rotate_left 2; dsimp only [AN, AI, AM] at _hb)) | (first | (with_reducible exact Owns.fit0 (by assumption)) | (with_reducible exact Owns.fit1 (by assumption))) | (with_reducible first | exact Owns.le (by assumption) | exact Owns.same (by assumption) | refine A3 ?_ | refine KM.of ?_ | refine AG ?_ | refine A2 ?_ | refine A6 ?_ | refine A5 ?_ | refine AH ?_ | refine AA ?_ | intro _g _hg | refine AE ?_ ?_ | intro _hc) | omega)
     all_goals exact FW
  refine LoopK.go (fun q st => ∃ i : Nat, i + q = w.length ∧ st = ⟨[(0, .str s), (2, .ptr g2 0), (4, .ptr g4 0), (5, aI i)], g4 + 1, H1⟩) w.length ⟨0, by omega, rfl⟩ ?_
  rintro q st ⟨i, hq, rfl⟩ J hJ
  by_cases hi : i < w.length
  ·obtain ⟨c, hc, hpc⟩ := hsi hi
   have hi' : (i : Int) < s.length := by omega
   have hne : ¬ (c.toNat : Int) = 40 := fun e => by
    have : c = 40 := UInt8.toNat_inj.1 (by have : (40 : UInt8).toNat = 40 := rfl; omega)
    simp [this] at hpc
   repeat' (first | (simp -implicitDefEqProofs [KU, Sh, -getElem?_pos, hi', hc, hne, _hb]) | (simp (disch := omega) only [AF]) | (with_reducible first | refine A7 ?_ ?_ ?_ | exact AB | refine SameB.upd ?_ ?_ _ | assumption | refine A2 ?_ | refine A6 ?_) | ((with_reducible refine AY (by first | assumption | (exact Owns.set0 (by assumption) (by simp <;> omega) _ _) | (exact Owns.set1 (by assumption) (by simp <;> omega) (by simp <;> omega) _ _)) (fun _g _hg _hO => ?_)); (have _hb := And.intro _hb _hO.boxF); dsimp only [AN, AI, AM] at _hb) | ((with_reducible refine AO (by first | assumption | (exact Owns.set0 (by assumption) (by simp <;> omega) _ _) | (exact Owns.set1 (by assumption) (by simp <;> omega) (by simp <;> omega) _ _)) (fun _g _hg _hO => ?_))) | ((with_reducible refine appKS.chk ?_); first | ((refine Owns.app (by first | assumption | (exact Owns.set0 (by assumption) (by simp <;> omega) _ _) | (exact Owns.set1 (by assumption) (by simp <;> omega) (by simp <;> omega) _ _)) (.inl rfl) (by first | (exact Owns.simL0 (by assumption)) | (exact Owns.simL1 (by assumption)) | (with_reducible exact A0 _) | assumption | (simp [AC, A8, A1, A0]; done)) ?_ ?_ (fun _x _n _H _hle _hO _hb => ?_)); rotate_left 2; dsimp only [AN, AI, AM] at _hb) | ((refine Owns.app1 (by first | assumption | (exact Owns.set0 (by assumption) (by simp <;> omega) _ _) | (exact Owns.set1 (by assumption) (by simp <;> omega) (by simp <;> omega) _ _)) (.inl rfl) (by first | (exact Owns.simL0 (by assumption)) | (exact Owns.simL1 (by assumption)) | (with_reducible exact A0 _) | assumption | (simp [AC, A8, A1, A0]; done)) ?_ ?_ (fun _x _n _H _hle _hO _hb => ?_)); rotate_left 2; dsimp only [AN, AI, AM] at _hb)) | (first | (with_reducible exact Owns.fit0 (by assumption)) | (with_reducible exact Owns.fit1 (by assumption))) | (with_reducible first | exact Owns.le (by assumption) | exact Owns.same (by assumption) | refine A3 ?_ | refine KM.of ?_ | refine AG ?_ | refine A2 ?_ | refine A6 ?_ | refine A5 ?_ | refine AH ?_ | refine AA ?_ | intro _g _hg | refine AE ?_ ?_ | intro _hc) | omega)
   exact hJ (q - 1) _ (by omega) ⟨i + 1, by omega, rfl⟩
  ·have hie : i = w.length := by omega
   subst hie
   by_cases hl : w.length < s.length
   ·obtain ⟨c, hc⟩ : ∃ c, s[w.length]? = some c := ⟨_, List.getElem?_eq_getElem hl⟩
    have hc40 : c = 40 := by have := hso hc; simpa using this
    subst hc40
    have hl' : (w.length : Int) < s.length := by omega
    repeat' (first | (simp -implicitDefEqProofs [KU, -getElem?_pos, hl', hc, _hb]) | (simp (disch := omega) only [AF]) | (with_reducible first | refine A7 ?_ ?_ ?_ | exact AB | refine SameB.upd ?_ ?_ _ | assumption | refine A2 ?_ | refine A6 ?_) | ((with_reducible refine AY (by first | assumption | (exact Owns.set0 (by assumption) (by simp <;> omega) _ _) | (exact Owns.set1 (by assumption) (by simp <;> omega) (by simp <;> omega) _ _)) (fun _g _hg _hO => ?_)); (have _hb := And.intro _hb _hO.boxF); dsimp only [AN, AI, AM] at _hb) | ((with_reducible refine AO (by first | assumption | (exact Owns.set0 (by assumption) (by simp <;> omega) _ _) | (exact Owns.set1 (by assumption) (by simp <;> omega) (by simp <;> omega) _ _)) (fun _g _hg _hO => ?_))) | ((with_reducible refine appKS.chk ?_); first | ((refine Owns.app (by first | assumption | (exact Owns.set0 (by assumption) (by simp <;> omega) _ _) | (exact Owns.set1 (by assumption) (by simp <;> omega) (by simp <;> omega) _ _)) (.inl rfl) (by first | (exact Owns.simL0 (by assumption)) | (exact Owns.simL1 (by assumption)) | (with_reducible exact A0 _) | assumption | (simp [AC, A8, A1, A0]; done)) ?_ ?_ (fun _x _n _H _hle _hO _hb => ?_)); rotate_left 2; dsimp only [AN, AI, AM] at _hb) | ((refine Owns.app1 (by first | assumption | (exact Owns.set0 (by assumption) (by simp <;> omega) _ _) | (exact Owns.set1 (by assumption) (by simp <;> omega) (by simp <;> omega) _ _)) (.inl rfl) (by first | (exact Owns.simL0 (by assumption)) | (exact Owns.simL1 (by assumption)) | (with_reducible exact A0 _) | assumption | (simp [AC, A8, A1, A0]; done)) ?_ ?_ (fun _x _n _H _hle _hO _hb => ?_)); rotate_left 2; dsimp only [AN, AI, AM] at _hb)) | (first | (with_reducible exact Owns.fit0 (by assumption)) | (with_reducible exact Owns.fit1 (by assumption))) | (with_reducible first | exact Owns.le (by assumption) | exact Owns.same (by assumption) | refine A3 ?_ | refine KM.of ?_ | refine AG ?_ | refine A2 ?_ | refine A6 ?_ | refine A5 ?_ | refine AH ?_ | refine AA ?_ | intro _g _hg | refine AE ?_ ?_ | intro _hc) | omega)
    exact hk30
   ·have hl' : ¬ (w.length : Int) < s.length := by omega
    have hcn : s[w.length]? = none := List.getElem?_eq_none (by omega)
    repeat' (first | (simp -implicitDefEqProofs [KU, -getElem?_pos, hl', hcn, _hb]) | (simp (disch := omega) only [AF]) | (with_reducible first | refine A7 ?_ ?_ ?_ | exact AB | refine SameB.upd ?_ ?_ _ | assumption | refine A2 ?_ | refine A6 ?_) | ((with_reducible refine AY (by first | assumption | (exact Owns.set0 (by assumption) (by simp <;> omega) _ _) | (exact Owns.set1 (by assumption) (by simp <;> omega) (by simp <;> omega) _ _)) (fun _g _hg _hO => ?_)); (have _hb := And.intro _hb _hO.boxF); dsimp only [AN, AI, AM] at _hb) | ((with_reducible refine AO (by first | assumption | (exact Owns.set0 (by assumption) (by simp <;> omega) _ _) | (exact Owns.set1 (by assumption) (by simp <;> omega) (by simp <;> omega) _ _)) (fun _g _hg _hO => ?_))) | ((with_reducible refine appKS.chk ?_); first | ((refine Owns.app (by first | assumption | (exact Owns.set0 (by assumption) (by simp <;> omega) _ _) | (exact Owns.set1 (by assumption) (by simp <;> omega) (by simp <;> omega) _ _)) (.inl rfl) (by first | (exact Owns.simL0 (by assumption)) | (exact Owns.simL1 (by assumption)) | (with_reducible exact A0 _) | assumption | (simp [AC, A8, A1, A0]; done)) ?_ ?_ (fun _x _n _H _hle _hO _hb => ?_)); rotate_left 2; dsimp only [AN, AI, AM] at _hb) | ((refine Owns.app1 (by first | assumption | (exact Owns.set0 (by assumption) (by simp <;> omega) _ _) | (exact Owns.set1 (by assumption) (by simp <;> omega) (by simp <;> omega) _ _)) (.inl rfl) (by first | (exact Owns.simL0 (by assumption)) | (exact Owns.simL1 (by assumption)) | (with_reducible exact A0 _) | assumption | (simp [AC, A8, A1, A0]; done)) ?_ ?_ (fun _x _n _H _hle _hO _hb => ?_)); rotate_left 2; dsimp only [AN, AI, AM] at _hb)) | (first | (with_reducible exact Owns.fit0 (by assumption)) | (with_reducible exact Owns.fit1 (by assumption))) | (with_reducible first | exact Owns.le (by assumption) | exact Owns.same (by assumption) | refine A3 ?_ | refine KM.of ?_ | refine AG ?_ | refine A2 ?_ | refine A6 ?_ | refine A5 ?_ | refine AH ?_ | refine AA ?_ | intro _g _hg | refine AE ?_ ?_ | intro _hc) | omega)
    exact hk30
open Go.ChangeShapes Go.WideShapes Go.ChangeAt Go.RowKit Go.Deep
theorem S2 : ownKnob Tryz.prog.godebug = none := by kernel_rfl
theorem NT : laidOutB Tryz.prog = true := by kernel_rfl
theorem VK {s : List UInt8} (h : s.length ≤ reachBytes) : s.length ≤ 140737488355328 := Nat.le_trans h (by decide)
theorem Wt {w : World} {v : Value} {x : AV} (h : RepL (ghW w) [v] [x]) : Rep (ghW w) v x := by cases h; assumption
abbrev laidL : List (String × DataW Unit) := Rows.streamsBoundMatchesSpecRow.laid
abbrev A2e : String := Rows.streamsBoundMatchesSpecRow.laid[2].1
abbrev A31 : String := Rows.streamsBoundMatchesSpecRow.laid[6].1
theorem XQ {P : Program} {w : World} {name : String} {d : DataW Unit} {k : IntKind} {zs : List Int} {g t e : Nat} {n : Nat} (h : Lib.VarReads P w name d) (hd : d = Lib.tabData k zs) (hg : P.globalNamed name = some g) (hty : (P.globals[g]?).map (·.type) = some t)
  (ht : P.underlying t = some (.array n e)) (he : P.underlying e = some (.int k)) (hce : P.cellsOf e = 1) (hct : P.cellsOf t = n) : ∃ t fz, w.heap[g]? = some (.cells (zs.map fun z => Value.int k z).toArray t fz) := by
 subst hd
 obtain ⟨g', t', cs, fuel, p, hg', ht', hvar, htr⟩ := h
 obtain rfl := Option.some.inj (hg.symm.trans hg')
 obtain rfl := Option.some.inj (hty.symm.trans ht')
 have hc := Lib.cells_of_tab ht he hce hct htr
 unfold World.var? at hvar
 rw [hg, Option.bind_some] at hvar
 split at hvar
 ·rename_i cs' t2 fz hh
  injection hvar with hvar
  subst hvar
  exact ⟨t2, fz, by rw [hh, ← hc]⟩
 ·cases hvar
theorem Wc {P : Program} {w : World} {name nm : String} {d0 d : DataW Unit} {g t : Nat} {ms : Array (String × TypeId)} (h : Lib.VarReads P w name d0) (hd : d0 = .iface nm d) (hg : P.globalNamed name = some g) (hty : (P.globals[g]?).map (·.type) = some t)
  (ht : P.underlying t = some (.interface ms)) : ∃ v, w.cell? ⟨g, 0, none⟩ = some v ∧ (v = .nilIface ∨ ∃ te pe, v = .iface te pe) := by
 subst hd
 obtain ⟨g', t', cs, fuel, p, hg', ht', hvar, htr⟩ := h
 obtain rfl := Option.some.inj (hg.symm.trans hg')
 obtain rfl := Option.some.inj (hty.symm.trans ht')
 obtain ⟨_, u, v, hcs, _, _⟩ := iface_of_trod ht htr
 unfold World.var? at hvar
 rw [hg, Option.bind_some] at hvar
 split at hvar
 ·rename_i cs' t2 fz hh
  injection hvar with hvar
  subst hvar
  refine ⟨.iface u v, ?_, .inr ⟨u, v, rfl⟩⟩
  simp [World.cell?, hh, hcs]
  rw [← Array.getElem?_toList, hcs]; rfl
 ·cases hvar
theorem G4 {w : World} (h : laidMetH Tryz.prog laidL w) : Laid w := by
 rw [MakeChecks.laidMetH_plain _ _ _ (by kernel_rfl)] at h
 exact ⟨XQ (Lib.laidMet.reads h (n := A31) (d := Rows.streamsBoundMatchesSpecRow.laid[6].2) (List.getElem_mem (by decide : 6 < laidL.length))) (by kernel_rfl) (by kernel_rfl) (by kernel_rfl) Tryz.underlying145 Tryz.underlying5 (by kernel_rfl) (by kernel_rfl),
  XQ (Lib.laidMet.reads h (n := A2e) (d := Rows.streamsBoundMatchesSpecRow.laid[2].2) (List.getElem_mem (by decide : 2 < laidL.length))) (by kernel_rfl) (by kernel_rfl) (by kernel_rfl) Tryz.underlying184 Tryz.underlying160 (by kernel_rfl) (by kernel_rfl),
  Wc (Lib.laidMet.reads h (n := Rows.streamsBoundMatchesSpecRow.laid[4].1) (d := Rows.streamsBoundMatchesSpecRow.laid[4].2) (List.getElem_mem (by decide : 4 < laidL.length))) (by rfl) (by kernel_rfl) (by kernel_rfl) Tryz.underlying132,
  Wc (Lib.laidMet.reads h (n := Rows.streamsBoundMatchesSpecRow.laid[3].1) (d := Rows.streamsBoundMatchesSpecRow.laid[3].2) (List.getElem_mem (by decide : 3 < laidL.length))) (by rfl) (by kernel_rfl) (by kernel_rfl) Tryz.underlying132⟩
noncomputable def Al (os : Os) : World := World.laidAll Tryz.prog os laidL
instance : Inhabited St := ⟨.mk 0 0 0 [] []⟩
section
variable {H : Type} {enc : TypeId × Value → H} {w : World} {base : Nat} {spare : Nat → Bool} {held : Bool} {fuel : Nat}
end
end Go.Proofs.YtjdccdelcnmocaaGreatDoor
