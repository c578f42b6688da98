/- Streams: what the reference gives: streams with one part; no condition. -/
import Derived.Test.YtjdccdelcnmocaaGreatDoorMgJ
import Derived.Test.YtjdccdelcnmocaaGreatDoorMdT
import Derived.Test.YtjdccdelcnmocaaGreatDoorMdS
import Derived.Test.YtjdccdelcnmocaaGreatDoorAdG
set_option linter.all false
set_option linter.unusedSimpArgs false
set_option linter.unusedVariables false
set_option maxHeartbeats 2000000
namespace Go.Proofs.YtjdccdelcnmocaaGreatDoor
section
variable {n0 n : Nat} {H0 H : A4} {bs : List (Nat × AObj)} {os : List OwnR} {d : Option Nat} {e : AT} {K : AS → Prop} {x : AV} {l m m' : List AV} {el sz by_ : Nat} {t : Tok}
theorem Owns.appZ (h : Owns n0 H0 bs (⟨el, sz, x, l⟩ :: os) n H) (hs : AC m m') (hl : l.length + m.length ≤ 1000000) (hby : by_ ≤ 100)
  (hk : ∀ z' t' n' H', n ≤ n' → Owns n0 H0 bs (⟨el, sz, .sl z' (l ++ m') t', l ++ m'⟩ :: os) n' H' → K ⟨AP e d (.sl z' (l ++ m') t'), n', H'⟩) : appKS el sz by_ d K ⟨e, n, H⟩ x (.sl sz m t) := by
 refine h.app (.inl rfl) hs (Nat.le_trans (Nat.mul_le_mul hl hby) (by decide)) (Nat.le_trans hl (by simp [maxLen])) fun x' n' H' hle hO _ => ?_
 obtain ⟨z', t', h1, _⟩ := hO.len0
 dsimp only at h1
 subst h1
 exact hk _ _ n' H' hle hO
end
abbrev aW (l : List AW) : List AV := l.map AV.str
def StrB (n0 n : Nat) (H : A4) (w : AV) (l : List AW) : Prop := (l = [] ∧ w = Bv) ∨ ∃ gg, n0 ≤ gg ∧ gg < n ∧ w = .slg 1 gg l.length ∧ H gg = some (.grow 9 (aW l))
theorem StrB.alloc {n0 n : Nat} {H : A4} {w : AV} {l : List AW} (h : StrB n0 n H w l) {g : Nat} (hg : n ≤ g) (ob : Option AObj) : StrB n0 (g + 1) (upd H g ob) w l := by
 rcases h with h | ⟨gg, h1, h2, h3, h4⟩
 ·exact .inl h
 ·exact .inr ⟨gg, h1, by omega, h3, by rw [upd_ne (by omega)]; exact h4⟩
attribute [local simp] Kz De DC Kv Lp Je Jw Dj DK Fe Fi KJ JN LL KL Ig JX Ix L9 Kn K6 Kk LJ K3 Ji RM pe KK Io Iu JW JI Kf Ir L7 Jx LH J5 L8 Is DT J0 Ju Jg Ih Li Lf K5 KN Js LO Ks LC La Im Ip Ln JQ Kt Jt JF L4 DG Lv DY Kq JZ Ky LB LG Lk KH JM LE Jr LF KA JU L0 JY JB Lo JJ Ly Jl Lm Ik Jm Jf Kw DJ KO Lj JG Ld Jn Lh Kj J9 Kp Kb Lc K2 KE LR Il Lq JC L3 Km JR Lz Jd LN L2 M1 LM Lr KG Iv JO L1 LK List.mem_cons guardK CR Ez F6 Fa Lx DX DF DL Dd DP DM DN Dh D9 M0 Ki Dg KF LP JV Jp Kc K8 DR KX LV J1 JA LW LQ Fj DQ DS DH DA Lw Ja DW Ii DD L6 Db DE Ku DO DU LZ LD KR Lg Kl J7 L5 J4 RL IR IV Gt IN IS IL Cx FB FA KV FC F8 Cv CY Sc IH II F9 IK IT D0 D4 Bg BG C3 CK Ar ev get put GQ AP Cr Jc K4 Kd LI JT Jh EF part BZ HA Jy Gx isNil CA CG EL CQ C1 Kx JP J3 KI Iq IF Ij JE Jo LU Jq Jv K7 Jz KZ Iz AV.fits AV.cells ones AV.one EK CD EE E2 FV ES Ll GB Fy CH Br C5 F3 Gg AX BY TO Fc Ko Ie List.getElem?_cons_zero List.getElem?_cons_succ Dc Df Di J8 Kg Ls H9 It Kh JK KD Ke LT JH Lu Iw LY JD
theorem TY (k : Int) (h1 : 1 ≤ k) (h2 : k ≤ 16) : APure Tryz.prog 59 [aI k] (.str (Ad k).w) := by
 rcases (by omega : k = 1 ∨ k = 2 ∨ k = 3 ∨ k = 4 ∨ k = 5 ∨ k = 6 ∨ k = 7 ∨ k = 8 ∨ k = 9 ∨ k = 10 ∨ k = 11 ∨ k = 12 ∨ k = 13 ∨ k = 14 ∨ k = 15 ∨ k = 16) with rfl | rfl | rfl | rfl | rfl | rfl | rfl | rfl | rfl | rfl | rfl | rfl | rfl | rfl | rfl | rfl
 all_goals
  refine A9 Tryz.func59 A1u rfl fun n H hH => ?_
  repeat' (first | (simp -implicitDefEqProofs [c59, -getElem?_pos, A8, Ad, shqs]) | (simp (disch := omega) only [AF]) | (with_reducible first | refine A7 ?_ ?_ ?_ | exact AB | refine SameB.upd ?_ ?_ _ | assumption | refine A3 ?_ | refine KM.of ?_ | refine AG ?_ | refine A6 ?_ | refine AH ?_ | refine AA ?_ | intro _g _hg | refine AE ?_ ?_ | intro _hc) | omega)
theorem HG (o : Int) (h1 : 1 ≤ o) (h2 : o ≤ 6) : APure Tryz.prog 54 [aI o] (.str (fnW.getD (o - 1).toNat [])) := by
 rcases (by omega : o = 1 ∨ o = 2 ∨ o = 3 ∨ o = 4 ∨ o = 5 ∨ o = 6) with rfl | rfl | rfl | rfl | rfl | rfl
 all_goals
  refine A9 Tryz.func54 A1s rfl fun n H hH => ?_
  repeat' (first | (simp -implicitDefEqProofs [c54, -getElem?_pos, A8, fnW]) | (simp (disch := omega) only [AF]) | (with_reducible first | refine A7 ?_ ?_ ?_ | exact AB | refine SameB.upd ?_ ?_ _ | assumption | refine A3 ?_ | refine KM.of ?_ | refine AG ?_ | refine A6 ?_ | refine AH ?_ | refine AA ?_ | intro _g _hg | refine AE ?_ ?_ | intro _hc) | omega)
theorem HC (o : Int) (h1 : 1 ≤ o) (h2 : o ≤ 3) : APure Tryz.prog 56 [aI o] (.str (cdW.getD (o - 1).toNat [])) := by
 rcases (by omega : o = 1 ∨ o = 2 ∨ o = 3) with rfl | rfl | rfl
 all_goals
  refine A9 Tryz.func56 A34 rfl fun n H hH => ?_
  repeat' (first | (simp -implicitDefEqProofs [c56, -getElem?_pos, A8, cdW]) | (simp (disch := omega) only [AF]) | (with_reducible first | refine A7 ?_ ?_ ?_ | exact AB | refine SameB.upd ?_ ?_ _ | assumption | refine A3 ?_ | refine KM.of ?_ | refine AG ?_ | refine A6 ?_ | refine AH ?_ | refine AA ?_ | intro _g _hg | refine AE ?_ ?_ | intro _hc) | omega)
end Go.Proofs.YtjdccdelcnmocaaGreatDoor
