/- Streams: the text of a stream, as the reference writes it, walked; no condition. -/
import Derived.Test.YtjdccdelcnmocaaGreatDoorMgJ
import Derived.Test.YtjdccdelcnmocaaGreatDoorMdU
import Derived.Test.YtjdccdelcnmocaaGreatDoorMdS
import Derived.Test.YtjdccdelcnmocaaGreatDoorMdR
set_option linter.all false
set_option linter.unusedSimpArgs false
set_option linter.unusedVariables false
set_option maxHeartbeats 4000000
namespace Go.Proofs.YtjdccdelcnmocaaGreatDoor
structure TxF (n n0 n1 : Nat) (H H1 : A4) (g1 : Nat) (k o m : Int) (v : List Int) (p : List St) : Prop where
 h1 : H1 g1 = some (Aj k o m (P3 v) (.sl 5 (Ae p) .ro))
 sup : ∀ g, n1 ≤ g → H1 g = none
 same : SameB n H H1
 le : n ≤ g1 ∧ g1 < n0 ∧ n0 ≤ n1
theorem TxF.to {n n0 n1 n2 : Nat} {H H1 H2 : A4} {g1 : Nat} {k o m : Int} {v : List Int} {p : List St} (h : TxF n n0 n1 H H1 g1 k o m v p) (hn : n1 ≤ n2) (hs : ∀ g, n2 ≤ g → H2 g = none) (hf : ∀ g, g < n0 → H2 g = H1 g) : TxF n n0 n2 H H2 g1 k o m v p := by
 obtain ⟨a1, a2, a3, a4⟩ := h
 exact ⟨by rw [hf g1 a4.2.1]; exact a1, hs, fun g hg => by rw [hf g (by omega)]; exact a3 g hg, by omega⟩
attribute [local simp] Kz De DC Kv Lp Je Jw Dj DK Fe Fi KJ JN LL KL Ig JX Ix L9 Kn K6 Kk LJ K3 Ji RM pe KK Io Iu JW JI Kf Ir L7 Jx LH J5 L8 Is DT J0 Ju Jg Ih Li Lf K5 KN Js LO Ks LC La Im Ip Ln JQ Kt Jt JF L4 DG Lv DY Kq JZ Ky LB LG Lk KH JM LE Jr LF KA JU L0 JY JB Lo JJ Ly Jl Lm Ik Jm Jf Kw DJ KO Lj JG Ld Jn Lh Kj J9 Kp Kb Lc K2 KE LR Il Lq JC L3 Km JR Lz Jd LN L2 M1 LM Lr KG Iv JO L1 LK List.mem_cons guardK CR Ez F6 Fa Lx DX DF DL Dd DP DM DN Dh D9 M0 Ki Dg KF LP JV Jp Kc K8 DR KX LV J1 JA LW LQ Fj DQ DS DH DA Lw Ja DW Ii DD L6 Db DE Ku DO DU LZ LD KR Lg Kl J7 L5 J4 RL IR IV Gt IN IS IL Cx FB FA KV FC F8 Cv CY Sc IH II F9 IK IT D0 D4 Bg BG C3 CK Ar ev get put GQ AP Cr Jc K4 Kd LI JT Jh EF part BZ HA Jy Gx isNil CA CG EL CQ C1 Kx JP J3 KI Iq IF Ij JE Jo LU Jq Jv K7 Jz KZ Iz AV.fits AV.cells ones AV.one EK CD EE E2 FV ES Ll GB Fy CH Br C5 F3 Gg AX BY TO Fc Ko Ie List.getElem?_cons_zero List.getElem?_cons_succ Dc Df Di J8 Kg Ls H9 It Kh JK KD Ke LT JH Lu Iw LY JD
theorem NC (s : AW) (hs : s.length ≤ 1000000) : APure Tryz.prog 63 [.str s] (.tup [aI (EQ s).1, .bool (EQ s).2]) := by
 have hn := Vw s hs
 unfold EQ
 generalize hnr : IU s = r at *
 obtain ⟨v, b⟩ := r
 dsimp only at hn ⊢
 cases b with
 | false =>
  simp only [Bool.false_and]
  cases s with
  | nil =>
   refine A9 Tryz.func63 Tu rfl fun n H hH => ?_
   repeat' (first | (simp -implicitDefEqProofs [c63, -getElem?_pos, A1]) | (simp (disch := omega) only [AF]) | ((with_reducible refine AJ 88 ?_); refine' AZ (hn) ?_) | (with_reducible first | refine A7 ?_ ?_ ?_ | exact AB | refine SameB.upd ?_ ?_ _ | assumption | refine A3 ?_ | refine KM.of ?_ | refine AG ?_ | intro _g _hg | refine AE ?_ ?_ | intro _hc) | omega)
   all_goals exact A1 _
  | cons c t =>
   refine A9 Tryz.func63 Tu rfl fun n H hH => ?_
   repeat' (first | (simp -implicitDefEqProofs [c63, -getElem?_pos, A1]) | (simp (disch := omega) only [AF]) | ((with_reducible refine AJ 88 ?_); refine' AZ (hn) ?_) | (with_reducible first | refine A7 ?_ ?_ ?_ | exact AB | refine SameB.upd ?_ ?_ _ | assumption | refine A3 ?_ | refine KM.of ?_ | refine AG ?_ | intro _g _hg | refine AE ?_ ?_ | intro _hc) | omega)
   all_goals exact A1 _
 | true =>
  have hne : s ≠ [] := by
   rintro rfl
   have h2 : (IU []).2 = false := by decide
   rw [hnr] at h2; cases h2
  obtain ⟨c, t, rfl⟩ := List.exists_cons_of_ne_nil hne
  have hcc : ((c.toNat : Int) == 45) = decide (c = 45) := by
   by_cases h : c = 45
   ·subst h; rfl
   ·have : ¬ (c.toNat : Int) = 45 := fun e => h ((QY c).2 e)
    simp [h, this]
  by_cases h : c = 45
  ·subst h
   refine A9 Tryz.func63 Tu rfl fun n H hH => ?_
   repeat' (first | (simp -implicitDefEqProofs [c63, -getElem?_pos, A1]) | (simp (disch := omega) only [AF]) | ((with_reducible refine AJ 88 ?_); refine' AZ (hn) ?_) | (with_reducible first | refine A7 ?_ ?_ ?_ | exact AB | refine SameB.upd ?_ ?_ _ | assumption | refine A3 ?_ | refine KM.of ?_ | refine AG ?_ | intro _g _hg | refine AE ?_ ?_ | intro _hc) | omega)
   all_goals exact A0 _
  ·have h' : ¬ (c.toNat : Int) = 45 := fun e => h ((QY c).2 e)
   have e : decide ((c :: t).head? ≠ some 45) = true := by simp [h]
   have hb : ((c.toNat : Int) != 45) = true := by simpa using h'
   rw [e]
   refine A9 Tryz.func63 Tu rfl fun n H hH => ?_
   repeat' (first | (simp -implicitDefEqProofs [c63, -getElem?_pos, A1, h', hb]) | (simp (disch := omega) only [AF]) | ((with_reducible refine AJ 88 ?_); refine' AZ (hn) ?_) | (with_reducible first | refine A7 ?_ ?_ ?_ | exact AB | refine SameB.upd ?_ ?_ _ | assumption | refine A3 ?_ | refine KM.of ?_ | refine AG ?_ | intro _g _hg | refine AE ?_ ?_ | intro _hc) | omega)
   all_goals first | exact A1 _ | exact A0 _
def Zp (b : Bool) (w : AW) : Int := match EO w (if b = true then fnW else cdW) with
 | some j => (j : Int) + 1
 | none => 0
theorem A02 (k : Int) (w : AW) : PE k w = Zp (IG k) w := rfl
theorem A0b (w : AW) (b : Bool) : APure Tryz.prog 64 [.str w, .bool b] (aI (Zp b w)) := by
 have hf := fun o h1 h2 => HG o h1 h2
 have hc := fun o h1 h2 => HC o h1 h2
 unfold Zp
 refine A9 Tryz.func64 A36 rfl fun n H hH => ?_
 cases b with
 | true =>
  rw [if_pos rfl]
  repeat' (first | (simp -implicitDefEqProofs [c64, -getElem?_pos, A8]) | (simp (disch := omega) only [AF]) | (with_reducible first | refine A7 ?_ ?_ ?_ | exact AB | refine SameB.upd ?_ ?_ _ | assumption | refine A3 ?_ | refine KM.of ?_ | refine AG ?_ | intro _g _hg | refine AE ?_ ?_ | intro _hc) | omega)
  refine LoopK.go (fun q st => ∃ j : Nat, j + q = 6 ∧ st = ⟨[(0, .str w), (1, .bool true), (5, aI ((j : Int) + 1))], n, H⟩ ∧ ∀ (i : Nat) (x : AW), i < j → fnW[i]? = some x → x ≠ w) 6 ⟨0, by omega, rfl, fun i x h => by omega⟩ ?_
  rintro q st ⟨j, hj, rfl, hb⟩ J hJ
  by_cases hj6 : j < 6
  ·obtain ⟨x, hx⟩ : ∃ x, fnW[j]? = some x := ⟨_, List.getElem?_eq_getElem (by show j < 6; exact hj6)⟩
   have hw := HG ((j : Int) + 1) (by omega) (by omega)
   have e : fnW.getD ((j : Int) + 1 - 1).toNat [] = x := by
    have : ((j : Int) + 1 - 1).toNat = j := by omega
    rw [this, List.getD_eq_getElem?_getD, hx]; rfl
   rw [e] at hw
   have hle : (j : Int) + 1 ≤ 6 := by omega
   by_cases hxw : x = w
   ·rw [Ns (by rw [hx, hxw]) hb]
    repeat' (first | (simp -implicitDefEqProofs [Em, Ek, EW, Eb, c64, -getElem?_pos, A8, hle, hxw]) | (simp (disch := omega) only [AF]) | ((with_reducible refine AJ 54 ?_); refine' AZ (hw) ?_) | (with_reducible first | refine A7 ?_ ?_ ?_ | exact AB | refine SameB.upd ?_ ?_ _ | assumption | refine A3 ?_ | refine KM.of ?_ | refine AG ?_ | intro _g _hg | refine AE ?_ ?_ | intro _hc) | omega)
   ·have hxb : (x == w) = false := by simpa using hxw
    repeat' (first | (simp -implicitDefEqProofs [Em, Ek, EW, Eb, c64, -getElem?_pos, A8, hle, hxw, hxb]) | (simp (disch := omega) only [AF]) | ((with_reducible refine AJ 54 ?_); refine' AZ (hw) ?_) | (with_reducible first | refine A7 ?_ ?_ ?_ | exact AB | refine SameB.upd ?_ ?_ _ | assumption | refine A3 ?_ | refine KM.of ?_ | refine AG ?_ | intro _g _hg | refine AE ?_ ?_ | intro _hc) | omega)
    exact hJ (q - 1) _ (by omega) ⟨j + 1, by omega, by simp, fun i y hi hy => by
     by_cases h : i = j
     ·subst h; rw [hx] at hy; injection hy with hy; rw [← hy]; exact hxw
     ·exact hb i y (by omega) hy⟩
  ·have hje : j = 6 := by omega
   subst hje
   rw [IE (fun i x hx => hb i x (by have := (List.getElem?_eq_some_iff.1 hx).1; exact this) hx)]
   repeat' (first | (simp -implicitDefEqProofs [Em, Ek, EW, Eb, c64, -getElem?_pos, A8]) | (simp (disch := omega) only [AF]) | (with_reducible first | refine A7 ?_ ?_ ?_ | exact AB | refine SameB.upd ?_ ?_ _ | assumption | refine A3 ?_ | refine KM.of ?_ | refine AG ?_ | intro _g _hg | refine AE ?_ ?_ | intro _hc) | omega)
 | false =>
  rw [if_neg (by decide)]
  repeat' (first | (simp -implicitDefEqProofs [c64, -getElem?_pos, A8]) | (simp (disch := omega) only [AF]) | (with_reducible first | refine A7 ?_ ?_ ?_ | exact AB | refine SameB.upd ?_ ?_ _ | assumption | refine A3 ?_ | refine KM.of ?_ | refine AG ?_ | intro _g _hg | refine AE ?_ ?_ | intro _hc) | omega)
  refine LoopK.go (fun q st => ∃ j : Nat, j + q = 6 ∧ st = ⟨[(0, .str w), (1, .bool false), (5, aI ((j : Int) + 1))], n, H⟩ ∧ ∀ (i : Nat) (x : AW), i < j → cdW[i]? = some x → x ≠ w) 6 ⟨0, by omega, rfl, fun i x h => by omega⟩ ?_
  rintro q st ⟨j, hj, rfl, hb⟩ J hJ
  by_cases hj3 : j < 3
  ·obtain ⟨x, hx⟩ : ∃ x, cdW[j]? = some x := ⟨_, List.getElem?_eq_getElem (by show j < 3; exact hj3)⟩
   have hw := HC ((j : Int) + 1) (by omega) (by omega)
   have e : cdW.getD ((j : Int) + 1 - 1).toNat [] = x := by
    have : ((j : Int) + 1 - 1).toNat = j := by omega
    rw [this, List.getD_eq_getElem?_getD, hx]; rfl
   rw [e] at hw
   have hle : (j : Int) + 1 ≤ 6 := by omega
   have hle3 : (j : Int) + 1 ≤ 3 := by omega
   by_cases hxw : x = w
   ·rw [Ns (by rw [hx, hxw]) hb]
    repeat' (first | (simp -implicitDefEqProofs [Em, Ek, EW, Eb, c64, -getElem?_pos, A8, hle, hle3, hxw]) | (simp (disch := omega) only [AF]) | ((with_reducible refine AJ 56 ?_); refine' AZ (hw) ?_) | (with_reducible first | refine A7 ?_ ?_ ?_ | exact AB | refine SameB.upd ?_ ?_ _ | assumption | refine A3 ?_ | refine KM.of ?_ | refine AG ?_ | intro _g _hg | refine AE ?_ ?_ | intro _hc) | omega)
   ·have hxb : (x == w) = false := by simpa using hxw
    repeat' (first | (simp -implicitDefEqProofs [Em, Ek, EW, Eb, c64, -getElem?_pos, A8, hle, hle3, hxw, hxb]) | (simp (disch := omega) only [AF]) | ((with_reducible refine AJ 56 ?_); refine' AZ (hw) ?_) | (with_reducible first | refine A7 ?_ ?_ ?_ | exact AB | refine SameB.upd ?_ ?_ _ | assumption | refine A3 ?_ | refine KM.of ?_ | refine AG ?_ | intro _g _hg | refine AE ?_ ?_ | intro _hc) | omega)
    exact hJ (q - 1) _ (by omega) ⟨j + 1, by omega, by simp, fun i y hi hy => by
     by_cases h : i = j
     ·subst h; rw [hx] at hy; injection hy with hy; rw [← hy]; exact hxw
     ·exact hb i y (by omega) hy⟩
  ·by_cases hj6 : j < 6
   ·have hle : (j : Int) + 1 ≤ 6 := by omega
    have hle3 : ¬ (j : Int) + 1 ≤ 3 := by omega
    repeat' (first | (simp -implicitDefEqProofs [Em, Ek, EW, Eb, c64, -getElem?_pos, A8, hle, hle3]) | (simp (disch := omega) only [AF]) | (with_reducible first | refine A7 ?_ ?_ ?_ | exact AB | refine SameB.upd ?_ ?_ _ | assumption | refine A3 ?_ | refine KM.of ?_ | refine AG ?_ | intro _g _hg | refine AE ?_ ?_ | intro _hc) | omega)
    exact hJ (q - 1) _ (by omega) ⟨j + 1, by omega, by simp, fun i y hi hy => by
     have h3 : i < 3 := by have := (List.getElem?_eq_some_iff.1 hy).1; exact this
     exact hb i y (by omega) hy⟩
   ·have hje : j = 6 := by omega
    subst hje
    rw [IE (fun i x hx => hb i x (by have : i < 3 := (List.getElem?_eq_some_iff.1 hx).1; omega) hx)]
    repeat' (first | (simp -implicitDefEqProofs [Em, Ek, EW, Eb, c64, -getElem?_pos, A8]) | (simp (disch := omega) only [AF]) | (with_reducible first | refine A7 ?_ ?_ ?_ | exact AB | refine SameB.upd ?_ ?_ _ | assumption | refine A3 ?_ | refine KM.of ?_ | refine AG ?_ | intro _g _hg | refine AE ?_ ?_ | intro _hc) | omega)
structure ArgI (s : AW) (i f : Nat) (d : Int) (out : List AW) : Prop where
 fi : f ≤ i
 d0 : 0 ≤ d ∧ d ≤ i
 ol : out.length ≤ i
 eq : (i ≤ s.length ∧ D3 (s.drop i) ((s.take i).drop f) d out = D3 s [] 0 []) ∨ (i = s.length + 1 ∧ D3 s [] 0 [] = some (out, d))
theorem O9 {s : AW} {i f : Nat} {c : UInt8} (h : s[i]? = some c) (hf : f ≤ i) : (s.take (i + 1)).drop f = (s.take i).drop f ++ [c] := by
 rw [List.take_add_one, h]
 have hi := (List.getElem?_eq_some_iff.1 h).1
 rw [List.drop_append_of_le_length (by simp; omega)]
 rfl
section
variable {s : AW} {i f : Nat} {d : Int} {out : List AW} {c : UInt8}
theorem ArgI.at_ (h : ArgI s i f d out) (hc : s[i]? = some c) : D3 (c :: s.drop (i + 1)) ((s.take i).drop f) d out = D3 s [] 0 [] := by
 have hi := (List.getElem?_eq_some_iff.1 hc).1
 rcases h.eq with ⟨_, e⟩ | ⟨e, _⟩
 ·rw [Fd hc] at e; exact e
 ·omega
theorem ArgI.cut (h : ArgI s i f d out) (hc : s[i]? = some 44) (hd : d = 0) : ArgI s (i + 1) (i + 1) 0 (out ++ [(s.take i).drop f]) := by
 have hi := (List.getElem?_eq_some_iff.1 hc).1
 have e := h.at_ hc
 rw [D3, if_pos ⟨rfl, hd⟩] at e
 refine ⟨Nat.le_refl _, by omega, by have := h.ol; simp; omega, .inl ⟨by omega, ?_⟩⟩
 rw [← e, hd]
 have : (s.take (i + 1)).drop (i + 1) = [] := List.drop_eq_nil_of_le (by simp; omega)
 rw [this]
theorem ArgI.go (h : ArgI s i f d out) (hc : s[i]? = some c) (hn : ¬ (c = 44 ∧ d = 0)) (hd : 0 ≤ VT d c) : ArgI s (i + 1) f (VT d c) out := by
 have hi := (List.getElem?_eq_some_iff.1 hc).1
 have e := h.at_ hc
 rw [D3, if_neg hn, if_neg (by omega), ← O9 hc h.fi] at e
 have h2 := h.d0
 have h3 : VT d c ≤ d + 1 := by unfold VT; split <;> split <;> omega
 exact ⟨by have := h.fi; omega, by omega, by have := h.ol; omega, .inl ⟨by omega, e⟩⟩
theorem ArgI.bad (h : ArgI s i f d out) (hc : s[i]? = some c) (hn : ¬ (c = 44 ∧ d = 0)) (hd : VT d c < 0) : D3 s [] 0 [] = none := by
 have e := h.at_ hc
 rw [D3, if_neg hn, if_pos hd] at e
 exact e.symm
theorem ArgI.last (h : ArgI s s.length f d out) : ArgI s (s.length + 1) (s.length + 1) d (out ++ [(s.take s.length).drop f]) := by
 rcases h.eq with ⟨_, e⟩ | ⟨e, _⟩
 ·rw [List.drop_length, D3] at e
  exact ⟨Nat.le_refl _, by have := h.d0; omega, by have := h.ol; simp; omega, .inr ⟨rfl, e.symm⟩⟩
 ·omega
end
theorem Rk (s : AW) (hs : s.length ≤ 900000) : APure Tryz.prog 62 [.str s] (.tup [.sl 1 (aW (HB s).1) .ro, .bool (HB s).2]) := by
 refine A9 Tryz.func62 A2d rfl fun n H hH => ?_
 have _hb : True := trivial
 have _hO : Owns n H [] [⟨9, 1, Bv, []⟩] n H := (Owns.start hH).addNil _ _ _
 repeat' (first | (simp -implicitDefEqProofs [c62, -getElem?_pos, A8, _hb]) | (simp (disch := omega) only [AF]) | (with_reducible first | refine A7 ?_ ?_ ?_ | exact AB | refine SameB.upd ?_ ?_ _ | assumption | refine A6 ?_) | ((with_reducible refine AO (by assumption) (fun _g _hg _hO => ?_))) | ((with_reducible refine appKS.chk ?_); first | ((refine Owns.app (by assumption) (.inl rfl) (by first | (exact Owns.simL0 (by assumption)) | (exact Owns.simL1 (by assumption)) | (with_reducible exact A0 _) | assumption | (simp [AC, A8, A1, A0]; done)) ?_ ?_ (fun _x _n _H _hle _hO _hb => ?_)); rotate_left 2; dsimp only [AN, AI, AM] at _hb) | ((refine Owns.app1 (by assumption) (.inl rfl) (by first | (exact Owns.simL0 (by assumption)) | (exact Owns.simL1 (by assumption)) | (with_reducible exact A0 _) | assumption | (simp [AC, A8, A1, A0]; done)) ?_ ?_ (fun _x _n _H _hle _hO _hb => ?_)); rotate_left 2; dsimp only [AN, AI, AM] at _hb)) | (first | (with_reducible exact Owns.fit0 (by assumption)) | (with_reducible exact Owns.fit1 (by assumption))) | (with_reducible first | exact Owns.le (by assumption) | exact Owns.same (by assumption) | refine A3 ?_ | refine KM.of ?_ | refine AG ?_ | refine A6 ?_ | refine AH ?_ | refine AA ?_ | intro _g _hg | refine AE ?_ ?_ | intro _hc) | omega)
 refine LoopK.go (fun q st => ∃ (i f : Nat) (d : Int) (out : List AW) (n' : Nat) (H' : A4) (z : Nat) (t : Tok), i + q = s.length + 1 ∧ ArgI s i f d out ∧ st = ⟨[(0, .str s), (4, .sl z (aW out) t), (5, aI d), (6, aI f), (7, aI i)], n', H'⟩ ∧ Owns n H [] [⟨9, 1, .sl z (aW out) t, aW out⟩] n' H') (s.length + 1) ⟨0, 0, 0, [], _, _, _, _, by omega, ⟨Nat.le_refl _, by omega, by simp, .inl ⟨by omega, by simp⟩⟩, rfl, _hO⟩ ?_
 clear _hO _hb
 rintro q st ⟨i, f, d, out, n1, H1, z, t, hq, hI, rfl, _hO⟩ J hJ
 have _hb := Owns.boxF _hO
 dsimp only [AN, AI, AM] at _hb
 have hle := _hO.le
 have hol := hI.ol
 have hd0 := hI.d0
 have hfi := hI.fi
 have hwl : (aW out).length = out.length := by simp
 by_cases hi : i < s.length
 ·obtain ⟨c, hc⟩ : ∃ c, s[i]? = some c := ⟨_, List.getElem?_eq_getElem hi⟩
  have hi1 : (i : Int) ≤ s.length := by omega
  have hi2 : ((i : Int) == (s.length : Int)) = false := by simp; omega
  have hi3 : ¬ i = s.length := by omega
  by_cases c44 : c = 44
  ·subst c44
   by_cases hd : d = 0
   ·subst hd
    have hI2 := hI.cut hc rfl
    generalize hcut : (s.take i).drop f = ct at *
    have hmap : aW (out ++ [ct]) = aW out ++ [.str ct] := by simp
    repeat' (first | (simp -implicitDefEqProofs [CC, Eg, QL, FO, -getElem?_pos, hc, hi1, hi2, hi3, hcut, hfi, _hb]) | (simp (disch := omega) only [AF]) | ((with_reducible refine appKS.chk ?_); refine Owns.appF (by assumption) (A0 _) (by simp; omega) (by decide) (fun _z _t _n _H _hle _hO => ?_); have _hb := Owns.boxF _hO; dsimp only [AN, AI, AM] at _hb) | (with_reducible first | refine A7 ?_ ?_ ?_ | exact AB | refine SameB.upd ?_ ?_ _ | assumption | refine A6 ?_) | ((with_reducible refine AO (by assumption) (fun _g _hg _hO => ?_))) | (first | (with_reducible exact Owns.fit0 (by assumption)) | (with_reducible exact Owns.fit1 (by assumption))) | (with_reducible first | exact Owns.le (by assumption) | exact Owns.same (by assumption) | refine A3 ?_ | refine KM.of ?_ | refine AG ?_ | refine A6 ?_ | refine AH ?_ | refine AA ?_ | intro _g _hg | refine AE ?_ ?_ | intro _hc) | omega)
    exact hJ (q - 1) _ (by omega) ⟨i + 1, i + 1, 0, _, _, _, _, _, by omega, hI2, by rw [hmap]; rfl, by rw [hmap]; exact _hO⟩
   ·have hI2 := hI.go hc (fun h => hd h.2) (by rw [NL (by decide) (by decide)]; omega)
    rw [NL (by decide) (by decide)] at hI2
    have hdb : (d == 0) = false := by simpa using hd
    repeat' (first | (simp -implicitDefEqProofs [CC, Eg, GO, GJ, GN, FO, -getElem?_pos, hc, hi1, hi2, hi3, hd, hdb, _hb]) | (simp (disch := omega) only [AF]) | (with_reducible first | refine A7 ?_ ?_ ?_ | exact AB | refine SameB.upd ?_ ?_ _ | assumption | refine A6 ?_) | ((with_reducible refine AO (by assumption) (fun _g _hg _hO => ?_))) | ((with_reducible refine appKS.chk ?_); first | ((refine Owns.app (by assumption) (.inl rfl) (by first | (exact Owns.simL0 (by assumption)) | (exact Owns.simL1 (by assumption)) | (with_reducible exact A0 _) | assumption | (simp [AC, A8, A1, A0]; done)) ?_ ?_ (fun _x _n _H _hle _hO _hb => ?_)); rotate_left 2; dsimp only [AN, AI, AM] at _hb) | ((refine Owns.app1 (by assumption) (.inl rfl) (by first | (exact Owns.simL0 (by assumption)) | (exact Owns.simL1 (by assumption)) | (with_reducible exact A0 _) | assumption | (simp [AC, A8, A1, A0]; done)) ?_ ?_ (fun _x _n _H _hle _hO _hb => ?_)); rotate_left 2; dsimp only [AN, AI, AM] at _hb)) | (first | (with_reducible exact Owns.fit0 (by assumption)) | (with_reducible exact Owns.fit1 (by assumption))) | (with_reducible first | exact Owns.le (by assumption) | exact Owns.same (by assumption) | refine A3 ?_ | refine KM.of ?_ | refine AG ?_ | refine A6 ?_ | refine AH ?_ | refine AA ?_ | intro _g _hg | refine AE ?_ ?_ | intro _hc) | omega)
    exact hJ (q - 1) _ (by omega) ⟨i + 1, f, d, _, _, _, _, _, by omega, hI2, rfl, _hO⟩
  ·by_cases c40 : c = 40
   ·subst c40
    have hI2 := hI.go hc (fun h => c44 h.1) (by rw [Sw]; omega)
    rw [Sw] at hI2
    have hdn : ¬ d + 1 < 0 := by omega
    repeat' (first | (simp -implicitDefEqProofs [CC, Eg, GO, GJ, GN, FO, -getElem?_pos, hc, hi1, hi2, hi3, hdn, _hb]) | (simp (disch := omega) only [AF]) | (with_reducible first | refine A7 ?_ ?_ ?_ | exact AB | refine SameB.upd ?_ ?_ _ | assumption | refine A6 ?_) | ((with_reducible refine AO (by assumption) (fun _g _hg _hO => ?_))) | ((with_reducible refine appKS.chk ?_); first | ((refine Owns.app (by assumption) (.inl rfl) (by first | (exact Owns.simL0 (by assumption)) | (exact Owns.simL1 (by assumption)) | (with_reducible exact A0 _) | assumption | (simp [AC, A8, A1, A0]; done)) ?_ ?_ (fun _x _n _H _hle _hO _hb => ?_)); rotate_left 2; dsimp only [AN, AI, AM] at _hb) | ((refine Owns.app1 (by assumption) (.inl rfl) (by first | (exact Owns.simL0 (by assumption)) | (exact Owns.simL1 (by assumption)) | (with_reducible exact A0 _) | assumption | (simp [AC, A8, A1, A0]; done)) ?_ ?_ (fun _x _n _H _hle _hO _hb => ?_)); rotate_left 2; dsimp only [AN, AI, AM] at _hb)) | (first | (with_reducible exact Owns.fit0 (by assumption)) | (with_reducible exact Owns.fit1 (by assumption))) | (with_reducible first | exact Owns.le (by assumption) | exact Owns.same (by assumption) | refine A3 ?_ | refine KM.of ?_ | refine AG ?_ | refine A6 ?_ | refine AH ?_ | refine AA ?_ | intro _g _hg | refine AE ?_ ?_ | intro _hc) | omega)
    exact hJ (q - 1) _ (by omega) ⟨i + 1, f, d + 1, _, _, _, _, _, by omega, hI2, rfl, _hO⟩
   ·by_cases c41 : c = 41
    ·subst c41
     by_cases hd : d = 0
     ·subst hd
      have hR := hI.bad hc (fun h => c44 h.1) (by rw [RC]; omega)
      unfold HB
      rw [hR]
      repeat' (first | (simp -implicitDefEqProofs [CC, Eg, GO, GJ, GN, -getElem?_pos, hc, hi1, hi2, hi3, A8, _hb]) | (simp (disch := omega) only [AF]) | (with_reducible first | refine A7 ?_ ?_ ?_ | exact AB | refine SameB.upd ?_ ?_ _ | assumption | refine A6 ?_) | ((with_reducible refine AO (by assumption) (fun _g _hg _hO => ?_))) | ((with_reducible refine appKS.chk ?_); first | ((refine Owns.app (by assumption) (.inl rfl) (by first | (exact Owns.simL0 (by assumption)) | (exact Owns.simL1 (by assumption)) | (with_reducible exact A0 _) | assumption | (simp [AC, A8, A1, A0]; done)) ?_ ?_ (fun _x _n _H _hle _hO _hb => ?_)); rotate_left 2; dsimp only [AN, AI, AM] at _hb) | ((refine Owns.app1 (by assumption) (.inl rfl) (by first | (exact Owns.simL0 (by assumption)) | (exact Owns.simL1 (by assumption)) | (with_reducible exact A0 _) | assumption | (simp [AC, A8, A1, A0]; done)) ?_ ?_ (fun _x _n _H _hle _hO _hb => ?_)); rotate_left 2; dsimp only [AN, AI, AM] at _hb)) | (first | (with_reducible exact Owns.fit0 (by assumption)) | (with_reducible exact Owns.fit1 (by assumption))) | (with_reducible first | exact Owns.le (by assumption) | exact Owns.same (by assumption) | refine A3 ?_ | refine KM.of ?_ | refine AG ?_ | refine A6 ?_ | refine AH ?_ | refine AA ?_ | intro _g _hg | refine AE ?_ ?_ | intro _hc) | omega)
      all_goals exact AL Bq (A0 _)
     ·have hI2 := hI.go hc (fun h => c44 h.1) (by rw [RC]; omega)
      rw [RC] at hI2
      have hdn : ¬ d - 1 < 0 := by omega
      repeat' (first | (simp -implicitDefEqProofs [CC, Eg, GO, GJ, GN, FO, -getElem?_pos, hc, hi1, hi2, hi3, hdn, _hb]) | (simp (disch := omega) only [AF]) | (with_reducible first | refine A7 ?_ ?_ ?_ | exact AB | refine SameB.upd ?_ ?_ _ | assumption | refine A6 ?_) | ((with_reducible refine AO (by assumption) (fun _g _hg _hO => ?_))) | ((with_reducible refine appKS.chk ?_); first | ((refine Owns.app (by assumption) (.inl rfl) (by first | (exact Owns.simL0 (by assumption)) | (exact Owns.simL1 (by assumption)) | (with_reducible exact A0 _) | assumption | (simp [AC, A8, A1, A0]; done)) ?_ ?_ (fun _x _n _H _hle _hO _hb => ?_)); rotate_left 2; dsimp only [AN, AI, AM] at _hb) | ((refine Owns.app1 (by assumption) (.inl rfl) (by first | (exact Owns.simL0 (by assumption)) | (exact Owns.simL1 (by assumption)) | (with_reducible exact A0 _) | assumption | (simp [AC, A8, A1, A0]; done)) ?_ ?_ (fun _x _n _H _hle _hO _hb => ?_)); rotate_left 2; dsimp only [AN, AI, AM] at _hb)) | (first | (with_reducible exact Owns.fit0 (by assumption)) | (with_reducible exact Owns.fit1 (by assumption))) | (with_reducible first | exact Owns.le (by assumption) | exact Owns.same (by assumption) | refine A3 ?_ | refine KM.of ?_ | refine AG ?_ | refine A6 ?_ | refine AH ?_ | refine AA ?_ | intro _g _hg | refine AE ?_ ?_ | intro _hc) | omega)
      exact hJ (q - 1) _ (by omega) ⟨i + 1, f, d - 1, _, _, _, _, _, by omega, hI2, rfl, _hO⟩
    ·have hI2 := hI.go hc (fun h => c44 h.1) (by rw [NL c40 c41]; omega)
     rw [NL c40 c41] at hI2
     have hdn : ¬ d < 0 := by omega
     have key : ∀ b : UInt8, c ≠ b → ¬ (c.toNat : Int) = (b.toNat : Int) := fun b h e => h (UInt8.toNat_inj.1 (by omega))
     have n44 : ¬ (c.toNat : Int) = 44 := key 44 c44
     have n40 : ¬ (c.toNat : Int) = 40 := key 40 c40
     have n41 : ¬ (c.toNat : Int) = 41 := key 41 c41
     repeat' (first | (simp -implicitDefEqProofs [CC, Eg, GO, GJ, GN, FO, -getElem?_pos, hc, hi1, hi2, hi3, hdn, n44, n40, n41, _hb]) | (simp (disch := omega) only [AF]) | (with_reducible first | refine A7 ?_ ?_ ?_ | exact AB | refine SameB.upd ?_ ?_ _ | assumption | refine A6 ?_) | ((with_reducible refine AO (by assumption) (fun _g _hg _hO => ?_))) | ((with_reducible refine appKS.chk ?_); first | ((refine Owns.app (by assumption) (.inl rfl) (by first | (exact Owns.simL0 (by assumption)) | (exact Owns.simL1 (by assumption)) | (with_reducible exact A0 _) | assumption | (simp [AC, A8, A1, A0]; done)) ?_ ?_ (fun _x _n _H _hle _hO _hb => ?_)); rotate_left 2; dsimp only [AN, AI, AM] at _hb) | ((refine Owns.app1 (by assumption) (.inl rfl) (by first | (exact Owns.simL0 (by assumption)) | (exact Owns.simL1 (by assumption)) | (with_reducible exact A0 _) | assumption | (simp [AC, A8, A1, A0]; done)) ?_ ?_ (fun _x _n _H _hle _hO _hb => ?_)); rotate_left 2; dsimp only [AN, AI, AM] at _hb)) | (first | (with_reducible exact Owns.fit0 (by assumption)) | (with_reducible exact Owns.fit1 (by assumption))) | (with_reducible first | exact Owns.le (by assumption) | exact Owns.same (by assumption) | refine A3 ?_ | refine KM.of ?_ | refine AG ?_ | refine A6 ?_ | refine AH ?_ | refine AA ?_ | intro _g _hg | refine AE ?_ ?_ | intro _hc) | omega)
     exact hJ (q - 1) _ (by omega) ⟨i + 1, f, d, _, _, _, _, _, by omega, hI2, rfl, _hO⟩
 ·by_cases hil : i = s.length
  ·subst hil
   have hI2 := hI.last
   rw [List.take_length] at hI2
   generalize hcut : s.drop f = ct at *
   have hmap : aW (out ++ [ct]) = aW out ++ [.str ct] := by simp
   repeat' (first | (simp -implicitDefEqProofs [CC, Eg, QL, FO, -getElem?_pos, hcut, hfi, _hb]) | (simp (disch := omega) only [AF]) | ((with_reducible refine appKS.chk ?_); refine Owns.appF (by assumption) (A0 _) (by simp; omega) (by decide) (fun _z _t _n _H _hle _hO => ?_); have _hb := Owns.boxF _hO; dsimp only [AN, AI, AM] at _hb) | (with_reducible first | refine A7 ?_ ?_ ?_ | exact AB | refine SameB.upd ?_ ?_ _ | assumption | refine A6 ?_) | ((with_reducible refine AO (by assumption) (fun _g _hg _hO => ?_))) | (first | (with_reducible exact Owns.fit0 (by assumption)) | (with_reducible exact Owns.fit1 (by assumption))) | (with_reducible first | exact Owns.le (by assumption) | exact Owns.same (by assumption) | refine A3 ?_ | refine KM.of ?_ | refine AG ?_ | refine A6 ?_ | refine AH ?_ | refine AA ?_ | intro _g _hg | refine AE ?_ ?_ | intro _hc) | omega)
   exact hJ (q - 1) _ (by omega) ⟨s.length + 1, s.length + 1, d, _, _, _, _, _, by omega, hI2, by rw [hmap]; rfl, by rw [hmap]; exact _hO⟩
  ·have hie : i = s.length + 1 := by rcases hI.eq with ⟨h, _⟩ | ⟨h, _⟩ <;> omega
   have hR : D3 s [] 0 [] = some (out, d) := by rcases hI.eq with ⟨h, _⟩ | ⟨_, h⟩ <;> first | omega | exact h
   have hi1 : ¬ (i : Int) ≤ s.length := by omega
   unfold HB
   rw [hR]
   dsimp only
   by_cases ho : out = [[]]
   ·subst ho
    rw [if_pos rfl]
    have hz : z = 1 := by
     obtain ⟨z', t', e, h | h⟩ := _hO.len0
     ·injection e with e; rw [e]; exact h
     ·simp at h
    subst hz
    repeat' (first | (simp -implicitDefEqProofs [CC, IC, I5, c62, -getElem?_pos, hi1, A8, _hb]) | (simp (disch := omega) only [AF]) | (with_reducible first | refine A7 ?_ ?_ ?_ | exact AB | refine SameB.upd ?_ ?_ _ | assumption | refine A6 ?_) | ((with_reducible refine AO (by assumption) (fun _g _hg _hO => ?_))) | ((with_reducible refine appKS.chk ?_); first | ((refine Owns.app (by assumption) (.inl rfl) (by first | (exact Owns.simL0 (by assumption)) | (exact Owns.simL1 (by assumption)) | (with_reducible exact A0 _) | assumption | (simp [AC, A8, A1, A0]; done)) ?_ ?_ (fun _x _n _H _hle _hO _hb => ?_)); rotate_left 2; dsimp only [AN, AI, AM] at _hb) | ((refine Owns.app1 (by assumption) (.inl rfl) (by first | (exact Owns.simL0 (by assumption)) | (exact Owns.simL1 (by assumption)) | (with_reducible exact A0 _) | assumption | (simp [AC, A8, A1, A0]; done)) ?_ ?_ (fun _x _n _H _hle _hO _hb => ?_)); rotate_left 2; dsimp only [AN, AI, AM] at _hb)) | (first | (with_reducible exact Owns.fit0 (by assumption)) | (with_reducible exact Owns.fit1 (by assumption))) | (with_reducible first | exact Owns.le (by assumption) | exact Owns.same (by assumption) | refine A3 ?_ | refine KM.of ?_ | refine AG ?_ | refine A6 ?_ | refine AH ?_ | refine AA ?_ | intro _g _hg | refine AE ?_ ?_ | intro _hc) | omega)
    all_goals first | exact AL Bq (A0 _)
   ·rw [if_neg ho]
    have hz : z = 1 ∨ out = [] := by
     obtain ⟨z', t', e, h | h⟩ := _hO.len0
     ·injection e with e; exact .inl (by rw [e]; exact h)
     ·exact .inr (by simpa using h)
    have hout : A8 (.sl z (aW out) t) (.sl 1 (aW out) .ro) := EG (hz.imp id (fun h => by rw [h]; rfl))
    rcases out with _ | ⟨w, _ | ⟨w2, r⟩⟩
    ·repeat' (first | (simp -implicitDefEqProofs [CC, IC, I5, c62, -getElem?_pos, hi1, _hb]) | (simp (disch := omega) only [AF]) | (with_reducible first | refine A7 ?_ ?_ ?_ | exact AB | refine SameB.upd ?_ ?_ _ | assumption | refine A6 ?_) | ((with_reducible refine AO (by assumption) (fun _g _hg _hO => ?_))) | ((with_reducible refine appKS.chk ?_); first | ((refine Owns.app (by assumption) (.inl rfl) (by first | (exact Owns.simL0 (by assumption)) | (exact Owns.simL1 (by assumption)) | (with_reducible exact A0 _) | assumption | (simp [AC, A8, A1, A0]; done)) ?_ ?_ (fun _x _n _H _hle _hO _hb => ?_)); rotate_left 2; dsimp only [AN, AI, AM] at _hb) | ((refine Owns.app1 (by assumption) (.inl rfl) (by first | (exact Owns.simL0 (by assumption)) | (exact Owns.simL1 (by assumption)) | (with_reducible exact A0 _) | assumption | (simp [AC, A8, A1, A0]; done)) ?_ ?_ (fun _x _n _H _hle _hO _hb => ?_)); rotate_left 2; dsimp only [AN, AI, AM] at _hb)) | (first | (with_reducible exact Owns.fit0 (by assumption)) | (with_reducible exact Owns.fit1 (by assumption))) | (with_reducible first | exact Owns.le (by assumption) | exact Owns.same (by assumption) | refine A3 ?_ | refine KM.of ?_ | refine AG ?_ | refine A6 ?_ | refine AH ?_ | refine AA ?_ | intro _g _hg | refine AE ?_ ?_ | intro _hc) | omega)
     all_goals exact Ew (AL hout (A0 _))
    ·have hw : w ≠ [] := fun h => ho (by rw [h])
     have hwb : (w == ([] : AW)) = false := by simpa using hw
     have hz1 : z = 1 := hz.resolve_right (by simp)
     subst hz1
     repeat' (first | (simp -implicitDefEqProofs [CC, IC, I5, c62, -getElem?_pos, hi1, hw, hwb, _hb]) | (simp (disch := omega) only [AF]) | (with_reducible first | refine A7 ?_ ?_ ?_ | exact AB | refine SameB.upd ?_ ?_ _ | assumption | refine A6 ?_) | ((with_reducible refine AO (by assumption) (fun _g _hg _hO => ?_))) | ((with_reducible refine appKS.chk ?_); first | ((refine Owns.app (by assumption) (.inl rfl) (by first | (exact Owns.simL0 (by assumption)) | (exact Owns.simL1 (by assumption)) | (with_reducible exact A0 _) | assumption | (simp [AC, A8, A1, A0]; done)) ?_ ?_ (fun _x _n _H _hle _hO _hb => ?_)); rotate_left 2; dsimp only [AN, AI, AM] at _hb) | ((refine Owns.app1 (by assumption) (.inl rfl) (by first | (exact Owns.simL0 (by assumption)) | (exact Owns.simL1 (by assumption)) | (with_reducible exact A0 _) | assumption | (simp [AC, A8, A1, A0]; done)) ?_ ?_ (fun _x _n _H _hle _hO _hb => ?_)); rotate_left 2; dsimp only [AN, AI, AM] at _hb)) | (first | (with_reducible exact Owns.fit0 (by assumption)) | (with_reducible exact Owns.fit1 (by assumption))) | (with_reducible first | exact Owns.le (by assumption) | exact Owns.same (by assumption) | refine A3 ?_ | refine KM.of ?_ | refine AG ?_ | refine A6 ?_ | refine AH ?_ | refine AA ?_ | intro _g _hg | refine AE ?_ ?_ | intro _hc) | omega)
     all_goals exact Ew (AL hout (A0 _))
    ·have hz1 : z = 1 := hz.resolve_right (by simp)
     subst hz1
     have hl2 : ¬ ((r.length : Int) + 1 + 1 = 1) := by omega
     have hl3 : (((r.length : Int) + 1 + 1) == 1) = false := by simp; omega
     simp only [aW, List.map_cons] at *
     have hrl : (r.map AV.str).length = r.length := by simp
     generalize r.map AV.str = av at *
     repeat' (first | (simp -implicitDefEqProofs [CC, IC, I5, c62, -getElem?_pos, hi1, hl2, hl3, hrl, _hb]) | (simp (disch := omega) only [AF]) | (with_reducible first | refine A7 ?_ ?_ ?_ | exact AB | refine SameB.upd ?_ ?_ _ | assumption | refine A6 ?_) | ((with_reducible refine AO (by assumption) (fun _g _hg _hO => ?_))) | ((with_reducible refine appKS.chk ?_); first | ((refine Owns.app (by assumption) (.inl rfl) (by first | (exact Owns.simL0 (by assumption)) | (exact Owns.simL1 (by assumption)) | (with_reducible exact A0 _) | assumption | (simp [AC, A8, A1, A0]; done)) ?_ ?_ (fun _x _n _H _hle _hO _hb => ?_)); rotate_left 2; dsimp only [AN, AI, AM] at _hb) | ((refine Owns.app1 (by assumption) (.inl rfl) (by first | (exact Owns.simL0 (by assumption)) | (exact Owns.simL1 (by assumption)) | (with_reducible exact A0 _) | assumption | (simp [AC, A8, A1, A0]; done)) ?_ ?_ (fun _x _n _H _hle _hO _hb => ?_)); rotate_left 2; dsimp only [AN, AI, AM] at _hb)) | (first | (with_reducible exact Owns.fit0 (by assumption)) | (with_reducible exact Owns.fit1 (by assumption))) | (with_reducible first | exact Owns.le (by assumption) | exact Owns.same (by assumption) | refine A3 ?_ | refine KM.of ?_ | refine AG ?_ | refine A6 ?_ | refine AH ?_ | refine AA ?_ | intro _g _hg | refine AE ?_ ?_ | intro _hc) | omega)
     all_goals first | exact Ew (AL hout (A0 _))
abbrev HD : AObj := Aj 0 0 0 Bv Bv
theorem Xn {pr : AW → St × Bool} {args : List AW} {i : Nat} {a : AW} (h : args[i]? = some a) (ps : List St) : GR pr (args.drop i) ps = if (pr a).2 = true then GR pr (args.drop (i + 1)) (ps ++ [(pr a).1]) else none := by
 rw [Fd h, GR]
theorem Wz {args : List AW} {i : Nat} {a : AW} (h : args[i]? = some a) (vs : List Int) : EU (args.drop i) vs = if (EQ a).2 = true then EU (args.drop (i + 1)) (vs ++ [(EQ a).1]) else none := by
 rw [Fd h, EU]
def Qs (k o m : Int) (r : Option (List St)) : St × Bool := match r with
 | none => (Ev, false)
 | some ps => (.mk k o m [] ps, ET k || (G9 k && decide (ps.length = 2)) || (!G9 k && decide (ps.length = 1)))
section
variable {n0 n : Nat} {H0 H : A4} {bs : List (Nat × AObj)} {os : List OwnR} {d : Option Nat} {e : AT} {K : AS → Prop}
end
theorem FW {w : Bool} : A8 (.tup [.agg [aI 0, aI 0, aI 0, Bv, Bv], .bool w]) (.tup [encS Ev, .bool w]) := Ry
abbrev Ww (n : Nat) (H : A4) (g2 g4 g6 : Nat) (k o m : Int) (ps : List St) (z : Nat) (t : Tok) (n' : Nat) (H' : A4) : Prop := Owns n H [(g6, Aj k o m Bv (.sl z (Ae ps) t)), (g4, HD), (g2, HD)] [⟨25, 5, .sl z (Ae ps) t, Ae ps⟩] n' H'
theorem Xh (k o m : Int) (h1 : 3 ≤ k) (h2 : k ≤ 16) (n : Nat) (H : A4) (g2 g4 g6 : Nat) (hgg : n ≤ g2 ∧ g2 < g4 ∧ g4 < g6) (ps : List St) (hpl : ps.length ≤ 100000) (n1 : Nat) (H1 : A4) (z : Nat) (t : Tok) (e : AT) (_hO : Ww n H g2 g4 g6 k o m ps z t n1 H1) (e2 : get e 2 = .ptr g2 0) (e6 : get e 6 = .ptr g6 0) (ex : get e 10 = aI k) :
  aw Tryz.prog c27_k1 (D1 (.tup [encS (Qs k o m (some ps)).1, .bool (Qs k o m (some ps)).2]) n H c27.res) ⟨e, n1, H1⟩ := by
 have hel := BB ps
 have hfin : A8 (.sl z (Ae ps) t) (.sl 5 (Ae ps) .ro) := _hO.sim0 (A0 _)
 have _hb := Owns.boxF _hO
 dsimp only [AN, AI, AM] at _hb
 unfold Qs
 dsimp only
 rw [AQ]
 generalize Ae ps = ep at *
 have hS : ∀ b, A8 (.tup [.agg [aI k, aI o, aI m, Bv, .sl z ep t], .bool b]) (.tup [.agg [aI k, aI o, aI m, P3 [], .sl 5 ep .ro], .bool b]) := fun b => Ew (AL (CI (AL (A1 _) (AL (A1 _) (AL (A1 _) (AL Bq (AL hfin (A0 _))))))) (A0 _))
 have hlen : (ps.length = 1 ∧ ((ps.length : Int) == 1) = true ∧ ((ps.length : Int) == 2) = false) ∨ (ps.length = 2 ∧ ((ps.length : Int) == 1) = false ∧ ((ps.length : Int) == 2) = true) ∨ (ps.length ≠ 1 ∧ ps.length ≠ 2 ∧ ((ps.length : Int) == 1) = false ∧ ((ps.length : Int) == 2) = false) := by
  by_cases a : ps.length = 1
  ·rw [a]; exact .inl ⟨rfl, rfl, rfl⟩
  ·by_cases b : ps.length = 2
   ·rw [b]; exact .inr (.inl ⟨rfl, rfl, rfl⟩)
   ·exact .inr (.inr ⟨a, b, by simp; omega, by simp; omega⟩)
 generalize ps.length = q at *
 
 rcases (by omega : k = 13 ∨ k = 14 ∨ k = 15 ∨ k = 16 ∨ (k ≠ 13 ∧ k ≠ 14 ∧ k ≠ 15 ∧ k ≠ 16)) with rfl | rfl | rfl | rfl | ⟨n13, n14, n15, n16⟩
 ·repeat' (first | (simp -implicitDefEqProofs [CE, c27, -getElem?_pos, splice, e2, e6, ex, hel, _hb]) | (simp (disch := omega) only [AF]) | (with_reducible first | refine A7 ?_ ?_ ?_ | exact AB | refine SameB.upd ?_ ?_ _ | assumption | refine A2 ?_ | refine A6 ?_) | ((with_reducible refine AY (by first | assumption | (exact Owns.set0 (by assumption) (by simp <;> omega) _ _) | (exact Owns.set1 (by assumption) (by simp <;> omega) (by simp <;> omega) _ _)) (fun _g _hg _hO => ?_)); (have _hb := And.intro _hb _hO.boxF); dsimp only [AN, AI, AM] at _hb) | ((with_reducible refine AO (by first | assumption | (exact Owns.set0 (by assumption) (by simp <;> omega) _ _) | (exact Owns.set1 (by assumption) (by simp <;> omega) (by simp <;> omega) _ _)) (fun _g _hg _hO => ?_))) | ((with_reducible refine appKS.chk ?_); first | ((refine Owns.app (by first | assumption | (exact Owns.set0 (by assumption) (by simp <;> omega) _ _) | (exact Owns.set1 (by assumption) (by simp <;> omega) (by simp <;> omega) _ _)) (.inl rfl) (by first | (exact Owns.simL0 (by assumption)) | (exact Owns.simL1 (by assumption)) | (with_reducible exact A0 _) | assumption | (simp [AC, A8, A1, A0]; done)) ?_ ?_ (fun _x _n _H _hle _hO _hb => ?_)); rotate_left 2; dsimp only [AN, AI, AM] at _hb) | ((refine Owns.app1 (by first | assumption | (exact Owns.set0 (by assumption) (by simp <;> omega) _ _) | (exact Owns.set1 (by assumption) (by simp <;> omega) (by simp <;> omega) _ _)) (.inl rfl) (by first | (exact Owns.simL0 (by assumption)) | (exact Owns.simL1 (by assumption)) | (with_reducible exact A0 _) | assumption | (simp [AC, A8, A1, A0]; done)) ?_ ?_ (fun _x _n _H _hle _hO _hb => ?_)); rotate_left 2; dsimp only [AN, AI, AM] at _hb)) | (first | (with_reducible exact Owns.fit0 (by assumption)) | (with_reducible exact Owns.fit1 (by assumption))) | (with_reducible first | exact Owns.le (by assumption) | exact Owns.same (by assumption) | refine A3 ?_ | refine KM.of ?_ | refine AG ?_ | refine A2 ?_ | refine A6 ?_ | refine A5 ?_ | refine AH ?_ | refine AA ?_ | intro _g _hg | refine AE ?_ ?_ | intro _hc) | omega)
  all_goals exact hS _
 ·repeat' (first | (simp -implicitDefEqProofs [CE, c27, -getElem?_pos, splice, e2, e6, ex, hel, _hb]) | (simp (disch := omega) only [AF]) | (with_reducible first | refine A7 ?_ ?_ ?_ | exact AB | refine SameB.upd ?_ ?_ _ | assumption | refine A2 ?_ | refine A6 ?_) | ((with_reducible refine AY (by first | assumption | (exact Owns.set0 (by assumption) (by simp <;> omega) _ _) | (exact Owns.set1 (by assumption) (by simp <;> omega) (by simp <;> omega) _ _)) (fun _g _hg _hO => ?_)); (have _hb := And.intro _hb _hO.boxF); dsimp only [AN, AI, AM] at _hb) | ((with_reducible refine AO (by first | assumption | (exact Owns.set0 (by assumption) (by simp <;> omega) _ _) | (exact Owns.set1 (by assumption) (by simp <;> omega) (by simp <;> omega) _ _)) (fun _g _hg _hO => ?_))) | ((with_reducible refine appKS.chk ?_); first | ((refine Owns.app (by first | assumption | (exact Owns.set0 (by assumption) (by simp <;> omega) _ _) | (exact Owns.set1 (by assumption) (by simp <;> omega) (by simp <;> omega) _ _)) (.inl rfl) (by first | (exact Owns.simL0 (by assumption)) | (exact Owns.simL1 (by assumption)) | (with_reducible exact A0 _) | assumption | (simp [AC, A8, A1, A0]; done)) ?_ ?_ (fun _x _n _H _hle _hO _hb => ?_)); rotate_left 2; dsimp only [AN, AI, AM] at _hb) | ((refine Owns.app1 (by first | assumption | (exact Owns.set0 (by assumption) (by simp <;> omega) _ _) | (exact Owns.set1 (by assumption) (by simp <;> omega) (by simp <;> omega) _ _)) (.inl rfl) (by first | (exact Owns.simL0 (by assumption)) | (exact Owns.simL1 (by assumption)) | (with_reducible exact A0 _) | assumption | (simp [AC, A8, A1, A0]; done)) ?_ ?_ (fun _x _n _H _hle _hO _hb => ?_)); rotate_left 2; dsimp only [AN, AI, AM] at _hb)) | (first | (with_reducible exact Owns.fit0 (by assumption)) | (with_reducible exact Owns.fit1 (by assumption))) | (with_reducible first | exact Owns.le (by assumption) | exact Owns.same (by assumption) | refine A3 ?_ | refine KM.of ?_ | refine AG ?_ | refine A2 ?_ | refine A6 ?_ | refine A5 ?_ | refine AH ?_ | refine AA ?_ | intro _g _hg | refine AE ?_ ?_ | intro _hc) | omega)
  all_goals exact hS _
 ·rcases hlen with ⟨rfl, q1, q2⟩ | ⟨rfl, q1, q2⟩ | ⟨q3, q4, q1, q2⟩
  ·repeat' (first | (simp -implicitDefEqProofs [CE, c27, -getElem?_pos, splice, e2, e6, ex, hel, _hb]) | (simp (disch := omega) only [AF]) | (with_reducible first | refine A7 ?_ ?_ ?_ | exact AB | refine SameB.upd ?_ ?_ _ | assumption | refine A2 ?_ | refine A6 ?_) | ((with_reducible refine AY (by first | assumption | (exact Owns.set0 (by assumption) (by simp <;> omega) _ _) | (exact Owns.set1 (by assumption) (by simp <;> omega) (by simp <;> omega) _ _)) (fun _g _hg _hO => ?_)); (have _hb := And.intro _hb _hO.boxF); dsimp only [AN, AI, AM] at _hb) | ((with_reducible refine AO (by first | assumption | (exact Owns.set0 (by assumption) (by simp <;> omega) _ _) | (exact Owns.set1 (by assumption) (by simp <;> omega) (by simp <;> omega) _ _)) (fun _g _hg _hO => ?_))) | ((with_reducible refine appKS.chk ?_); first | ((refine Owns.app (by first | assumption | (exact Owns.set0 (by assumption) (by simp <;> omega) _ _) | (exact Owns.set1 (by assumption) (by simp <;> omega) (by simp <;> omega) _ _)) (.inl rfl) (by first | (exact Owns.simL0 (by assumption)) | (exact Owns.simL1 (by assumption)) | (with_reducible exact A0 _) | assumption | (simp [AC, A8, A1, A0]; done)) ?_ ?_ (fun _x _n _H _hle _hO _hb => ?_)); rotate_left 2; dsimp only [AN, AI, AM] at _hb) | ((refine Owns.app1 (by first | assumption | (exact Owns.set0 (by assumption) (by simp <;> omega) _ _) | (exact Owns.set1 (by assumption) (by simp <;> omega) (by simp <;> omega) _ _)) (.inl rfl) (by first | (exact Owns.simL0 (by assumption)) | (exact Owns.simL1 (by assumption)) | (with_reducible exact A0 _) | assumption | (simp [AC, A8, A1, A0]; done)) ?_ ?_ (fun _x _n _H _hle _hO _hb => ?_)); rotate_left 2; dsimp only [AN, AI, AM] at _hb)) | (first | (with_reducible exact Owns.fit0 (by assumption)) | (with_reducible exact Owns.fit1 (by assumption))) | (with_reducible first | exact Owns.le (by assumption) | exact Owns.same (by assumption) | refine A3 ?_ | refine KM.of ?_ | refine AG ?_ | refine A2 ?_ | refine A6 ?_ | refine A5 ?_ | refine AH ?_ | refine AA ?_ | intro _g _hg | refine AE ?_ ?_ | intro _hc) | omega)
   all_goals exact hS _
  ·repeat' (first | (simp -implicitDefEqProofs [CE, c27, -getElem?_pos, splice, e2, e6, ex, hel, _hb]) | (simp (disch := omega) only [AF]) | (with_reducible first | refine A7 ?_ ?_ ?_ | exact AB | refine SameB.upd ?_ ?_ _ | assumption | refine A2 ?_ | refine A6 ?_) | ((with_reducible refine AY (by first | assumption | (exact Owns.set0 (by assumption) (by simp <;> omega) _ _) | (exact Owns.set1 (by assumption) (by simp <;> omega) (by simp <;> omega) _ _)) (fun _g _hg _hO => ?_)); (have _hb := And.intro _hb _hO.boxF); dsimp only [AN, AI, AM] at _hb) | ((with_reducible refine AO (by first | assumption | (exact Owns.set0 (by assumption) (by simp <;> omega) _ _) | (exact Owns.set1 (by assumption) (by simp <;> omega) (by simp <;> omega) _ _)) (fun _g _hg _hO => ?_))) | ((with_reducible refine appKS.chk ?_); first | ((refine Owns.app (by first | assumption | (exact Owns.set0 (by assumption) (by simp <;> omega) _ _) | (exact Owns.set1 (by assumption) (by simp <;> omega) (by simp <;> omega) _ _)) (.inl rfl) (by first | (exact Owns.simL0 (by assumption)) | (exact Owns.simL1 (by assumption)) | (with_reducible exact A0 _) | assumption | (simp [AC, A8, A1, A0]; done)) ?_ ?_ (fun _x _n _H _hle _hO _hb => ?_)); rotate_left 2; dsimp only [AN, AI, AM] at _hb) | ((refine Owns.app1 (by first | assumption | (exact Owns.set0 (by assumption) (by simp <;> omega) _ _) | (exact Owns.set1 (by assumption) (by simp <;> omega) (by simp <;> omega) _ _)) (.inl rfl) (by first | (exact Owns.simL0 (by assumption)) | (exact Owns.simL1 (by assumption)) | (with_reducible exact A0 _) | assumption | (simp [AC, A8, A1, A0]; done)) ?_ ?_ (fun _x _n _H _hle _hO _hb => ?_)); rotate_left 2; dsimp only [AN, AI, AM] at _hb)) | (first | (with_reducible exact Owns.fit0 (by assumption)) | (with_reducible exact Owns.fit1 (by assumption))) | (with_reducible first | exact Owns.le (by assumption) | exact Owns.same (by assumption) | refine A3 ?_ | refine KM.of ?_ | refine AG ?_ | refine A2 ?_ | refine A6 ?_ | refine A5 ?_ | refine AH ?_ | refine AA ?_ | intro _g _hg | refine AE ?_ ?_ | intro _hc) | omega)
   all_goals exact hS _
  ·rw [decide_eq_false q4, decide_eq_false q3]
   repeat' (first | (simp -implicitDefEqProofs [CE, c27, -getElem?_pos, splice, e2, e6, ex, hel, q1, q2, q3, q4, _hb]) | (simp (disch := omega) only [AF]) | (with_reducible first | refine A7 ?_ ?_ ?_ | exact AB | refine SameB.upd ?_ ?_ _ | assumption | refine A2 ?_ | refine A6 ?_) | ((with_reducible refine AY (by first | assumption | (exact Owns.set0 (by assumption) (by simp <;> omega) _ _) | (exact Owns.set1 (by assumption) (by simp <;> omega) (by simp <;> omega) _ _)) (fun _g _hg _hO => ?_)); (have _hb := And.intro _hb _hO.boxF); dsimp only [AN, AI, AM] at _hb) | ((with_reducible refine AO (by first | assumption | (exact Owns.set0 (by assumption) (by simp <;> omega) _ _) | (exact Owns.set1 (by assumption) (by simp <;> omega) (by simp <;> omega) _ _)) (fun _g _hg _hO => ?_))) | ((with_reducible refine appKS.chk ?_); first | ((refine Owns.app (by first | assumption | (exact Owns.set0 (by assumption) (by simp <;> omega) _ _) | (exact Owns.set1 (by assumption) (by simp <;> omega) (by simp <;> omega) _ _)) (.inl rfl) (by first | (exact Owns.simL0 (by assumption)) | (exact Owns.simL1 (by assumption)) | (with_reducible exact A0 _) | assumption | (simp [AC, A8, A1, A0]; done)) ?_ ?_ (fun _x _n _H _hle _hO _hb => ?_)); rotate_left 2; dsimp only [AN, AI, AM] at _hb) | ((refine Owns.app1 (by first | assumption | (exact Owns.set0 (by assumption) (by simp <;> omega) _ _) | (exact Owns.set1 (by assumption) (by simp <;> omega) (by simp <;> omega) _ _)) (.inl rfl) (by first | (exact Owns.simL0 (by assumption)) | (exact Owns.simL1 (by assumption)) | (with_reducible exact A0 _) | assumption | (simp [AC, A8, A1, A0]; done)) ?_ ?_ (fun _x _n _H _hle _hO _hb => ?_)); rotate_left 2; dsimp only [AN, AI, AM] at _hb)) | (first | (with_reducible exact Owns.fit0 (by assumption)) | (with_reducible exact Owns.fit1 (by assumption))) | (with_reducible first | exact Owns.le (by assumption) | exact Owns.same (by assumption) | refine A3 ?_ | refine KM.of ?_ | refine AG ?_ | refine A2 ?_ | refine A6 ?_ | refine A5 ?_ | refine AH ?_ | refine AA ?_ | intro _g _hg | refine AE ?_ ?_ | intro _hc) | omega)
   all_goals exact hS _
 ·rcases hlen with ⟨rfl, q1, q2⟩ | ⟨rfl, q1, q2⟩ | ⟨q3, q4, q1, q2⟩
  ·repeat' (first | (simp -implicitDefEqProofs [CE, c27, -getElem?_pos, splice, e2, e6, ex, hel, _hb]) | (simp (disch := omega) only [AF]) | (with_reducible first | refine A7 ?_ ?_ ?_ | exact AB | refine SameB.upd ?_ ?_ _ | assumption | refine A2 ?_ | refine A6 ?_) | ((with_reducible refine AY (by first | assumption | (exact Owns.set0 (by assumption) (by simp <;> omega) _ _) | (exact Owns.set1 (by assumption) (by simp <;> omega) (by simp <;> omega) _ _)) (fun _g _hg _hO => ?_)); (have _hb := And.intro _hb _hO.boxF); dsimp only [AN, AI, AM] at _hb) | ((with_reducible refine AO (by first | assumption | (exact Owns.set0 (by assumption) (by simp <;> omega) _ _) | (exact Owns.set1 (by assumption) (by simp <;> omega) (by simp <;> omega) _ _)) (fun _g _hg _hO => ?_))) | ((with_reducible refine appKS.chk ?_); first | ((refine Owns.app (by first | assumption | (exact Owns.set0 (by assumption) (by simp <;> omega) _ _) | (exact Owns.set1 (by assumption) (by simp <;> omega) (by simp <;> omega) _ _)) (.inl rfl) (by first | (exact Owns.simL0 (by assumption)) | (exact Owns.simL1 (by assumption)) | (with_reducible exact A0 _) | assumption | (simp [AC, A8, A1, A0]; done)) ?_ ?_ (fun _x _n _H _hle _hO _hb => ?_)); rotate_left 2; dsimp only [AN, AI, AM] at _hb) | ((refine Owns.app1 (by first | assumption | (exact Owns.set0 (by assumption) (by simp <;> omega) _ _) | (exact Owns.set1 (by assumption) (by simp <;> omega) (by simp <;> omega) _ _)) (.inl rfl) (by first | (exact Owns.simL0 (by assumption)) | (exact Owns.simL1 (by assumption)) | (with_reducible exact A0 _) | assumption | (simp [AC, A8, A1, A0]; done)) ?_ ?_ (fun _x _n _H _hle _hO _hb => ?_)); rotate_left 2; dsimp only [AN, AI, AM] at _hb)) | (first | (with_reducible exact Owns.fit0 (by assumption)) | (with_reducible exact Owns.fit1 (by assumption))) | (with_reducible first | exact Owns.le (by assumption) | exact Owns.same (by assumption) | refine A3 ?_ | refine KM.of ?_ | refine AG ?_ | refine A2 ?_ | refine A6 ?_ | refine A5 ?_ | refine AH ?_ | refine AA ?_ | intro _g _hg | refine AE ?_ ?_ | intro _hc) | omega)
   all_goals exact hS _
  ·repeat' (first | (simp -implicitDefEqProofs [CE, c27, -getElem?_pos, splice, e2, e6, ex, hel, _hb]) | (simp (disch := omega) only [AF]) | (with_reducible first | refine A7 ?_ ?_ ?_ | exact AB | refine SameB.upd ?_ ?_ _ | assumption | refine A2 ?_ | refine A6 ?_) | ((with_reducible refine AY (by first | assumption | (exact Owns.set0 (by assumption) (by simp <;> omega) _ _) | (exact Owns.set1 (by assumption) (by simp <;> omega) (by simp <;> omega) _ _)) (fun _g _hg _hO => ?_)); (have _hb := And.intro _hb _hO.boxF); dsimp only [AN, AI, AM] at _hb) | ((with_reducible refine AO (by first | assumption | (exact Owns.set0 (by assumption) (by simp <;> omega) _ _) | (exact Owns.set1 (by assumption) (by simp <;> omega) (by simp <;> omega) _ _)) (fun _g _hg _hO => ?_))) | ((with_reducible refine appKS.chk ?_); first | ((refine Owns.app (by first | assumption | (exact Owns.set0 (by assumption) (by simp <;> omega) _ _) | (exact Owns.set1 (by assumption) (by simp <;> omega) (by simp <;> omega) _ _)) (.inl rfl) (by first | (exact Owns.simL0 (by assumption)) | (exact Owns.simL1 (by assumption)) | (with_reducible exact A0 _) | assumption | (simp [AC, A8, A1, A0]; done)) ?_ ?_ (fun _x _n _H _hle _hO _hb => ?_)); rotate_left 2; dsimp only [AN, AI, AM] at _hb) | ((refine Owns.app1 (by first | assumption | (exact Owns.set0 (by assumption) (by simp <;> omega) _ _) | (exact Owns.set1 (by assumption) (by simp <;> omega) (by simp <;> omega) _ _)) (.inl rfl) (by first | (exact Owns.simL0 (by assumption)) | (exact Owns.simL1 (by assumption)) | (with_reducible exact A0 _) | assumption | (simp [AC, A8, A1, A0]; done)) ?_ ?_ (fun _x _n _H _hle _hO _hb => ?_)); rotate_left 2; dsimp only [AN, AI, AM] at _hb)) | (first | (with_reducible exact Owns.fit0 (by assumption)) | (with_reducible exact Owns.fit1 (by assumption))) | (with_reducible first | exact Owns.le (by assumption) | exact Owns.same (by assumption) | refine A3 ?_ | refine KM.of ?_ | refine AG ?_ | refine A2 ?_ | refine A6 ?_ | refine A5 ?_ | refine AH ?_ | refine AA ?_ | intro _g _hg | refine AE ?_ ?_ | intro _hc) | omega)
   all_goals exact hS _
  ·rw [decide_eq_false q4, decide_eq_false q3]
   repeat' (first | (simp -implicitDefEqProofs [CE, c27, -getElem?_pos, splice, e2, e6, ex, hel, q1, q2, q3, q4, _hb]) | (simp (disch := omega) only [AF]) | (with_reducible first | refine A7 ?_ ?_ ?_ | exact AB | refine SameB.upd ?_ ?_ _ | assumption | refine A2 ?_ | refine A6 ?_) | ((with_reducible refine AY (by first | assumption | (exact Owns.set0 (by assumption) (by simp <;> omega) _ _) | (exact Owns.set1 (by assumption) (by simp <;> omega) (by simp <;> omega) _ _)) (fun _g _hg _hO => ?_)); (have _hb := And.intro _hb _hO.boxF); dsimp only [AN, AI, AM] at _hb) | ((with_reducible refine AO (by first | assumption | (exact Owns.set0 (by assumption) (by simp <;> omega) _ _) | (exact Owns.set1 (by assumption) (by simp <;> omega) (by simp <;> omega) _ _)) (fun _g _hg _hO => ?_))) | ((with_reducible refine appKS.chk ?_); first | ((refine Owns.app (by first | assumption | (exact Owns.set0 (by assumption) (by simp <;> omega) _ _) | (exact Owns.set1 (by assumption) (by simp <;> omega) (by simp <;> omega) _ _)) (.inl rfl) (by first | (exact Owns.simL0 (by assumption)) | (exact Owns.simL1 (by assumption)) | (with_reducible exact A0 _) | assumption | (simp [AC, A8, A1, A0]; done)) ?_ ?_ (fun _x _n _H _hle _hO _hb => ?_)); rotate_left 2; dsimp only [AN, AI, AM] at _hb) | ((refine Owns.app1 (by first | assumption | (exact Owns.set0 (by assumption) (by simp <;> omega) _ _) | (exact Owns.set1 (by assumption) (by simp <;> omega) (by simp <;> omega) _ _)) (.inl rfl) (by first | (exact Owns.simL0 (by assumption)) | (exact Owns.simL1 (by assumption)) | (with_reducible exact A0 _) | assumption | (simp [AC, A8, A1, A0]; done)) ?_ ?_ (fun _x _n _H _hle _hO _hb => ?_)); rotate_left 2; dsimp only [AN, AI, AM] at _hb)) | (first | (with_reducible exact Owns.fit0 (by assumption)) | (with_reducible exact Owns.fit1 (by assumption))) | (with_reducible first | exact Owns.le (by assumption) | exact Owns.same (by assumption) | refine A3 ?_ | refine KM.of ?_ | refine AG ?_ | refine A2 ?_ | refine A6 ?_ | refine A5 ?_ | refine AH ?_ | refine AA ?_ | intro _g _hg | refine AE ?_ ?_ | intro _hc) | omega)
   all_goals exact hS _
 ·have em : ET k = false := by unfold ET; simp; omega
  have et : G9 k = false := by unfold G9; simp; omega
  rw [em, et]
  rcases hlen with ⟨rfl, q1, q2⟩ | ⟨rfl, q1, q2⟩ | ⟨q3, q4, q1, q2⟩
  ·repeat' (first | (simp -implicitDefEqProofs [CE, c27, -getElem?_pos, splice, e2, e6, ex, hel, n13, n14, n15, n16, _hb]) | (simp (disch := omega) only [AF]) | (with_reducible first | refine A7 ?_ ?_ ?_ | exact AB | refine SameB.upd ?_ ?_ _ | assumption | refine A2 ?_ | refine A6 ?_) | ((with_reducible refine AY (by first | assumption | (exact Owns.set0 (by assumption) (by simp <;> omega) _ _) | (exact Owns.set1 (by assumption) (by simp <;> omega) (by simp <;> omega) _ _)) (fun _g _hg _hO => ?_)); (have _hb := And.intro _hb _hO.boxF); dsimp only [AN, AI, AM] at _hb) | ((with_reducible refine AO (by first | assumption | (exact Owns.set0 (by assumption) (by simp <;> omega) _ _) | (exact Owns.set1 (by assumption) (by simp <;> omega) (by simp <;> omega) _ _)) (fun _g _hg _hO => ?_))) | ((with_reducible refine appKS.chk ?_); first | ((refine Owns.app (by first | assumption | (exact Owns.set0 (by assumption) (by simp <;> omega) _ _) | (exact Owns.set1 (by assumption) (by simp <;> omega) (by simp <;> omega) _ _)) (.inl rfl) (by first | (exact Owns.simL0 (by assumption)) | (exact Owns.simL1 (by assumption)) | (with_reducible exact A0 _) | assumption | (simp [AC, A8, A1, A0]; done)) ?_ ?_ (fun _x _n _H _hle _hO _hb => ?_)); rotate_left 2; dsimp only [AN, AI, AM] at _hb) | ((refine Owns.app1 (by first | assumption | (exact Owns.set0 (by assumption) (by simp <;> omega) _ _) | (exact Owns.set1 (by assumption) (by simp <;> omega) (by simp <;> omega) _ _)) (.inl rfl) (by first | (exact Owns.simL0 (by assumption)) | (exact Owns.simL1 (by assumption)) | (with_reducible exact A0 _) | assumption | (simp [AC, A8, A1, A0]; done)) ?_ ?_ (fun _x _n _H _hle _hO _hb => ?_)); rotate_left 2; dsimp only [AN, AI, AM] at _hb)) | (first | (with_reducible exact Owns.fit0 (by assumption)) | (with_reducible exact Owns.fit1 (by assumption))) | (with_reducible first | exact Owns.le (by assumption) | exact Owns.same (by assumption) | refine A3 ?_ | refine KM.of ?_ | refine AG ?_ | refine A2 ?_ | refine A6 ?_ | refine A5 ?_ | refine AH ?_ | refine AA ?_ | intro _g _hg | refine AE ?_ ?_ | intro _hc) | omega)
   all_goals exact hS _
  ·repeat' (first | (simp -implicitDefEqProofs [CE, c27, -getElem?_pos, splice, e2, e6, ex, hel, n13, n14, n15, n16, _hb]) | (simp (disch := omega) only [AF]) | (with_reducible first | refine A7 ?_ ?_ ?_ | exact AB | refine SameB.upd ?_ ?_ _ | assumption | refine A2 ?_ | refine A6 ?_) | ((with_reducible refine AY (by first | assumption | (exact Owns.set0 (by assumption) (by simp <;> omega) _ _) | (exact Owns.set1 (by assumption) (by simp <;> omega) (by simp <;> omega) _ _)) (fun _g _hg _hO => ?_)); (have _hb := And.intro _hb _hO.boxF); dsimp only [AN, AI, AM] at _hb) | ((with_reducible refine AO (by first | assumption | (exact Owns.set0 (by assumption) (by simp <;> omega) _ _) | (exact Owns.set1 (by assumption) (by simp <;> omega) (by simp <;> omega) _ _)) (fun _g _hg _hO => ?_))) | ((with_reducible refine appKS.chk ?_); first | ((refine Owns.app (by first | assumption | (exact Owns.set0 (by assumption) (by simp <;> omega) _ _) | (exact Owns.set1 (by assumption) (by simp <;> omega) (by simp <;> omega) _ _)) (.inl rfl) (by first | (exact Owns.simL0 (by assumption)) | (exact Owns.simL1 (by assumption)) | (with_reducible exact A0 _) | assumption | (simp [AC, A8, A1, A0]; done)) ?_ ?_ (fun _x _n _H _hle _hO _hb => ?_)); rotate_left 2; dsimp only [AN, AI, AM] at _hb) | ((refine Owns.app1 (by first | assumption | (exact Owns.set0 (by assumption) (by simp <;> omega) _ _) | (exact Owns.set1 (by assumption) (by simp <;> omega) (by simp <;> omega) _ _)) (.inl rfl) (by first | (exact Owns.simL0 (by assumption)) | (exact Owns.simL1 (by assumption)) | (with_reducible exact A0 _) | assumption | (simp [AC, A8, A1, A0]; done)) ?_ ?_ (fun _x _n _H _hle _hO _hb => ?_)); rotate_left 2; dsimp only [AN, AI, AM] at _hb)) | (first | (with_reducible exact Owns.fit0 (by assumption)) | (with_reducible exact Owns.fit1 (by assumption))) | (with_reducible first | exact Owns.le (by assumption) | exact Owns.same (by assumption) | refine A3 ?_ | refine KM.of ?_ | refine AG ?_ | refine A2 ?_ | refine A6 ?_ | refine A5 ?_ | refine AH ?_ | refine AA ?_ | intro _g _hg | refine AE ?_ ?_ | intro _hc) | omega)
   all_goals exact hS _
  ·rw [decide_eq_false q4, decide_eq_false q3]
   repeat' (first | (simp -implicitDefEqProofs [CE, c27, -getElem?_pos, splice, e2, e6, ex, hel, n13, n14, n15, n16, q1, q2, q3, q4, _hb]) | (simp (disch := omega) only [AF]) | (with_reducible first | refine A7 ?_ ?_ ?_ | exact AB | refine SameB.upd ?_ ?_ _ | assumption | refine A2 ?_ | refine A6 ?_) | ((with_reducible refine AY (by first | assumption | (exact Owns.set0 (by assumption) (by simp <;> omega) _ _) | (exact Owns.set1 (by assumption) (by simp <;> omega) (by simp <;> omega) _ _)) (fun _g _hg _hO => ?_)); (have _hb := And.intro _hb _hO.boxF); dsimp only [AN, AI, AM] at _hb) | ((with_reducible refine AO (by first | assumption | (exact Owns.set0 (by assumption) (by simp <;> omega) _ _) | (exact Owns.set1 (by assumption) (by simp <;> omega) (by simp <;> omega) _ _)) (fun _g _hg _hO => ?_))) | ((with_reducible refine appKS.chk ?_); first | ((refine Owns.app (by first | assumption | (exact Owns.set0 (by assumption) (by simp <;> omega) _ _) | (exact Owns.set1 (by assumption) (by simp <;> omega) (by simp <;> omega) _ _)) (.inl rfl) (by first | (exact Owns.simL0 (by assumption)) | (exact Owns.simL1 (by assumption)) | (with_reducible exact A0 _) | assumption | (simp [AC, A8, A1, A0]; done)) ?_ ?_ (fun _x _n _H _hle _hO _hb => ?_)); rotate_left 2; dsimp only [AN, AI, AM] at _hb) | ((refine Owns.app1 (by first | assumption | (exact Owns.set0 (by assumption) (by simp <;> omega) _ _) | (exact Owns.set1 (by assumption) (by simp <;> omega) (by simp <;> omega) _ _)) (.inl rfl) (by first | (exact Owns.simL0 (by assumption)) | (exact Owns.simL1 (by assumption)) | (with_reducible exact A0 _) | assumption | (simp [AC, A8, A1, A0]; done)) ?_ ?_ (fun _x _n _H _hle _hO _hb => ?_)); rotate_left 2; dsimp only [AN, AI, AM] at _hb)) | (first | (with_reducible exact Owns.fit0 (by assumption)) | (with_reducible exact Owns.fit1 (by assumption))) | (with_reducible first | exact Owns.le (by assumption) | exact Owns.same (by assumption) | refine A3 ?_ | refine KM.of ?_ | refine AG ?_ | refine A2 ?_ | refine A6 ?_ | refine A5 ?_ | refine AH ?_ | refine AA ?_ | intro _g _hg | refine AE ?_ ?_ | intro _hc) | omega)
   all_goals exact hS _
theorem V0 (ps : List St) (s : St) : Ae (ps ++ [s]) = Ae ps ++ [encS s] := by rw [Oh]; simp [Ae]
theorem ZZ (k o m : Int) (h1 : 3 ≤ k) (h2 : k ≤ 16) (pr : AW → St × Bool) (args : List AW) (hal : args.length ≤ 10000) (hpr : ∀ a ∈ args, APure Tryz.prog 27 [.str a] (.tup [encS (pr a).1, .bool (pr a).2])) (n : Nat) (H : A4) (g2 g4 g6 : Nat) (hgg : n ≤ g2 ∧ g2 < g4 ∧ g4 < g6) (fr : Nat) (n1 : Nat) (H1 : A4) (z : Nat) (t : Tok) (e : AT) (_hO : Ww n H g2 g4 g6 k o m [] z t n1 H1) (e2 : get e 2 = .ptr g2 0) (e4 : get e 4 = .ptr g4 0) (e6 : get e 6 = .ptr g6 0) (e8 : get e 8 = .sl 1 (aW args) .ro) (ex : get e 10 = aI k) (ey : get e 14 = aI fr) (hfr : fr ≤ args.length) :
  aw Tryz.prog c27_k6 (D1 (.tup [encS (Qs k o m (GR pr (args.drop fr) [])).1, .bool (Qs k o m (GR pr (args.drop fr) [])).2]) n H c27.res) ⟨e, n1, H1⟩ := by
 have hwl : (aW args).length = args.length := by simp
 have hat : ∀ (i : Nat) (a : AW), args[i]? = some a → (aW args)[i]? = some (.str a) := fun i a h => by simp [h]
 generalize hav : aW args = av at *
 obtain ⟨X, hX⟩ : ∃ X, GR pr (args.drop fr) [] = X := ⟨_, rfl⟩
 rw [hX]
 
 have _hb := Owns.boxF _hO
 dsimp only [AN, AI, AM] at _hb
 repeat' (first | (simp -implicitDefEqProofs [VL, -getElem?_pos, e2, e4, e6, e8, ex, ey, _hb]) | (simp (disch := omega) only [AF]) | (with_reducible first | refine A7 ?_ ?_ ?_ | exact AB | refine SameB.upd ?_ ?_ _ | assumption | refine A2 ?_ | refine A6 ?_) | ((with_reducible refine AY (by first | assumption | (exact Owns.set0 (by assumption) (by simp <;> omega) _ _) | (exact Owns.set1 (by assumption) (by simp <;> omega) (by simp <;> omega) _ _)) (fun _g _hg _hO => ?_)); (have _hb := And.intro _hb _hO.boxF); dsimp only [AN, AI, AM] at _hb) | ((with_reducible refine AO (by first | assumption | (exact Owns.set0 (by assumption) (by simp <;> omega) _ _) | (exact Owns.set1 (by assumption) (by simp <;> omega) (by simp <;> omega) _ _)) (fun _g _hg _hO => ?_))) | ((with_reducible refine appKS.chk ?_); first | ((refine Owns.app (by first | assumption | (exact Owns.set0 (by assumption) (by simp <;> omega) _ _) | (exact Owns.set1 (by assumption) (by simp <;> omega) (by simp <;> omega) _ _)) (.inl rfl) (by first | (exact Owns.simL0 (by assumption)) | (exact Owns.simL1 (by assumption)) | (with_reducible exact A0 _) | assumption | (simp [AC, A8, A1, A0]; done)) ?_ ?_ (fun _x _n _H _hle _hO _hb => ?_)); rotate_left 2; dsimp only [AN, AI, AM] at _hb) | ((refine Owns.app1 (by first | assumption | (exact Owns.set0 (by assumption) (by simp <;> omega) _ _) | (exact Owns.set1 (by assumption) (by simp <;> omega) (by simp <;> omega) _ _)) (.inl rfl) (by first | (exact Owns.simL0 (by assumption)) | (exact Owns.simL1 (by assumption)) | (with_reducible exact A0 _) | assumption | (simp [AC, A8, A1, A0]; done)) ?_ ?_ (fun _x _n _H _hle _hO _hb => ?_)); rotate_left 2; dsimp only [AN, AI, AM] at _hb)) | (first | (with_reducible exact Owns.fit0 (by assumption)) | (with_reducible exact Owns.fit1 (by assumption))) | (with_reducible first | exact Owns.le (by assumption) | exact Owns.same (by assumption) | refine A3 ?_ | refine KM.of ?_ | refine AG ?_ | refine A2 ?_ | refine A6 ?_ | refine A5 ?_ | refine AH ?_ | refine AA ?_ | intro _g _hg | refine AE ?_ ?_ | intro _hc) | omega)
 refine LoopK.go (fun q st => ∃ (i n' : Nat) (H' : A4) (ps : List St) (z : Nat) (t : Tok), i + q = args.length ∧ ps.length ≤ i ∧ GR pr (args.drop i) ps = X ∧ st = ⟨[(2, .ptr g2 0), (4, .ptr g4 0), (6, .ptr g6 0), (8, .sl 1 av .ro), (10, aI k), (19, aI i)], n', H'⟩ ∧ Ww n H g2 g4 g6 k o m ps z t n' H') (args.length - fr) ⟨fr, _, _, [], _, _, by omega, by simp, hX, rfl, _hO⟩ ?_
 clear _hO _hb e2 e4 e6 e8 ex ey e hX
 rintro q st ⟨i, n1, H1, ps, z, t, hq, hpi, hX, rfl, _hO⟩ J hJ
 have _hb := Owns.boxF _hO
 dsimp only [AN, AI, AM] at _hb
 have hle := _hO.le
 have hel := BB ps
 by_cases hi : i < args.length
 ·obtain ⟨a, ha⟩ : ∃ a, args[i]? = some a := ⟨_, List.getElem?_eq_getElem hi⟩
  have hra := hpr a (List.mem_of_getElem? ha)
  have hav2 := hat i a ha
  have hi' : (i : Int) < args.length := by omega
  rw [Xn ha] at hX
  have hsn := V0 ps (pr a).1
  generalize (pr a).1 = y at *
  generalize (pr a).2 = b at *
  obtain ⟨k', o', m', v', p'⟩ := y
  rw [AQ] at hra hsn
  cases b with
  | false =>
   rw [if_neg (by decide)] at hX
   subst hX
   repeat' (first | (simp -implicitDefEqProofs [Mg, PY, c27, -getElem?_pos, splice, hwl, hi', hav2, _hb]) | (simp (disch := omega) only [AF]) | ((with_reducible refine AJ 27 ?_); (refine' CallP.sf ?_ (hra) ?_); (focus first | (with_reducible exact A0 _) | (exact Owns.simC0 (by assumption)) | (exact Owns.simC1 (by assumption)) | (simp [AC, A8, A1, A0]; done))) | (with_reducible first | refine A7 ?_ ?_ ?_ | exact AB | refine SameB.upd ?_ ?_ _ | assumption | refine A2 ?_ | refine A6 ?_) | ((with_reducible refine AY (by first | assumption | (exact Owns.set0 (by assumption) (by simp <;> omega) _ _) | (exact Owns.set1 (by assumption) (by simp <;> omega) (by simp <;> omega) _ _)) (fun _g _hg _hO => ?_)); (have _hb := And.intro _hb _hO.boxF); dsimp only [AN, AI, AM] at _hb) | ((with_reducible refine AO (by first | assumption | (exact Owns.set0 (by assumption) (by simp <;> omega) _ _) | (exact Owns.set1 (by assumption) (by simp <;> omega) (by simp <;> omega) _ _)) (fun _g _hg _hO => ?_))) | ((with_reducible refine appKS.chk ?_); first | ((refine Owns.app (by first | assumption | (exact Owns.set0 (by assumption) (by simp <;> omega) _ _) | (exact Owns.set1 (by assumption) (by simp <;> omega) (by simp <;> omega) _ _)) (.inl rfl) (by first | (exact Owns.simL0 (by assumption)) | (exact Owns.simL1 (by assumption)) | (with_reducible exact A0 _) | assumption | (simp [AC, A8, A1, A0]; done)) ?_ ?_ (fun _x _n _H _hle _hO _hb => ?_)); rotate_left 2; dsimp only [AN, AI, AM] at _hb) | ((refine Owns.app1 (by first | assumption | (exact Owns.set0 (by assumption) (by simp <;> omega) _ _) | (exact Owns.set1 (by assumption) (by simp <;> omega) (by simp <;> omega) _ _)) (.inl rfl) (by first | (exact Owns.simL0 (by assumption)) | (exact Owns.simL1 (by assumption)) | (with_reducible exact A0 _) | assumption | (simp [AC, A8, A1, A0]; done)) ?_ ?_ (fun _x _n _H _hle _hO _hb => ?_)); rotate_left 2; dsimp only [AN, AI, AM] at _hb)) | (first | (with_reducible exact Owns.fit0 (by assumption)) | (with_reducible exact Owns.fit1 (by assumption))) | (with_reducible first | exact Owns.le (by assumption) | exact Owns.same (by assumption) | refine A3 ?_ | refine KM.of ?_ | refine AG ?_ | refine A2 ?_ | refine A6 ?_ | refine A5 ?_ | refine AH ?_ | refine AA ?_ | intro _g _hg | refine AE ?_ ?_ | intro _hc) | omega)
   all_goals exact FW
  | true =>
   rw [if_pos rfl] at hX
   clear _hb
   unfold Ww at _hO
   generalize hep : Ae ps = ep at *
   have _hb := Owns.boxF _hO
   dsimp only [AN, AI, AM] at _hb
   repeat' (first | (simp -implicitDefEqProofs [Mg, PY, Ul, Vc, -getElem?_pos, splice, hwl, hi', hav2, _hb]) | (simp (disch := omega) only [AF]) | ((with_reducible refine appKS.chk ?_); refine Owns.appZ (by assumption) (A0 _) (by simp; omega) (by decide) (fun _z _t _n _H _hle _hO => ?_); have _hb := And.intro _hb (Owns.boxF _hO); dsimp only [AN, AI, AM] at _hb) | ((with_reducible refine AJ 27 ?_); (refine' CallP.sf ?_ (hra) ?_); (focus first | (with_reducible exact A0 _) | (exact Owns.simC0 (by assumption)) | (exact Owns.simC1 (by assumption)) | (simp [AC, A8, A1, A0]; done))) | (with_reducible first | refine A7 ?_ ?_ ?_ | exact AB | refine SameB.upd ?_ ?_ _ | assumption | refine A2 ?_ | refine A6 ?_) | ((with_reducible refine AY (by first | assumption | (exact Owns.set0 (by assumption) (by simp <;> omega) _ _) | (exact Owns.set1 (by assumption) (by simp <;> omega) (by simp <;> omega) _ _)) (fun _g _hg _hO => ?_)); (have _hb := And.intro _hb _hO.boxF); dsimp only [AN, AI, AM] at _hb) | ((with_reducible refine AO (by first | assumption | (exact Owns.set0 (by assumption) (by simp <;> omega) _ _) | (exact Owns.set1 (by assumption) (by simp <;> omega) (by simp <;> omega) _ _)) (fun _g _hg _hO => ?_))) | (first | (with_reducible exact Owns.fit0 (by assumption)) | (with_reducible exact Owns.fit1 (by assumption))) | (with_reducible first | exact Owns.le (by assumption) | exact Owns.same (by assumption) | refine A3 ?_ | refine KM.of ?_ | refine AG ?_ | refine A2 ?_ | refine A6 ?_ | refine A5 ?_ | refine AH ?_ | refine AA ?_ | intro _g _hg | refine AE ?_ ?_ | intro _hc) | omega)
   subst hep
   refine hJ (q - 1) _ (by omega) ⟨i + 1, _, _, ps ++ [.mk k' o' m' v' p'], _z, _t, by omega, by simp; omega, hX, rfl, ?_⟩
   unfold Ww
   rw [hsn]
   exact (Owns.set1 _hO (by simp; omega) (by simp; omega) _ _).dropBox
 ·have hie : i = args.length := by omega
  have hi' : ¬ (i : Int) < args.length := by omega
  rw [hie, List.drop_length, GR] at hX
  subst hX
  repeat' (first | (simp -implicitDefEqProofs [Mg, -getElem?_pos, hwl, hi', _hb]) | (simp (disch := omega) only [AF]) | (with_reducible first | refine A7 ?_ ?_ ?_ | exact AB | refine SameB.upd ?_ ?_ _ | assumption | refine A2 ?_ | refine A6 ?_) | ((with_reducible refine AY (by first | assumption | (exact Owns.set0 (by assumption) (by simp <;> omega) _ _) | (exact Owns.set1 (by assumption) (by simp <;> omega) (by simp <;> omega) _ _)) (fun _g _hg _hO => ?_)); (have _hb := And.intro _hb _hO.boxF); dsimp only [AN, AI, AM] at _hb) | ((with_reducible refine AO (by first | assumption | (exact Owns.set0 (by assumption) (by simp <;> omega) _ _) | (exact Owns.set1 (by assumption) (by simp <;> omega) (by simp <;> omega) _ _)) (fun _g _hg _hO => ?_))) | ((with_reducible refine appKS.chk ?_); first | ((refine Owns.app (by first | assumption | (exact Owns.set0 (by assumption) (by simp <;> omega) _ _) | (exact Owns.set1 (by assumption) (by simp <;> omega) (by simp <;> omega) _ _)) (.inl rfl) (by first | (exact Owns.simL0 (by assumption)) | (exact Owns.simL1 (by assumption)) | (with_reducible exact A0 _) | assumption | (simp [AC, A8, A1, A0]; done)) ?_ ?_ (fun _x _n _H _hle _hO _hb => ?_)); rotate_left 2; dsimp only [AN, AI, AM] at _hb) | ((refine Owns.app1 (by first | assumption | (exact Owns.set0 (by assumption) (by simp <;> omega) _ _) | (exact Owns.set1 (by assumption) (by simp <;> omega) (by simp <;> omega) _ _)) (.inl rfl) (by first | (exact Owns.simL0 (by assumption)) | (exact Owns.simL1 (by assumption)) | (with_reducible exact A0 _) | assumption | (simp [AC, A8, A1, A0]; done)) ?_ ?_ (fun _x _n _H _hle _hO _hb => ?_)); rotate_left 2; dsimp only [AN, AI, AM] at _hb)) | (first | (with_reducible exact Owns.fit0 (by assumption)) | (with_reducible exact Owns.fit1 (by assumption))) | (with_reducible first | exact Owns.le (by assumption) | exact Owns.same (by assumption) | refine A3 ?_ | refine KM.of ?_ | refine AG ?_ | refine A2 ?_ | refine A6 ?_ | refine A5 ?_ | refine AH ?_ | refine AA ?_ | intro _g _hg | refine AE ?_ ?_ | intro _hc) | omega)
  exact Xh k o m h1 h2 n H g2 g4 g6 hgg ps (by omega) n1 H1 z t _ _hO rfl rfl rfl
end Go.Proofs.YtjdccdelcnmocaaGreatDoor
