/- Streams: what the reference gives: two parts together; no condition. -/
import Derived.Test.YtjdccdelcnmocaaGreatDoorMdS
import Derived.Test.YtjdccdelcnmocaaGreatDoorAdG
set_option linter.all false
set_option linter.unusedSimpArgs false
set_option linter.unusedVariables false
namespace Go.Proofs.YtjdccdelcnmocaaGreatDoor
def SO (F : Fut) (i : Nat) : Ai := (tkF F).getD i []
theorem XY (F : Fut) : (tkF F).length = F.l.length + 2 := by simp [tkF]
theorem UI (F : Fut) : SO F (F.l.length + 1) = F.fin := by
 unfold SO tkF
 rw [List.getD_eq_getElem?_getD, List.getElem?_cons_succ, List.getElem?_append_right (by simp)]
 simp
theorem Qb {F : Fut} {i : Nat} {x : Int} {c : Ai} (h : F.l[i]? = some (x, c)) : SO F (i + 1) = c := by
 have hi := (List.getElem?_eq_some_iff.1 h).1
 unfold SO tkF
 rw [List.getD_eq_getElem?_getD, List.getElem?_cons_succ, List.getElem?_append_left (by simpa using hi), List.getElem?_map, h]
 rfl
theorem XX {F : Fut} {i : Nat} (h : i ≤ F.l.length + 1) : SO F i ∈ tkF F := by
 unfold SO
 rw [List.getD_eq_getElem?_getD, List.getElem?_eq_getElem (by rw [XY]; omega)]
 exact List.getElem_mem _
def fewF (F : Fut) : Prop := ∀ c ∈ tkF F, c.length ≤ 100
theorem fewF.at_ {F : Fut} (h : fewF F) {i : Nat} (hi : i ≤ F.l.length + 1) : (SO F i).length ≤ 100 := h _ (XX hi)
attribute [local simp] Kz De DC Kv Lp Je Jw Dj DK Fe Fi KJ JN LL KL Ig JX Ix L9 Kn K6 Kk LJ K3 Ji RM pe KK Io Iu JW JI Kf Ir L7 Jx LH J5 L8 Is DT J0 Ju Jg Ih Li Lf K5 KN Js LO Ks LC La Im Ip Ln JQ Kt Jt JF L4 DG Lv DY Kq JZ Ky LB LG Lk KH JM LE Jr LF KA JU L0 JY JB Lo JJ Ly Jl Lm Ik Jm Jf Kw DJ KO Lj JG Ld Jn Lh Kj J9 Kp Kb Lc K2 KE LR Il Lq JC L3 Km JR Lz Jd LN L2 M1 LM Lr KG Iv JO L1 LK List.mem_cons guardK CR Ez F6 Fa Lx DX DF DL Dd DP DM DN Dh D9 M0 Ki Dg KF LP JV Jp Kc K8 DR KX LV J1 JA LW LQ Fj DQ DS DH DA Lw Ja DW Ii DD L6 Db DE Ku DO DU LZ LD KR Lg Kl J7 L5 J4 RL IR IV Gt IN IS IL Cx FB FA KV FC F8 Cv CY Sc IH II F9 IK IT D0 D4 Bg BG C3 CK Ar ev get put GQ AP Cr Jc K4 Kd LI JT Jh EF part BZ HA Jy Gx isNil CA CG EL CQ C1 Kx JP J3 KI Iq IF Ij JE Jo LU Jq Jv K7 Jz KZ Iz AV.fits AV.cells ones AV.one EK CD EE E2 FV ES Ll GB Fy CH Br C5 F3 Gg AX BY TO Fc Ko Ie List.getElem?_cons_zero List.getElem?_cons_succ Dc Df Di J8 Kg Ls H9 It Kh JK KD Ke LT JH Lu Iw LY JD
def Wq (F G : Fut) : Fut := ⟨F.cur ++ G.cur, DB F.fin G.fin F.l G.l, F.fin ++ G.fin⟩
structure MerI (F G : Fut) (i k : Nat) : Prop where
 hi : i ≤ F.l.length
 hk : k ≤ G.l.length
 dr : (Wq F G).l.drop (i + k) = DB F.fin G.fin (F.l.drop i) (G.l.drop k)
theorem Fd {α : Type} {l : List α} {i : Nat} {x : α} (h : l[i]? = some x) : l.drop i = x :: l.drop (i + 1) := by
 obtain ⟨h1, h2⟩ := List.getElem?_eq_some_iff.1 h
 rw [List.drop_eq_getElem_cons h1, h2]
theorem M7 {α : Type} {l r : List α} {j : Nat} {x : α} (h : l.drop j = x :: r) : l.take (j + 1) = l.take j ++ [x] ∧ l.drop (j + 1) = r := by
 have h1 : l[j]? = some x := by
  have := congrArg (fun m => m[0]?) h
  simpa using this
 have h2 : l.drop (j + 1) = r := by
  have := congrArg List.tail h
  simpa using this
 exact ⟨by rw [List.take_add_one, h1]; rfl, h2⟩
theorem MerI.left {F G : Fut} {i k : Nat} (h : MerI F G i k) {x : Int} {c : Ai} (hx : F.l[i]? = some (x, c)) (hc : G.l.length ≤ k ∨ ∃ y d, G.l[k]? = some (y, d) ∧ x ≤ y) : (Wq F G).l.take (i + k + 1) = (Wq F G).l.take (i + k) ++ [(x, SO F (i + 1) ++ SO G (k + 1))] ∧ MerI F G (i + 1) k := by
 have hi := (List.getElem?_eq_some_iff.1 hx).1
 have hd := h.dr
 rw [Fd hx] at hd
 have key : DB F.fin G.fin ((x, c) :: F.l.drop (i + 1)) (G.l.drop k) = (x, SO F (i + 1) ++ SO G (k + 1)) :: DB F.fin G.fin (F.l.drop (i + 1)) (G.l.drop k) := by
  rw [Qb hx]
  rcases hc with hc | ⟨y, d, hy, hxy⟩
  ·have : k = G.l.length := by have := h.hk; omega
   rw [this, List.drop_length, UI, DB]
  ·rw [Fd hy, Qb hy, DB, if_pos hxy]
 rw [key] at hd
 obtain ⟨h1, h2⟩ := M7 hd
 refine ⟨h1, by omega, h.hk, ?_⟩
 rw [← h2]; congr 1; omega
theorem MerI.right {F G : Fut} {i k : Nat} (h : MerI F G i k) {y : Int} {d : Ai} (hy : G.l[k]? = some (y, d)) (hc : F.l.length ≤ i ∨ ∃ x c, F.l[i]? = some (x, c) ∧ ¬ x ≤ y) : (Wq F G).l.take (i + k + 1) = (Wq F G).l.take (i + k) ++ [(y, SO F (i + 1) ++ SO G (k + 1))] ∧ MerI F G i (k + 1) := by
 have hk := (List.getElem?_eq_some_iff.1 hy).1
 have hd := h.dr
 rw [Fd hy] at hd
 have key : DB F.fin G.fin (F.l.drop i) ((y, d) :: G.l.drop (k + 1)) = (y, SO F (i + 1) ++ SO G (k + 1)) :: DB F.fin G.fin (F.l.drop i) (G.l.drop (k + 1)) := by
  rw [Qb hy]
  rcases hc with hc | ⟨x, c, hx, hxy⟩
  ·have : i = F.l.length := by have := h.hi; omega
   rw [this, List.drop_length, UI, DB]
  ·rw [Fd hx, Qb hx, DB, if_neg hxy]
 rw [key] at hd
 obtain ⟨h1, h2⟩ := M7 hd
 exact ⟨h1, h.hi, by omega, h2⟩
def stF (Fs : List Fut) (a : List Nat) : Ai := ((Fs.zip a).map fun p => SO p.1 p.2).flatten
def atOk (Fs : List Fut) (a : List Nat) : Prop := a.length = Fs.length ∧ ∀ (i k : Nat) (F : Fut), Fs[i]? = some F → a[i]? = some k → k ≤ F.l.length + 1
theorem Owns.set1 {n0 n : Nat} {H0 H : A4} {bs : List (Nat × AObj)} {os : List OwnR} {b0 : Nat × AObj} {g : Nat} {ob : AObj} (h : Owns n0 H0 (b0 :: (g, ob) :: bs) os n H) (h0 : b0.1 ≠ g) (hne : ∀ b ∈ bs, b.1 ≠ g) (e : TypeId) (cs : List AV) : Owns n0 H0 (b0 :: (g, .cells e cs) :: bs) os n (upd H g (some (.cells e cs))) := by
 have h1 : Owns n0 H0 ((g, ob) :: b0 :: bs) os n H := ⟨h.mem, fun b hb => h.box b (by simp at hb ⊢; rcases hb with h | h | h <;> simp [h]), h.row, h.apart⟩
 have h2 := h1.set0 (by intro b hb; rcases List.mem_cons.1 hb with rfl | hb; exact h0; exact hne b hb) e cs
 exact ⟨h2.mem, fun b hb => h2.box b (by simp at hb ⊢; rcases hb with h | h | h <;> simp [h]), h2.row, h2.apart⟩
abbrev aN (a : List Nat) : List AV := a.map fun (k : Nat) => aI k
abbrev atO (a : List Nat) : AObj := .cells 3 (aN a)
abbrev GivC (n : Nat) (H : A4) (g g3 g2 : Nat) (a : List Nat) (c : Ai) (d : Bc) (z : Nat) (t : Tok) (z2 : Nat) (t2 : Tok) (n' : Nat) (H' : A4) : Prop := Owns n H [(g, RI (.sl z (eX d) t) (.sl z2 (eT c d) t2)), (g3, atO a), (g2, RI Bv Bv)] [⟨3, 1, .sl z (eX d) t, eX d⟩, ⟨22, 1, .sl z2 (eT c d) t2, eT c d⟩] n' H'
theorem GivC.snoc {n : Nat} {H : A4} {g g3 g2 : Nat} {a : List Nat} {c : Ai} {d : Bc} {z : Nat} {t : Tok} {z2 : Nat} {t2 : Tok} {n' : Nat} {H' : A4} {x : Int} {c' : Ai} {ob : AObj} (h : Owns n H [(g, ob), (g3, atO a), (g2, RI Bv Bv)] [⟨3, 1, .sl z (eX d ++ [aI x]) t, eX d ++ [aI x]⟩, ⟨22, 1, .sl z2 (eT c d ++ [P3 c']) t2, eT c d ++ [P3 c']⟩] n' H') (hne : g3 ≠ g ∧ g2 ≠ g) :
  GivC n H g g3 g2 a c (d ++ [(x, c')]) z t z2 t2 n' (upd H' g (some (RI (.sl z (eX d ++ [aI x]) t) (.sl z2 (eT c d ++ [P3 c']) t2)))) := by
 have h2 := h.set0 (by simp; exact hne) 40 [.sl z (eX d ++ [aI x]) t, .sl z2 (eT c d ++ [P3 c']) t2]
 unfold GivC
 rw [Tr, UY]
 exact h2
section
variable {n0 n : Nat} {H0 H : A4} {bs : List (Nat × AObj)} {os : List OwnR} {d : Option Nat} {e : AT} {K : AS → Prop} {el m : Nat} {z : AV}
end
def Ux (i L : Nat) : List Nat := (List.range L).drop i ++ (List.range L).take i
def cyT (i L : Nat) : List Nat := (List.range L).drop (i + 1) ++ (List.range L).take i
theorem XB {i L : Nat} (h : i < L) : Ux i L = i :: cyT i L := by
 unfold Ux cyT
 rw [List.drop_eq_getElem_cons (by simpa using h), List.getElem_range]; rfl
theorem WK {i L : Nat} (h : i < L) : Ux ((i + 1) % L) L = cyT i L ++ [i] := by
 have e : (List.range L).take (i + 1) = (List.range L).take i ++ [i] := by
  rw [List.take_add_one, List.getElem?_range h]; rfl
 unfold Ux cyT
 by_cases hl : i + 1 < L
 ·rw [Nat.mod_eq_of_lt hl, e, List.append_assoc]
 ·have : L = i + 1 := by omega
  subst this
  rw [Nat.mod_self, List.drop_zero, List.take_zero, List.append_nil, List.drop_eq_nil_of_le (by simp), List.nil_append, ← e, List.take_of_length_le (by simp)]
def tqA (Fs : List Fut) (a : List Nat) (j : Nat) : Option (Nat × Bc × Ai) := match Fs[j]? with
 | none => none
 | some F => if a.getD j 0 ≤ F.l.length then some (j, F.l.drop (a.getD j 0), F.fin) else none
def Va (Fs : List Fut) (a : List Nat) (l : List Nat) : List (Nat × Bc × Ai) := l.filterMap (tqA Fs a)
def tcL (Fs : List Fut) (a : List Nat) : List Ai := (Fs.zip a).map fun p => SO p.1 p.2
def tmL (Fs : List Fut) (a : List Nat) : Nat := ((Fs.zip a).map fun p => p.1.l.length + 1 - p.2).sum
structure TurI (Fs : List Fut) (i : Nat) (a : List Nat) (d : Bc) : Prop where
 ok : atOk Fs a
 l : (Qv Fs).l = d ++ (HF (tmL Fs a) (Va Fs a (Ux i Fs.length)) (tcL Fs a)).1
 fin : (Qv Fs).fin = (HF (tmL Fs a) (Va Fs a (Ux i Fs.length)) (tcL Fs a)).2.flatten
section
variable {Fs : List Fut} {i : Nat} {a : List Nat} {d : Bc} {F : Fut} {k : Nat}
theorem TurI.head (hF : Fs[i]? = some F) (hk : a[i]? = some k) : Va Fs a (Ux i Fs.length) = (if k ≤ F.l.length then [(i, F.l.drop k, F.fin)] else []) ++ Va Fs a (cyT i Fs.length) := by
 have hi := (List.getElem?_eq_some_iff.1 hF).1
 have e : a.getD i 0 = k := by rw [List.getD_eq_getElem?_getD, hk]; rfl
 rw [XB hi]
 unfold Va
 rw [List.filterMap_cons]
 unfold tqA
 rw [hF]
 dsimp only
 rw [e]
 split <;> rename_i h <;> split at h <;> simp_all
theorem TurI.tail (hF : Fs[i]? = some F) (hk : a[i]? = some k) : Va Fs a (Ux ((i + 1) % Fs.length) Fs.length) = Va Fs a (cyT i Fs.length) ++ (if k ≤ F.l.length then [(i, F.l.drop k, F.fin)] else []) := by
 have hi := (List.getElem?_eq_some_iff.1 hF).1
 have e : a.getD i 0 = k := by rw [List.getD_eq_getElem?_getD, hk]; rfl
 rw [WK hi]
 unfold Va
 rw [List.filterMap_append, List.filterMap_cons]
 congr 1
 unfold tqA
 rw [hF]
 dsimp only
 rw [e]
 split <;> rename_i h <;> split at h <;> simp_all
theorem TurI.skip (h : TurI Fs i a d) (hF : Fs[i]? = some F) (hk : a[i]? = some k) (hlt : F.l.length < k) : TurI Fs ((i + 1) % Fs.length) a d ∧ Va Fs a (Ux ((i + 1) % Fs.length) Fs.length) = Va Fs a (Ux i Fs.length) := by
 have e : Va Fs a (Ux ((i + 1) % Fs.length) Fs.length) = Va Fs a (Ux i Fs.length) := by
  rw [TurI.head hF hk, TurI.tail hF hk, if_neg (by omega)]; simp
 exact ⟨⟨h.ok, by rw [e]; exact h.l, by rw [e]; exact h.fin⟩, e⟩
theorem V5 (m : Nat) (cs : List Ai) : HF m [] cs = ([], cs) := by cases m <;> rfl
theorem TurI.done (h : TurI Fs i a d) (h0 : (Va Fs a (Ux i Fs.length)).length = 0) : d = (Qv Fs).l ∧ stF Fs a = (Qv Fs).fin := by
 have e := List.length_eq_zero_iff.1 h0
 have hl := h.l
 have hf := h.fin
 rw [e, V5] at hl hf
 exact ⟨by rw [hl]; simp, by rw [hf]; rfl⟩
end
end Go.Proofs.YtjdccdelcnmocaaGreatDoor
