/- Streams: what the reference gives: two parts together; no condition. -/
import Derived.Test.YtjdccdelcnmocaaGreatDoorMdS
import Derived.Test.YtjdccdelcnmocaaGreatDoorAdG
set_option linter.all false
set_option linter.unusedSimpArgs false
set_option linter.unusedVariables false
namespace Go.Proofs.YtjdccdelcnmocaaGreatDoor
def ST (F : Fut) (i : Nat) : AZ := (tkF F).getD i []
theorem ZH (F : Fut) : (tkF F).length = F.l.length + 2 := by simp [tkF]
theorem UU (F : Fut) : ST F (F.l.length + 1) = F.fin := by
 unfold ST tkF
 rw [List.getD_eq_getElem?_getD, List.getElem?_cons_succ, List.getElem?_append_right (by simp)]
 simp
theorem RO {F : Fut} {i : Nat} {x : Int} {c : AZ} (h : F.l[i]? = some (x, c)) : ST F (i + 1) = c := by
 have hi := (List.getElem?_eq_some_iff.1 h).1
 unfold ST tkF
 rw [List.getD_eq_getElem?_getD, List.getElem?_cons_succ, List.getElem?_append_left (by simpa using hi), List.getElem?_map, h]
 rfl
theorem Yf {F : Fut} {i : Nat} (h : i ≤ F.l.length + 1) : ST F i ∈ tkF F := by
 unfold ST
 rw [List.getD_eq_getElem?_getD, List.getElem?_eq_getElem (by rw [ZH]; omega)]
 exact List.getElem_mem _
def fewF (F : Fut) : Prop := ∀ c ∈ tkF F, c.length ≤ 100
theorem fewF.at_ {F : Fut} (h : fewF F) {i : Nat} (hi : i ≤ F.l.length + 1) : (ST F i).length ≤ 100 := h _ (Yf hi)
attribute [local simp] Nr F6 Ej Lh Ke MA LY F0 Eg HW HP NA KJ Mo MQ Ml MY LL L9 N3 KY MH MN Nf Nu T7 pe Ki LQ Kx Ng Kw LB Lq Nv LZ NX Nn LI LF FP Mq Ku Mb Kp N6 MX KD Mg Mh M7 Kg Kl KZ NM LC Lc K9 LN NY NC N7 FB M6 Ei Lt N5 Nc Mx N9 KQ LJ Nt KX NQ MM NU MS L4 Nq MW Lx LE Md LD Mt L3 Ka NO Kf Eu NG Mr MD Lv LR NS NL Mv KO Kb KA NI Ma KH Lr KF N1 Mw LW NK M1 Mp LH Mj L8 LX MR MG Nh N2 LG NN List.mem_cons guardK Df Fh GG HG LO Ek EW FD FE Ep Eb F1 EY FM Mz Me Ew KT KP Nm Mn NF Kz Em Mf Ni N8 Ns KK Kj H8 Ef F8 Ex Ev M5 LU En Ms FI M3 F2 Ey MU Er FJ NP MP Lw LP L1 LT N0 Lm T8 Ji Jj ID Jk Jo Jd EL Gi Ge Ky Gm Gc EK Dd UH JV Jg GZ K4 K2 EI EJ Bv Bb Ck DF AI ev get put I1 AO Dv Lu Ko Lo MZ Nk KI FU part Bo I4 Lf I7 isNil D9 DC FT DW Cu L0 ME My MJ LV K0 MK Km KG Na KN NV Ld NZ MC K8 AV.fits AV.cells ones AV.one FZ D6 FV EV Gp Ff M4 Hg HJ D8 Bm CA EZ Hz AK Bl Vy HI MO M9 List.getElem?_cons_zero List.getElem?_cons_succ El EX FC Nb Lj Mc IJ L6 LM Kv Lp Mk L5 N4 MV KL Kt M2
def XJ (F G : Fut) : Fut := ⟨F.cur ++ G.cur, CH F.fin G.fin F.l G.l, F.fin ++ G.fin⟩
structure MerI (F G : Fut) (i k : Nat) : Prop where
 hi : i ≤ F.l.length
 hk : k ≤ G.l.length
 dr : (XJ F G).l.drop (i + k) = CH F.fin G.fin (F.l.drop i) (G.l.drop k)
theorem Js {α : Type} {l : List α} {i : Nat} {x : α} (h : l[i]? = some x) : l.drop i = x :: l.drop (i + 1) := by
 obtain ⟨h1, h2⟩ := List.getElem?_eq_some_iff.1 h
 rw [List.drop_eq_getElem_cons h1, h2]
theorem Je {α : Type} {l r : List α} {j : Nat} {x : α} (h : l.drop j = x :: r) : l.take (j + 1) = l.take j ++ [x] ∧ l.drop (j + 1) = r := by
 have h1 : l[j]? = some x := by
  have := congrArg (fun m => m[0]?) h
  simpa using this
 have h2 : l.drop (j + 1) = r := by
  have := congrArg List.tail h
  simpa using this
 exact ⟨by rw [List.take_add_one, h1]; rfl, h2⟩
theorem MerI.left {F G : Fut} {i k : Nat} (h : MerI F G i k) {x : Int} {c : AZ} (hx : F.l[i]? = some (x, c)) (hc : G.l.length ≤ k ∨ ∃ y d, G.l[k]? = some (y, d) ∧ x ≤ y) : (XJ F G).l.take (i + k + 1) = (XJ F G).l.take (i + k) ++ [(x, ST F (i + 1) ++ ST G (k + 1))] ∧ MerI F G (i + 1) k := by
 have hi := (List.getElem?_eq_some_iff.1 hx).1
 have hd := h.dr
 rw [Js hx] at hd
 have key : CH F.fin G.fin ((x, c) :: F.l.drop (i + 1)) (G.l.drop k) = (x, ST F (i + 1) ++ ST G (k + 1)) :: CH F.fin G.fin (F.l.drop (i + 1)) (G.l.drop k) := by
  rw [RO hx]
  rcases hc with hc | ⟨y, d, hy, hxy⟩
  ·have : k = G.l.length := by have := h.hk; omega
   rw [this, List.drop_length, UU, CH]
  ·rw [Js hy, RO hy, CH, if_pos hxy]
 rw [key] at hd
 obtain ⟨h1, h2⟩ := Je hd
 refine ⟨h1, by omega, h.hk, ?_⟩
 rw [← h2]; congr 1; omega
theorem MerI.right {F G : Fut} {i k : Nat} (h : MerI F G i k) {y : Int} {d : AZ} (hy : G.l[k]? = some (y, d)) (hc : F.l.length ≤ i ∨ ∃ x c, F.l[i]? = some (x, c) ∧ ¬ x ≤ y) : (XJ F G).l.take (i + k + 1) = (XJ F G).l.take (i + k) ++ [(y, ST F (i + 1) ++ ST G (k + 1))] ∧ MerI F G i (k + 1) := by
 have hk := (List.getElem?_eq_some_iff.1 hy).1
 have hd := h.dr
 rw [Js hy] at hd
 have key : CH F.fin G.fin (F.l.drop i) ((y, d) :: G.l.drop (k + 1)) = (y, ST F (i + 1) ++ ST G (k + 1)) :: CH F.fin G.fin (F.l.drop i) (G.l.drop (k + 1)) := by
  rw [RO hy]
  rcases hc with hc | ⟨x, c, hx, hxy⟩
  ·have : i = F.l.length := by have := h.hi; omega
   rw [this, List.drop_length, UU, CH]
  ·rw [Js hx, RO hx, CH, if_neg hxy]
 rw [key] at hd
 obtain ⟨h1, h2⟩ := Je hd
 exact ⟨h1, h.hi, by omega, h2⟩
def stF (Fs : List Fut) (a : List Nat) : AZ := ((Fs.zip a).map fun p => ST p.1 p.2).flatten
def atOk (Fs : List Fut) (a : List Nat) : Prop := a.length = Fs.length ∧ ∀ (i k : Nat) (F : Fut), Fs[i]? = some F → a[i]? = some k → k ≤ F.l.length + 1
abbrev aN (a : List Nat) : List AV := a.map fun (k : Nat) => aI k
abbrev atO (a : List Nat) : AObj := .cells 3 (aN a)
abbrev GivC (n : Nat) (H : A2) (g g3 g2 : Nat) (a : List Nat) (c : AZ) (d : As) (z : Nat) (t : Tok) (z2 : Nat) (t2 : Tok) (n' : Nat) (H' : A2) : Prop := Owns n H [(g, Qr (.sl z (eX d) t) (.sl z2 (eT c d) t2)), (g3, atO a), (g2, Qr DX DX)] [⟨3, 1, .sl z (eX d) t, eX d⟩, ⟨22, 1, .sl z2 (eT c d) t2, eT c d⟩] n' H'
theorem GivC.snoc {n : Nat} {H : A2} {g g3 g2 : Nat} {a : List Nat} {c : AZ} {d : As} {z : Nat} {t : Tok} {z2 : Nat} {t2 : Tok} {n' : Nat} {H' : A2} {x : Int} {c' : AZ} {ob : AObj} (h : Owns n H [(g, ob), (g3, atO a), (g2, Qr DX DX)] [⟨3, 1, .sl z (eX d ++ [aI x]) t, eX d ++ [aI x]⟩, ⟨22, 1, .sl z2 (eT c d ++ [OO c']) t2, eT c d ++ [OO c']⟩] n' H') (hne : g3 ≠ g ∧ g2 ≠ g) :
  GivC n H g g3 g2 a c (d ++ [(x, c')]) z t z2 t2 n' (upd H' g (some (Qr (.sl z (eX d ++ [aI x]) t) (.sl z2 (eT c d ++ [OO c']) t2)))) := by
 have h2 := h.set0 (by simp; exact hne) 40 [.sl z (eX d ++ [aI x]) t, .sl z2 (eT c d ++ [OO c']) t2]
 unfold GivC
 rw [UZ, Uq]
 exact h2
section
variable {n0 n : Nat} {H0 H : A2} {bs : List (Nat × AObj)} {os : List OwnR} {d : Option Nat} {e : AW} {K : AS → Prop} {el m : Nat} {z : AV}
end
def W4 (i L : Nat) : List Nat := (List.range L).drop i ++ (List.range L).take i
def cyT (i L : Nat) : List Nat := (List.range L).drop (i + 1) ++ (List.range L).take i
theorem XR {i L : Nat} (h : i < L) : W4 i L = i :: cyT i L := by
 unfold W4 cyT
 rw [List.drop_eq_getElem_cons (by simpa using h), List.getElem_range]; rfl
theorem Y6 {i L : Nat} (h : i < L) : W4 ((i + 1) % L) L = cyT i L ++ [i] := by
 have e : (List.range L).take (i + 1) = (List.range L).take i ++ [i] := by
  rw [List.take_add_one, List.getElem?_range h]; rfl
 unfold W4 cyT
 by_cases hl : i + 1 < L
 ·rw [Nat.mod_eq_of_lt hl, e, List.append_assoc]
 ·have : L = i + 1 := by omega
  subst this
  rw [Nat.mod_self, List.drop_zero, List.take_zero, List.append_nil, List.drop_eq_nil_of_le (by simp), List.nil_append, ← e, List.take_of_length_le (by simp)]
def tqA (Fs : List Fut) (a : List Nat) (j : Nat) : Option (Nat × As × AZ) := match Fs[j]? with
 | none => none
 | some F => if a.getD j 0 ≤ F.l.length then some (j, F.l.drop (a.getD j 0), F.fin) else none
def WE (Fs : List Fut) (a : List Nat) (l : List Nat) : List (Nat × As × AZ) := l.filterMap (tqA Fs a)
def tcL (Fs : List Fut) (a : List Nat) : List AZ := (Fs.zip a).map fun p => ST p.1 p.2
def tmL (Fs : List Fut) (a : List Nat) : Nat := ((Fs.zip a).map fun p => p.1.l.length + 1 - p.2).sum
structure TurI (Fs : List Fut) (i : Nat) (a : List Nat) (d : As) : Prop where
 ok : atOk Fs a
 l : (Ix Fs).l = d ++ (ES (tmL Fs a) (WE Fs a (W4 i Fs.length)) (tcL Fs a)).1
 fin : (Ix Fs).fin = (ES (tmL Fs a) (WE Fs a (W4 i Fs.length)) (tcL Fs a)).2.flatten
section
variable {Fs : List Fut} {i : Nat} {a : List Nat} {d : As} {F : Fut} {k : Nat}
theorem TurI.head (hF : Fs[i]? = some F) (hk : a[i]? = some k) : WE Fs a (W4 i Fs.length) = (if k ≤ F.l.length then [(i, F.l.drop k, F.fin)] else []) ++ WE Fs a (cyT i Fs.length) := by
 have hi := (List.getElem?_eq_some_iff.1 hF).1
 have e : a.getD i 0 = k := by rw [List.getD_eq_getElem?_getD, hk]; rfl
 rw [XR hi]
 unfold WE
 rw [List.filterMap_cons]
 unfold tqA
 rw [hF]
 dsimp only
 rw [e]
 split <;> rename_i h <;> split at h <;> simp_all
theorem TurI.tail (hF : Fs[i]? = some F) (hk : a[i]? = some k) : WE Fs a (W4 ((i + 1) % Fs.length) Fs.length) = WE Fs a (cyT i Fs.length) ++ (if k ≤ F.l.length then [(i, F.l.drop k, F.fin)] else []) := by
 have hi := (List.getElem?_eq_some_iff.1 hF).1
 have e : a.getD i 0 = k := by rw [List.getD_eq_getElem?_getD, hk]; rfl
 rw [Y6 hi]
 unfold WE
 rw [List.filterMap_append, List.filterMap_cons]
 congr 1
 unfold tqA
 rw [hF]
 dsimp only
 rw [e]
 split <;> rename_i h <;> split at h <;> simp_all
theorem TurI.skip (h : TurI Fs i a d) (hF : Fs[i]? = some F) (hk : a[i]? = some k) (hlt : F.l.length < k) : TurI Fs ((i + 1) % Fs.length) a d ∧ WE Fs a (W4 ((i + 1) % Fs.length) Fs.length) = WE Fs a (W4 i Fs.length) := by
 have e : WE Fs a (W4 ((i + 1) % Fs.length) Fs.length) = WE Fs a (W4 i Fs.length) := by
  rw [TurI.head hF hk, TurI.tail hF hk, if_neg (by omega)]; simp
 exact ⟨⟨h.ok, by rw [e]; exact h.l, by rw [e]; exact h.fin⟩, e⟩
theorem WJ (m : Nat) (cs : List AZ) : ES m [] cs = ([], cs) := by cases m <;> rfl
theorem TurI.done (h : TurI Fs i a d) (h0 : (WE Fs a (W4 i Fs.length)).length = 0) : d = (Ix Fs).l ∧ stF Fs a = (Ix Fs).fin := by
 have e := List.length_eq_zero_iff.1 h0
 have hl := h.l
 have hf := h.fin
 rw [e, WJ] at hl hf
 exact ⟨by rw [hl]; simp, by rw [hf]; rfl⟩
end
end Go.Proofs.YtjdccdelcnmocaaGreatDoor
