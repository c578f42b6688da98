/- Streams: Fuse; no condition. -/
import Derived.Test.YtjdccdelcnmocaaGreatDoorMgJ
import Derived.Test.YtjdccdelcnmocaaGreatDoorMdQ
import Derived.Test.YtjdccdelcnmocaaGreatDoorMdK
import Derived.Test.YtjdccdelcnmocaaGreatDoorMdO
set_option linter.all false
set_option linter.unusedSimpArgs false
set_option linter.unusedVariables false
set_option maxHeartbeats 4000000
namespace Go.Proofs.YtjdccdelcnmocaaGreatDoor
theorem Lr : ∀ {a b : List St}, Lv a → Lv b → Lv (a ++ b)
 | [], _, _, h => h
 | _ :: _, _, h, k => ⟨h.1, Lr h.2 k⟩
theorem Ob : ∀ {p : List St}, Lv p → Lv (Co p)
 | [], _ => trivial
 | q :: r, h => by
  have e : Co (q :: r) = (if q.k = 13 then q.p else [q]) ++ Co r := rfl
  rw [e]
  split
  ·obtain ⟨k, o, n, v, p⟩ := q; exact Lr h.1.2.2 (Ob h.2)
  ·exact Lr (a := [q]) ⟨h.1, trivial⟩ (Ob h.2)
theorem Xk {s t : St} (hs : Cy s) (hz : Ab s ≤ 60) (h : GP s = some t) : Cy t := by
 obtain ⟨k, o, n, v, p⟩ := s
 simp only [GP] at h
 split at h
 ·rename_i t' hu
  injection h with h; subst h
  unfold K7 at hu
  split at hu
  ·split at hu
   ·injection hu with hu; subst hu; exact hs.2.2.1
   ·cases hu
  ·cases hu
 ·split at h
  ·rename_i t' hu
   injection h with h; subst h
   unfold JQ at hu
   split at hu
   ·split at hu
    ·obtain ⟨j, hj, rfl⟩ := Option.map_eq_some_iff.1 hu
     exact hs.2.2.1
    ·cases hu
   ·cases hu
  ·unfold LJ at h
   split at h
   ·injection h with h; subst h
    have h1 := (Kv p).1
    have h2 := Bz (Co p)
    simp only [Ab] at hz
    exact ⟨hs.1, by omega, Ob hs.2.2⟩
   ·cases h
def GoodS (s : St) : Prop := Cy s ∧ HE s ∧ Ks s ∧ Ab s ≤ 60
theorem Mm (t t' : St) (h : GoodS t) (e : GP t = some t') : GoodS t' ∧ Ab t' < Ab t := by
 obtain ⟨h1, h2, h3, h4⟩ := h
 obtain ⟨a, b, c⟩ := US h2 h3 e
 have := LY e
 exact ⟨⟨Xk h1 h4 e, a, b, by omega⟩, this⟩
theorem KH (k o n : Int) (v : List Int) (p : List St) (h : GoodS (.mk k o n v p)) (x : St) (hx : x ∈ p) : GoodS x := by
 obtain ⟨h1, h2, h3, h4⟩ := h
 have := Dc x hx
 simp only [Ab] at h4
 exact ⟨Cq h1.2.2 x hx, De h2.2 x hx, Gf h3.2 x hx, by omega⟩
theorem Ui : ∀ (n : Nat) {s : St}, GoodS s → GoodS (Kx n s)
 | 0, _, h => h
 | n + 1, s, h => by
  simp only [Kx]
  split
  ·rename_i t e; exact Ui n (Mm s t h e).1
  ·exact h
theorem Rq (k o n : Int) (v : List Int) (p : List St) (h : GoodS (.mk k o n v p)) (ih : ∀ x ∈ p, GoodS x → GoodS (FZ x)) : GoodS (.mk k o n v (EI p)) := by
 have hp := KH k o n v p h
 obtain ⟨h1, h2, h3, h4⟩ := h
 obtain ⟨a, b, c⟩ := A0o h2 h3
 have hl : (EI p).length = p.length := by simp [Et]
 have hf : ∀ r : List St, (∀ x ∈ r, x ∈ p) → Lv (EI r) := by
  intro r
  induction r with
  | nil => intro _; exact trivial
  | cons x r ihr => intro hs; exact ⟨(ih x (hs x List.mem_cons_self) (hp x (hs x List.mem_cons_self))).1, ihr fun y hy => hs y (List.mem_cons_of_mem _ hy)⟩
 exact ⟨⟨h1.1, by rw [hl]; exact h1.2.1, hf p fun x hx => hx⟩, a, b, by omega⟩
theorem SV (s : St) : GoodS s → GoodS (FZ s) := by
 refine St.ind (Q := fun s => GoodS s → GoodS (FZ s)) ?_ s
 intro k o n v p ih h
 exact Ui _ (Rq k o n v p h ih)
theorem XO (s : St) : GoodS s → VD s := by
 refine St.ind (Q := fun s => GoodS s → VD s) ?_ s
 intro k o n v p ih h
 have hp := KH k o n v p h
 obtain ⟨h1, h2, h3, h4⟩ := h
 have hN := C8 h2.1
 have hl := Bz p
 simp only [Ab] at h4
 have hv : v.length ≤ 1000000 := by
  by_cases k1 : k = 1
  ·subst k1
   have := h3.1
   simp only [AW, CB, if_true] at this; omega
  ·by_cases k2 : k = 2
   ·rw [hN.rng k2]; omega
   ·rw [hN.nov k1 k2]; simp
 have hf : ∀ r : List St, (∀ x ∈ r, x ∈ p) → ZE r := by
  intro r
  induction r with
  | nil => intro _; exact trivial
  | cons x r ihr => intro hs; exact ⟨ih x (hs x List.mem_cons_self) (hp x (hs x List.mem_cons_self)), ihr fun y hy => hs y (List.mem_cons_of_mem _ hy)⟩
 exact ⟨hv, by omega, hf p fun x hx => hx⟩
def A09 (s : St) : St := if (Eg s).1 = 0 then FZ s else .mk 0 0 0 [] []
attribute [local simp] Nt GX Gy PR NX Pd OR GG Gx I1 JS Qp Q2 PM RE QS Qq P7 RI Nb No Qt Np Qo QJ WK pe PO Pu Pe R3 QU RG Qh PB Oj Nj NF Nm Qz Gv Pp NY PV Ox NJ Pn OY QT Qy QR R9 PJ Ow Q9 Ot Pg PH O7 Pz NO RA GQ OV H7 OS Nd PG PT Ou Nk Og Qx RD Pf NZ RF PL PX R4 OZ Nc Qs NT Oh Pw P6 R6 Q5 NK Gr PA Q4 Qb OP NM P4 Qn P3 Oq OC PI OG Q8 Ni Nh Q3 Nr ON Qr P1 P5 Ov Nw QQ QO Pc NV PC Px R2 K6 OM List.mem_cons guardK FJ Fz Gu J5 O5 Gk Ge Gz Gj H8 GY GO GV H5 PD QM Gg PZ Oy OB O4 Nv QK GU P2 OQ Ql QP O9 R8 J0 Gq Gn Gm Gs RC Pr H6 Ns Gl Nq GS Gd NQ GL Gp Ok O6 Pa Na PK QD Q7 PU WJ MC MV JD MF MB MU Fe I3 I6 O0 Hz I4 Fd FD YP ME M8 I8 M9 MW El EL C6 Bo Cu EA AH ev get put Fa AN EK QA OI OA QC MH Od FW part BS IH RB Hx isNil Df EC Ep EG EE OW Oc NH OL Ng ML Pk PY Q6 Nf Qc Qv Of Ps OD Pi AV.fits AV.cells ones AV.one FF DC FI EF Fg FS Po Fk GZ Cz Br CH Er Gw AX Bq ZY J8 Oz PP List.getElem?_cons_zero List.getElem?_cons_succ Gc GJ Ga OE OX QB IB Qd Pj Qm Qf Pb QI QL Pq Nz Oa Nu
theorem YM (s : St) (hf : Cy s) : APure Tryz.prog 34 [encS s] (.tup [encS (A09 s), aF (Eg s)]) := by
 have hv := ID s hf
 have hok : (Eg s).1 = 0 → Eg s = (0, 0) ∧ GoodS s := fun h => by obtain ⟨a, b, c, d⟩ := J3 h; exact ⟨a, hf, b, c, d⟩
 have hcl := fun hs => Yv s (XO s hs)
 have hfu := fun hs => Yf Mm (fun t h => Z3 t h.1 h.2.1 h.2.2.1 h.2.2.2) KH (fun k o n v p h => Rq k o n v p h fun x _ hx => SV x hx) (fun k o n v p h => by have := Bz p; have h4 := h.2.2.2; simp only [Ab] at h4; omega) s hs
 unfold A09
 by_cases h0 : (Eg s).1 = 0
 ·rw [if_pos h0]
  obtain ⟨h1, hg⟩ := hok h0
  have hfu := hfu hg
  have hcl := hcl hg
  rw [h1] at hv ⊢
  obtain ⟨k, o, m, v, p⟩ := s
  obtain ⟨k', o', m', v', p', hfx⟩ : ∃ k' o' m' v' p', FZ (.mk k o m v p) = .mk k' o' m' v' p' := by
   cases FZ (.mk k o m v p) with | mk a b c d e => exact ⟨_, _, _, _, _, rfl⟩
  rw [hfx, AF, AF]
  rw [AF] at hv hcl
  
  refine A7 Tryz.func34 Zs rfl fun n H hH => ?_
  repeat' (first | (simp -implicitDefEqProofs [Ma, c34, -getElem?_pos, splice]) | (simp (disch := omega) only [AA]) | ((with_reducible refine Aa 15 ?_); (refine' CallP.sf ?_ (hv) ?_); (focus first | (with_reducible exact A2 _) | (simp [AQ, AM, A5, A2]; done))) | (with_reducible first | refine A6 ?_ ?_ ?_ | exact AC | assumption | refine A0 ?_ | refine KM.of ?_ | refine AB ?_ | refine A1 ?_ | refine A4 ?_ | intro _g _hg | refine AD ?_ ?_ | intro _hc) | omega)
  rename_i g1 hg1 g2 hg2 g3 hg3
  rename Nat => g4
  refine ⟨_, hcl _ _, ?_⟩
  rintro r n1 H1 hle hsup ⟨hs1, bs, m1, nd, rg⟩
  dsimp only at hle hs1 rg
  repeat' (first | (simp -implicitDefEqProofs [-getElem?_pos]) | (simp (disch := omega) only [AA]) | (with_reducible first | refine A6 ?_ ?_ ?_ | exact AC | assumption | refine A0 ?_ | refine KM.of ?_ | refine AB ?_ | refine A1 ?_ | refine A4 ?_ | intro _g _hg | refine AD ?_ ?_ | intro _hc) | omega)
  refine ⟨_, hfu _ _ r bs m1 nd (fun g hg => (rg g hg).2), ?_⟩
  rintro r2 n2 H2 hle2 hsup2 ⟨rfl, hfr⟩
  dsimp only at hle2 hfr
  rw [hfx, AF]
  have hb : ∀ a, a < g4 + 1 → H2 a = _ := fun a ha => (hfr a (by omega) (fun h => by have := rg a h; omega)).trans (hs1 a ha)
  have w2 := hb g2 (by omega)
  have w3 := hb g3 (by omega)
  simp (disch := omega) only [upd_ne, AX] at w2 w3
  have hng : g2 ≠ g3 := by omega
  repeat' (first | (simp -implicitDefEqProofs [-getElem?_pos, w2, w3, hng, splice]) | (simp (disch := omega) only [AA]) | (with_reducible first | refine A6 ?_ ?_ ?_ | exact AC | assumption | refine A0 ?_ | refine KM.of ?_ | refine AB ?_ | refine A1 ?_ | refine A4 ?_ | intro _g _hg | refine AD ?_ ?_ | intro _hc) | omega)
  all_goals first | exact A5 _ | (intro a ha; simp (disch := omega) only [upd_ne]; rw [hb a (by omega)]; simp (disch := omega) only [upd_ne])
 ·rw [if_neg h0]
  clear hfu hcl hok
  generalize Eg s = f at *
  obtain ⟨k, o, m, v, p⟩ := s
  rw [AF] at hv ⊢
  rw [AF]
  
  refine A7 Tryz.func34 Zs rfl fun n H hH => ?_
  repeat' (first | (simp -implicitDefEqProofs [Ma, c34, -getElem?_pos, h0, splice]) | (simp (disch := omega) only [AA]) | ((with_reducible refine Aa 15 ?_); (refine' CallP.sf ?_ (hv) ?_); (focus first | (with_reducible exact A2 _) | (simp [AQ, AM, A5, A2]; done))) | (with_reducible first | refine A6 ?_ ?_ ?_ | exact AC | assumption | refine A0 ?_ | refine KM.of ?_ | refine AB ?_ | refine A1 ?_ | refine A4 ?_ | intro _g _hg | refine AD ?_ ?_ | intro _hc) | omega)
  all_goals first | (intro a ha; simp (disch := omega) only [upd_ne]; done) | exact S4 (Aj (JL (Aj (A5 _) (Aj (A5 _) (Aj (A5 _) (Aj J9 (Aj J9 (A2 _))))))) (A2 _))
abbrev A1f (k o m : Int) (a b : AV) : AObj := .cells 25 [aI k, aI o, aI m, a, b]
theorem Tt (a b : List Int) (ha : a.length ≤ 140737488355328) : APure Tryz.prog 22 [.sl 1 (a.map aI) .ro, .sl 1 (b.map aI) .ro] (.bool (decide (a = b))) := by
 have hal : (a.map aI).length = a.length := by simp
 have hbl : (b.map aI).length = b.length := by simp
 by_cases hl : a.length = b.length
 ·have hl' : (a.length : Int) = b.length := by omega
  
  refine A7 Tryz.func22 Zn rfl fun n H hH => ?_
  repeat' (first | (simp -implicitDefEqProofs [c22, Fv, GC, Fr, Fu, Fq, c22, -getElem?_pos, hal, hbl, hl, hl']) | (simp (disch := omega) only [AA]) | (with_reducible first | refine A6 ?_ ?_ ?_ | exact AC | refine SameB.upd ?_ ?_ _ | assumption | refine A0 ?_ | refine KM.of ?_ | refine AB ?_ | intro _g _hg | refine AD ?_ ?_ | intro _hc) | omega)
  refine LoopK.go (fun r st => ∃ j : Nat, j + r = a.length ∧ st = ⟨[(0, .sl 1 (a.map aI) .ro), (1, .sl 1 (b.map aI) .ro), (5, aI j)], n, H⟩ ∧ a.take j = b.take j) a.length ⟨0, by omega, rfl, rfl⟩ ?_
  rintro r st ⟨j, hj, rfl, hE⟩ J hJ
  by_cases hjl : j < a.length
  ·obtain ⟨x, hx⟩ : ∃ x, a[j]? = some x := ⟨_, List.getElem?_eq_getElem hjl⟩
   obtain ⟨y, hy⟩ : ∃ y, b[j]? = some y := ⟨_, List.getElem?_eq_getElem (by omega)⟩
   have hxa := IF (f := aI) hx
   have hya := IF (f := aI) hy
   have hjl' : (j : Int) < a.length := by omega
   by_cases hxy : x = y
   ·subst hxy
    have hE2 : a.take (j + 1) = b.take (j + 1) := by rw [List.take_succ, List.take_succ, hE, hx, hy]
    generalize a.map aI = aa at *
    generalize b.map aI = ba at *
    
    repeat' (first | (simp -implicitDefEqProofs [Fv, GC, Fr, Fu, Fq, c22, -getElem?_pos, hal, hbl, hl, hl', hxa, hya, hjl']) | (simp (disch := omega) only [AA]) | (with_reducible first | refine A6 ?_ ?_ ?_ | exact AC | refine SameB.upd ?_ ?_ _ | assumption | refine A0 ?_ | refine KM.of ?_ | refine AB ?_ | intro _g _hg | refine AD ?_ ?_ | intro _hc) | omega)
    exact hJ (r - 1) _ (by omega) ⟨j + 1, by omega, rfl, hE2⟩
   ·have hne : ¬ a = b := fun e => by subst e; rw [hx] at hy; injection hy with hy; exact hxy hy
    rw [decide_eq_false hne]
    generalize a.map aI = aa at *
    generalize b.map aI = ba at *
    
    repeat' (first | (simp -implicitDefEqProofs [Fv, GC, Fr, Fu, Fq, c22, -getElem?_pos, hal, hbl, hl, hl', hxa, hya, hjl', hxy, AM]) | (simp (disch := omega) only [AA]) | (with_reducible first | refine A6 ?_ ?_ ?_ | exact AC | refine SameB.upd ?_ ?_ _ | assumption | refine A0 ?_ | refine KM.of ?_ | refine AB ?_ | intro _g _hg | refine AD ?_ ?_ | intro _hc) | omega)
  ·have hjl' : ¬ (j : Int) < a.length := by omega
   rw [List.take_of_length_le (by omega), List.take_of_length_le (by omega)] at hE
   rw [decide_eq_true hE]
   generalize a.map aI = aa at *
   generalize b.map aI = ba at *
   
   repeat' (first | (simp -implicitDefEqProofs [Fv, GC, Fr, Fu, Fq, c22, -getElem?_pos, hal, hbl, hl, hl', hjl', AM]) | (simp (disch := omega) only [AA]) | (with_reducible first | refine A6 ?_ ?_ ?_ | exact AC | refine SameB.upd ?_ ?_ _ | assumption | refine A0 ?_ | refine KM.of ?_ | refine AB ?_ | intro _g _hg | refine AD ?_ ?_ | intro _hc) | omega)
 ·have hl' : ¬ (a.length : Int) = b.length := by omega
  have hne : ¬ a = b := fun e => hl (by rw [e])
  rw [decide_eq_false hne]
  generalize a.map aI = aa at *
  generalize b.map aI = ba at *
  
  refine A7 Tryz.func22 Zn rfl fun n H hH => ?_
  repeat' (first | (simp -implicitDefEqProofs [Fv, GC, Fr, Fu, Fq, c22, -getElem?_pos, hal, hbl, hl, hl', AM]) | (simp (disch := omega) only [AA]) | (with_reducible first | refine A6 ?_ ?_ ?_ | exact AC | refine SameB.upd ?_ ?_ _ | assumption | refine A0 ?_ | refine KM.of ?_ | refine AB ?_ | intro _g _hg | refine AD ?_ ?_ | intro _hc) | omega)
theorem UX (s : St) : Cy s → Ab s ≤ 1000 → APure Tryz.prog 31 [encS s] (aI (Ab s : Nat)) := by
 refine St.ind (Q := fun s => Cy s → Ab s ≤ 1000 → APure Tryz.prog 31 [encS s] (aI (Ab s : Nat))) ?_ s
 intro k o m v p ih hf hsz
 obtain ⟨hv, hp, hpp⟩ := hf
 have hss : Ab (.mk k o m v p) = Ak p + 1 := by simp [Ab]
 rw [hss] at hsz ⊢
 have hpl := Ai p
 have hp60 := Bz p
 rw [AF]
 generalize hnx : ((Ak p + 1 : Nat) : Int) = nx
 
 refine A7 Tryz.func31 A2r rfl fun n H hH => ?_
 repeat' (first | (simp -implicitDefEqProofs [c31, JX, KL, Jt, Jo, c31, -getElem?_pos]) | (simp (disch := omega) only [AA]) | (with_reducible first | refine A6 ?_ ?_ ?_ | exact AC | refine SameB.upd ?_ ?_ _ | assumption | refine A0 ?_ | refine KM.of ?_ | refine AB ?_ | refine A1 ?_ | refine A4 ?_ | intro _g _hg | refine AD ?_ ?_ | intro _hc) | omega)
 refine LoopK.go (fun r st => ∃ (j c n2 : Nat) (H2 : A3), j + r = p.length ∧ st = ⟨[(1, .ptr _g 0), (3, aI c), (4, aI j)], n2, H2⟩ ∧ _g < n2 ∧ c + Ak (p.drop j) = Ak p + 1 ∧ SameB n H H2 ∧ H2 _g = some (A1f k o m (.sl 1 (v.map aI) .ro) (.sl 5 (AR p) .ro))) p.length ⟨0, 1, _, _, by omega, by simp; exact ⟨rfl, rfl⟩, by omega, by simp; omega, (fun k hk => by simp (disch := omega) only [upd_ne]), AX _ _ _⟩ ?_
 rintro r st ⟨j, c, n2, H2, hj, rfl, hn2, hcs, hsame, q1⟩ J hJ
 by_cases hjl : j < p.length
 ·obtain ⟨x, hx'⟩ : ∃ x, p[j]? = some x := ⟨_, List.getElem?_eq_getElem hjl⟩
  have hxm := List.mem_of_getElem? hx'
  have hsm := Dc x hxm
  rw [PF hx'] at hcs
  have hst := ih x hxm (Cq hpp x hxm) (by omega)
  have hxe := DX hx'
  have hxf := Ax x
  have hjl' : (j : Int) < p.length := by omega
  generalize hsx : Ab x = sx at *
  obtain ⟨k', o', m', v', p'⟩ := x
  rw [AF] at hst hxe hxf
  generalize AR p = ep at *
  generalize AR p' = ep' at *
  generalize v'.map aI = ev' at *
  
  repeat' (first | (simp -implicitDefEqProofs [JX, KL, Jt, Jo, c31, -getElem?_pos, q1, hpl, hjl', hxe, splice]) | (simp (disch := omega) only [AA]) | ((with_reducible refine Aa 31 ?_); (refine' CallP.sf ?_ (hst) ?_); (focus first | (with_reducible exact A2 _) | (simp [AQ, AM, A5, A2]; done))) | (with_reducible first | refine A6 ?_ ?_ ?_ | exact AC | refine SameB.upd ?_ ?_ _ | assumption | refine A0 ?_ | refine KM.of ?_ | refine AB ?_ | refine A1 ?_ | refine A4 ?_ | intro _g _hg | refine AD ?_ ?_ | intro _hc) | omega)
  exact hJ (r - 1) _ (by omega) ⟨j + 1, c + sx, _, _, by omega, rfl, hn2, by omega, hsame, q1⟩
 ·have hjl' : ¬ (j : Int) < p.length := by omega
  rw [List.drop_eq_nil_of_le (by omega), Ak] at hcs
  have e1 : nx = c := by omega
  subst e1
  generalize AR p = ep at *
  
  repeat' (first | (simp -implicitDefEqProofs [JX, KL, Jt, Jo, c31, -getElem?_pos, q1, hpl, hjl', AM, AQ]) | (simp (disch := omega) only [AA]) | (with_reducible first | refine A6 ?_ ?_ ?_ | exact AC | refine SameB.upd ?_ ?_ _ | assumption | refine A0 ?_ | refine KM.of ?_ | refine AB ?_ | refine A1 ?_ | refine A4 ?_ | intro _g _hg | refine AD ?_ ?_ | intro _hc) | omega)
  all_goals first | exact hsame | omega
theorem A0k (s : St) : Cy s → APure Tryz.prog 26 [encS s, encS s] (.bool true) := by
 refine St.ind (Q := fun s => Cy s → APure Tryz.prog 26 [encS s, encS s] (.bool true)) ?_ s
 intro k o m v p ih hf
 obtain ⟨hv, hp, hpp⟩ := hf
 have hin := Tt v v hv
 rw [decide_eq_true rfl] at hin
 have hpl := Ai p
 rw [AF]
 
 refine A7 Tryz.func26 A2q rfl fun n H hH => ?_
 repeat' (first | (simp -implicitDefEqProofs [c26, Ja, -getElem?_pos, hpl, splice]) | (simp (disch := omega) only [AA]) | ((with_reducible refine Aa 22 ?_); (refine' CallP.sf ?_ (hin) ?_); (focus first | (with_reducible exact A2 _) | (simp [AQ, AM, A5, A2]; done))) | (with_reducible first | refine A6 ?_ ?_ ?_ | exact AC | assumption | refine A0 ?_ | refine KM.of ?_ | refine AB ?_ | refine A1 ?_ | refine A4 ?_ | intro _g _hg | refine AD ?_ ?_ | intro _hc) | omega)
 rename_i g2 hg2
 generalize hH1 : upd (upd H g2 _) _g _ = H1
 have q2 : H1 g2 = some (A1f k o m (R5 v) (.sl 5 (AR p) .ro)) := by rw [← hH1]; simp (disch := omega) only [upd_ne, AX]
 have q3 : H1 _g = some (A1f k o m (R5 v) (.sl 5 (AR p) .ro)) := by rw [← hH1]; simp (disch := omega) only [upd_ne, AX]
 have hsame : SameB n H H1 := fun g hg => by rw [← hH1]; simp (disch := omega) only [upd_ne]
 refine LoopK.go (fun q st => ∃ j : Nat, j + q = p.length ∧ st = ⟨[(2, .ptr g2 0), (3, .ptr _g 0), (5, aI j)], _g + 1, H1⟩) p.length ⟨0, by omega, rfl⟩ ?_
 rintro q st ⟨j, hj, rfl⟩ J hJ
 by_cases hjp : j < p.length
 ·obtain ⟨s, hs⟩ : ∃ s, p[j]? = some s := ⟨_, List.getElem?_eq_getElem hjp⟩
  have hsm2 := List.mem_of_getElem? hs
  have hst := ih s hsm2 (Cq hpp s hsm2)
  have hse := DX hs
  have hjp' : (j : Int) < p.length := by omega
  obtain ⟨k', o', m', v', p'⟩ := s
  rw [AF] at hst hse
  
  repeat' (first | (simp -implicitDefEqProofs [ND, Mj, Mk, Mr, Ja, c26, -getElem?_pos, q2, q3, hjp', hpl, hse, splice]) | (simp (disch := omega) only [AA]) | ((with_reducible refine Aa 26 ?_); (refine' CallP.sf ?_ (hst) ?_); (focus first | (with_reducible exact A2 _) | (simp [AQ, AM, A5, A2]; done))) | (with_reducible first | refine A6 ?_ ?_ ?_ | exact AC | assumption | refine A0 ?_ | refine KM.of ?_ | refine AB ?_ | refine A1 ?_ | refine A4 ?_ | intro _g _hg | refine AD ?_ ?_ | intro _hc) | omega)
  exact hJ (q - 1) _ (by omega) ⟨j + 1, by omega, rfl⟩
 ·have hjp' : ¬ (j : Int) < p.length := by omega
  
  repeat' (first | (simp -implicitDefEqProofs [ND, Mj, Mk, Mr, Ja, c26, -getElem?_pos, q2, hjp', hpl, splice]) | (simp (disch := omega) only [AA]) | (with_reducible first | refine A6 ?_ ?_ ?_ | exact AC | assumption | refine A0 ?_ | refine KM.of ?_ | refine AB ?_ | refine A1 ?_ | refine A4 ?_ | intro _g _hg | refine AD ?_ ?_ | intro _hc) | omega)
  all_goals first | exact A5 _ | exact hsame
end Go.Proofs.YtjdccdelcnmocaaGreatDoor
