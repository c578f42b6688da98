/- What streams give: how many elements at most, how great they are, and that the leaves never give less; no condition. -/
import Derived.Test.YtjdccdelcnmocaaGreatDoorMgJ
import Derived.Test.YtjdccdelcnmocaaGreatDoorMdK
import Derived.Test.YtjdccdelcnmocaaGreatDoorAdE
import Derived.Test.YtjdccdelcnmocaaGreatDoorAdF
set_option linter.all false
set_option linter.unusedSimpArgs false
set_option linter.unusedVariables false
set_option maxHeartbeats 1000000
namespace Go.Proofs.YtjdccdelcnmocaaGreatDoor
def leC (a b : AZ) : Prop := a.length = b.length ∧ ∀ (i : Nat) (x y : Int), a[i]? = some x → b[i]? = some y → x ≤ y
theorem leC.rfl_ (a : AZ) : leC a a := ⟨rfl, fun i x y h1 h2 => by rw [h1] at h2; injection h2 with h2; omega⟩
theorem leC.tr {a b c : AZ} (h : leC a b) (k : leC b c) : leC a c := by
 refine ⟨h.1.trans k.1, fun i x z h1 h2 => ?_⟩
 have hi : i < b.length := by rw [← h.1]; exact (List.getElem?_eq_some_iff.1 h1).1
 have h3 : b[i]? = some b[i] := List.getElem?_eq_getElem hi
 have := h.2 i x _ h1 h3
 have := k.2 i _ z h3 h2
 omega
theorem leC.app {a b c d : AZ} (h : leC a b) (k : leC c d) : leC (a ++ c) (b ++ d) := by
 refine ⟨by simp [h.1, k.1], fun i x y h1 h2 => ?_⟩
 by_cases hi : i < a.length
 ·rw [List.getElem?_append_left hi] at h1
  rw [List.getElem?_append_left (by rw [← h.1]; exact hi)] at h2
  exact h.2 i x y h1 h2
 ·rw [List.getElem?_append_right (by omega)] at h1
  rw [List.getElem?_append_right (by rw [← h.1]; omega), ← h.1] at h2
  exact k.2 _ x y h1 h2
def monL : AZ → Aq → AZ → Prop
 | cur, [], fin => leC cur fin
 | cur, (_, c) :: r, fin => leC cur c ∧ monL c r fin
def Kt (F : Fut) : Prop := monL F.cur F.l F.fin ∧ ∀ x ∈ F.cur, 0 ≤ x
theorem monL.fin : ∀ {l : Aq} {cur fin : AZ}, monL cur l fin → leC cur fin
 | [], _, _, h => h
 | (_, c) :: r, cur, fin, h => h.1.tr (monL.fin h.2)
theorem monL.cur : ∀ {l : Aq} {cur cur' fin : AZ}, leC cur' cur → monL cur l fin → monL cur' l fin
 | [], _, _, _, hc, h => hc.tr h
 | (_, c) :: r, _, _, _, hc, h => ⟨hc.tr h.1, h.2⟩
theorem monL.map : ∀ {l : Aq} {cur fin : AZ} (f : Int → Int), monL cur l fin → monL cur (l.map fun e => (f e.1, e.2)) fin
 | [], _, _, _, h => h
 | (_, c) :: r, _, _, f, h => ⟨h.1, monL.map f h.2⟩
theorem monL.filter : ∀ {l : Aq} {cur fin : AZ} (p : Int × AZ → Bool), monL cur l fin → monL cur (l.filter p) fin
 | [], _, _, _, h => h
 | e :: r, _, _, p, h => by
  rw [List.filter_cons]
  split
  ·exact ⟨h.1, monL.filter p h.2⟩
  ·exact monL.cur h.1 (monL.filter p h.2)
theorem monL.tak : ∀ {l : Aq} {cur fin : AZ} (n : Nat), monL cur l fin → monL cur (DE n cur l fin).1 (DE n cur l fin).2
 | _, cur, _, 0, _ => by simp only [DE]; exact leC.rfl_ cur
 | [], _, _, _ + 1, h => h
 | (_, c) :: r, _, _, n + 1, h => ⟨h.1, monL.tak n h.2⟩
theorem monL.drop : ∀ {l : Aq} {cur fin : AZ} (n : Nat), monL cur l fin → monL cur (l.drop n) fin
 | _, _, _, 0, h => by simpa using h
 | [], _, _, _ + 1, h => h
 | (_, c) :: r, _, _, n + 1, h => by simpa using monL.cur h.1 (monL.drop n h.2)
theorem monL.whi : ∀ {l : Aq} {cur fin : AZ} (p : Int → Bool), monL cur l fin → monL cur (Ev p l fin).1 (Ev p l fin).2
 | [], _, _, _, h => h
 | (x, c) :: r, _, _, p, h => by
  simp only [Ev]
  split
  ·exact ⟨h.1, monL.whi p h.2⟩
  ·exact h.1
theorem monL.ski : ∀ {l : Aq} {cur fin : AZ} (p : Int → Bool), monL cur l fin → monL cur (Ie p l) fin
 | [], _, _, _, h => h
 | (x, c) :: r, _, _, p, h => by
  simp only [Ie]
  split
  ·exact monL.cur h.1 (monL.ski p h.2)
  ·exact h
theorem monL.sca : ∀ {l : Aq} {cur fin : AZ} (f : Int → Int → Int) (n : Int), monL cur l fin → monL cur (LQ f n l) fin
 | [], _, _, _, _, h => h
 | (x, c) :: r, _, _, f, n, h => ⟨h.1, monL.sca f _ h.2⟩
theorem monL.win : ∀ {l : Aq} {cur fin : AZ} (f : Int → Int → Int) (N : Nat) (last : List Int), monL cur l fin → monL cur (FP f N last l) fin
 | [], _, _, _, _, _, h => h
 | (x, c) :: r, _, _, f, N, last, h => by
  simp only [FP]
  split
  ·exact monL.cur h.1 (monL.win f N _ h.2)
  ·exact ⟨h.1, monL.win f N _ h.2⟩
theorem monL.run : ∀ {l : Aq} {cur fin : AZ} (last : Int), monL cur l fin → monL cur (Fh last l) fin
 | [], _, _, _, h => h
 | (x, c) :: r, _, _, last, h => by
  simp only [Fh]
  split
  ·exact ⟨h.1, monL.run _ h.2⟩
  ·exact monL.cur h.1 (monL.run _ h.2)
theorem monL.same (xs : List Int) (fin : AZ) {l : Aq} (h : monL fin l fin) : monL fin (xs.map (fun x => (x, fin)) ++ l) fin := by
 induction xs with
 | nil => exact h
 | cons x xs ih => exact ⟨leC.rfl_ _, ih⟩
theorem monL.rep (xs : List Int) (fin : AZ) : ∀ n, monL fin (Eo xs fin n) fin
 | 0 => leC.rfl_ _
 | n + 1 => monL.same xs fin (monL.rep xs fin n)
theorem monL.app : ∀ {l m : Aq} {cur mid fin : AZ}, monL cur l mid → monL mid m fin → monL cur (l ++ m) fin
 | [], _, _, _, _, h, k => monL.cur h k
 | (_, c) :: r, _, _, _, _, h, k => ⟨h.1, monL.app h.2 k⟩
theorem monL.left : ∀ {l : Aq} {cur fin : AZ} (d : AZ), monL cur l fin → monL (cur ++ d) (l.map fun e => (e.1, e.2 ++ d)) (fin ++ d)
 | [], _, _, d, h => leC.app h (leC.rfl_ d)
 | (_, c) :: r, _, _, d, h => ⟨leC.app h.1 (leC.rfl_ d), monL.left d h.2⟩
theorem monL.right : ∀ {l : Aq} {cur fin : AZ} (d : AZ), monL cur l fin → monL (d ++ cur) (l.map fun e => (e.1, d ++ e.2)) (d ++ fin)
 | [], _, _, d, h => leC.app (leC.rfl_ d) h
 | (_, c) :: r, _, _, d, h => ⟨leC.app (leC.rfl_ d) h.1, monL.right d h.2⟩
theorem ZF {F : Fut} (k o n : Int) (h : Kt F) : Kt (CC k o n F) := by
 obtain ⟨h, hc⟩ := h
 unfold CC
 (repeat' split) <;> try refine ⟨?_, hc⟩
 ·exact h.map (fun x => DZ o x n)
 ·exact h.filter _
 ·exact h.tak _
 ·exact h.drop _
 ·exact h.whi _
 ·exact h.ski _
 ·exact h.sca _ _
 ·exact h.win _ _ _
 ·exact h.run _
 ·unfold MO
  split
  ·exact ⟨leC.rfl_ _, hc⟩
  ·exact ⟨h.app (monL.rep _ _ _), hc⟩
theorem U5 : ∀ {Fs : List Fut}, (∀ F ∈ Fs, Kt F) → Kt (D0 Fs)
 | [], _ => ⟨leC.rfl_ _, by simp [D0]⟩
 | F :: Fs, h => by
  have ih := U5 fun G hG => h G (List.mem_cons_of_mem _ hG)
  have h1 := h F List.mem_cons_self
  refine ⟨(h1.1.left _).app (ih.1.right _), fun x hx => ?_⟩
  simp only [D0, List.mem_append] at hx
  exact hx.elim (h1.2 x) (ih.2 x)
theorem monL.zip : ∀ {la lb : Aq} {ca cb fa fb : AZ} (f : Int → Int → Int), monL ca la fa → monL cb lb fb → monL (ca ++ cb) (G0 f fa fb la cb lb).1 (G0 f fa fb la cb lb).2
 | [], _, _, _, _, _, _, h, _ => leC.app h (leC.rfl_ _)
 | (x, c) :: r, [], _, _, _, _, _, h, k => leC.app h.1 k
 | (x, c) :: r, (y, d) :: t, _, _, _, _, f, h, k => ⟨leC.app h.1 k.1, monL.zip f h.2 k.2⟩
theorem monL.mer : ∀ {la lb : Aq} {ca cb fa fb : AZ}, monL ca la fa → monL cb lb fb → monL (ca ++ cb) (DY fa fb la lb) (fa ++ fb)
 | [], [], _, _, _, _, h, k => by rw [DY]; exact leC.app h k
 | [], (y, d) :: t, _, _, fa, _, h, k => by
  rw [DY]
  exact ⟨leC.app h k.1, monL.mer (la := []) (leC.rfl_ fa) k.2⟩
 | (x, c) :: r, [], _, _, _, fb, h, k => by
  rw [DY]
  exact ⟨leC.app h.1 k, monL.mer (lb := []) h.2 (leC.rfl_ fb)⟩
 | (x, c) :: r, (y, d) :: t, _, _, _, _, h, k => by
  rw [DY]
  split
  ·exact ⟨leC.app h.1 k.1, monL.mer (lb := (y, d) :: t) h.2 ⟨leC.rfl_ d, k.2⟩⟩
  ·exact ⟨leC.app h.1 k.1, monL.mer (la := (x, c) :: r) ⟨leC.rfl_ c, h.2⟩ k.2⟩
 termination_by la lb => la.length + lb.length
theorem Nx : ∀ (cs : List AZ) (i : Nat) (c : AZ), leC (cs.getD i []) c → leC cs.flatten (cs.set i c).flatten
 | [], i, c, _ => by simpa using leC.rfl_ []
 | a :: r, 0, c, h => by
  simp only [List.set_cons_zero, List.flatten_cons]
  exact leC.app (by simpa using h) (leC.rfl_ _)
 | a :: r, i + 1, c, h => by
  simp only [List.set_cons_succ, List.flatten_cons]
  exact leC.app (leC.rfl_ _) (Nx r i c (by simpa using h))
theorem getD_set_ne {cs : List AZ} {i j : Nat} {c : AZ} (h : j ≠ i) : (cs.set i c).getD j [] = cs.getD j [] := by
 simp only [List.getD_eq_getElem?_getD, List.getElem?_set_ne (Ne.symm h)]
theorem S9 {cs : List AZ} {i : Nat} {c : AZ} (h : i < cs.length) : (cs.set i c).getD i [] = c := by
 simp [List.getD_eq_getElem?_getD, h]
theorem monL.tur : ∀ (m : Nat) (q : List (Nat × Aq × AZ)) (cs : List AZ), (∀ e ∈ q, e.1 < cs.length ∧ monL (cs.getD e.1 []) e.2.1 e.2.2) → (q.map (·.1)).Nodup → monL cs.flatten (EH m q cs).1 (EH m q cs).2.flatten
 | 0, _, cs, _, _ => leC.rfl_ _
 | _ + 1, [], cs, _, _ => leC.rfl_ _
 | m + 1, (i, [], fin) :: q, cs, h, hn => by
  obtain ⟨h1, h2⟩ := h _ List.mem_cons_self
  simp only [List.map_cons, List.nodup_cons] at hn
  simp only [EH]
  refine monL.cur (Nx cs i fin h2) (monL.tur m q (cs.set i fin) (fun e he => ?_) hn.2)
  obtain ⟨h3, h4⟩ := h e (List.mem_cons_of_mem _ he)
  have hne : e.1 ≠ i := fun e1 => hn.1 (by rw [← e1]; exact List.mem_map_of_mem he)
  exact ⟨by simpa using h3, by rw [getD_set_ne hne]; exact h4⟩
 | m + 1, (i, (x, c) :: r, fin) :: q, cs, h, hn => by
  obtain ⟨h1, h2⟩ := h _ List.mem_cons_self
  simp only [List.map_cons, List.nodup_cons] at hn
  simp only [EH]
  refine ⟨Nx cs i c h2.1, monL.tur m (q ++ [(i, r, fin)]) (cs.set i c) (fun e he => ?_) ?_⟩
  ·rcases List.mem_append.1 he with he | he
   ·obtain ⟨h3, h4⟩ := h e (List.mem_cons_of_mem _ he)
    have hne : e.1 ≠ i := fun e1 => hn.1 (by rw [← e1]; exact List.mem_map_of_mem he)
    exact ⟨by simpa using h3, by rw [getD_set_ne hne]; exact h4⟩
   ·simp only [List.mem_singleton] at he
    subst he
    exact ⟨by simpa using h1, by rw [S9 h1]; exact h2.2⟩
  ·simp only [List.map_append, List.map_cons, List.map_nil]
   exact List.nodup_append.2 ⟨hn.2, by simp, fun a ha b hb => by simp at hb; subst hb; exact fun e => hn.1 (e ▸ ha)⟩
theorem ZM {Fs : List Fut} (h : ∀ F ∈ Fs, Kt F) : Kt (Hv Fs) := by
 refine ⟨?_, fun x hx => ?_⟩
 ·refine monL.tur _ _ _ (fun e he => ?_) ?_
  ·obtain ⟨⟨F, i⟩, hm, rfl⟩ := List.mem_map.1 he
   obtain ⟨h1, h2, h3⟩ := List.mem_zipIdx hm
   simp only [Nat.zero_add] at h2
   refine ⟨by simpa using h2, ?_⟩
   have h4 : Fs[i]? = some F := by
    rw [List.getElem?_eq_getElem (by omega)]; simp at h3; rw [h3]
   have : (Fs.map (·.cur)).getD i [] = F.cur := by simp [List.getD_eq_getElem?_getD, h4]
   simp only
   rw [this]
   exact (h F (List.mem_of_getElem? h4)).1
  ·have : (Fs.zipIdx.map fun x => (x.2, x.1.l, x.1.fin)).map (·.1) = List.range' 0 Fs.length := by
    rw [List.map_map]
    show Fs.zipIdx.map (fun x => x.2) = _
    exact List.zipIdx_map_snd 0 Fs
   rw [this]
   exact List.nodup_range'
 ·obtain ⟨c, hc, hxc⟩ := List.mem_flatten.1 hx
  obtain ⟨F, hF, rfl⟩ := List.mem_map.1 hc
  exact (h F hF).2 x hxc
theorem monL.lea : ∀ (xs : List Int) (i : Nat), monL [(i : Int)] (Rb i xs) [((i + xs.length : Nat) : Int)]
 | [], i => leC.rfl_ _
 | x :: r, i => by
  refine ⟨⟨rfl, fun j a b h1 h2 => ?_⟩, ?_⟩
  ·cases j with
   | zero => simp at h1 h2; omega
   | succ j => simp at h1
  ·have := monL.lea r (i + 1)
   simpa [Nat.add_assoc, Nat.add_comm 1] using this
theorem UO (xs : List Int) : Kt (Gi xs) := ⟨by simpa [Gi] using monL.lea xs 0, by simp [Gi]⟩
theorem ZW (k o n : Int) (v : List Int) {Fs : List Fut} (h : ∀ F ∈ Fs, Kt F) : Kt (CO k o n v Fs) := by
 unfold CO
 split
 ·exact UO _
 ·split
  ·exact UO _
  ·split
   ·exact U5 h
   ·split
    ·exact ZM h
    ·split
     ·exact ZF k o n (h _ (by simp))
     ·rename_i F G
      have h1 := h F (by simp)
      have h2 := h G (by simp)
      split
      ·refine ⟨h1.1.zip (DZ o) h2.1, fun x hx => ?_⟩
       exact (List.mem_append.1 hx).elim (h1.2 x) (h2.2 x)
      ·refine ⟨h1.1.mer h2.1, fun x hx => ?_⟩
       exact (List.mem_append.1 hx).elim (h1.2 x) (h2.2 x)
     ·exact ⟨leC.rfl_ _, by simp⟩
theorem Qe (s : St) : Kt (AY s) := by
 refine St.ind (Q := fun s => Kt (AY s)) ?_ s
 intro k o n v p ih
 rw [AY, F9]
 refine ZW k o n v fun F hF => ?_
 obtain ⟨x, hx, rfl⟩ := List.mem_map.1 hF
 exact ih x hx
abbrev YG (gs : Nat) (i : Int) : AObj := .cells 70 [.mp gs, aI i]
def Oo (r : Nat × Int) : Int × Int := if r.2 ≠ 0 then (r.2, (r.1 : Int)) else (0, 0)
def OK (r : Nat × Int) : Nat := if r.2 ≠ 0 then r.1 + 1 else r.1
def Ph (s : St) (i : Nat) : Prop := ∀ (g gs n : Nat) (H : A3), H g = some (YG gs i) → H gs = some (.map (some .i64) EZ) → AUpd Tryz.prog 40 [.ptr g 0, encS s] n H (aF (Oo (Dd s i))) g (YG gs (OK (Dd s i)))
attribute [local simp] Nt GX Gy PR NX Pd OR GG Gx I1 JS Qp Q2 PM RE QS Qq P7 RI Nb No Qt Np Qo QJ WK pe PO Pu Pe R3 QU RG Qh PB Oj Nj NF Nm Qz Gv Pp NY PV Ox NJ Pn OY QT Qy QR R9 PJ Ow Q9 Ot Pg PH O7 Pz NO RA GQ OV H7 OS Nd PG PT Ou Nk Og Qx RD Pf NZ RF PL PX R4 OZ Nc Qs NT Oh Pw P6 R6 Q5 NK Gr PA Q4 Qb OP NM P4 Qn P3 Oq OC PI OG Q8 Ni Nh Q3 Nr ON Qr P1 P5 Ov Nw QQ QO Pc NV PC Px R2 K6 OM List.mem_cons guardK FJ Fz Gu J5 O5 Gk Ge Gz Gj H8 GY GO GV H5 PD QM Gg PZ Oy OB O4 Nv QK GU P2 OQ Ql QP O9 R8 J0 Gq Gn Gm Gs RC Pr H6 Ns Gl Nq GS Gd NQ GL Gp Ok O6 Pa Na PK QD Q7 PU WJ MC MV JD MF MB MU Fe I3 I6 O0 Hz I4 Fd FD YP ME M8 I8 M9 MW El EL C6 Bo Cu EA AH ev get put Fa AN EK QA OI OA QC MH Od FW part BS IH RB Hx isNil Df EC Ep EG EE OW Oc NH OL Ng ML Pk PY Q6 Nf Qc Qv Of Ps OD Pi AV.fits AV.cells ones AV.one FF DC FI EF Fg FS Po Fk GZ Cz Br CH Er Gw AX Bq ZY J8 Oz PP List.getElem?_cons_zero List.getElem?_cons_succ Gc GJ Ga OE OX QB IB Qd Pj Qm Qf Pb QI QL Pq Nz Oa Nu
theorem Yi (s : St) : Cy s → ∀ i : Nat, i ≤ 60 → Ph s i := by
 refine St.ind (Q := fun s => Cy s → ∀ i : Nat, i ≤ 60 → Ph s i) ?_ s
 intro k o m v p ih hfit i hi g gs n H hg hgs
 obtain ⟨hv, hp, hpp⟩ := hfit
 have hgg : g ≠ gs := fun e => by rw [e, hgs] at hg; cases hg
 have hnode := fun n H h1 h2 => A0d k o m v p hv g gs n ((i : Int) + 1) H h1 h2
 rw [Dd]
 rw [AF] at hnode ⊢
 refine T1 Tryz.func40 A2o rfl (hg) fun hH => ?_
 have hgn : g < n := by
  rcases Nat.lt_or_ge g n with h | h
  ·exact h
  ·rw [hH g h] at hg; cases hg
 have hsn : gs < n := by
  rcases Nat.lt_or_ge gs n with h | h
  ·exact h
  ·rw [hH gs h] at hgs; cases hgs
 by_cases h60 : 60 ≤ i
 ·rw [if_pos h60]
  have h60' : ¬ (i : Int) < 60 := by omega
  repeat' (first | (simp -implicitDefEqProofs [KN, K9, Hu, Fy, Jv, Jc, c40, -getElem?_pos, hg, h60', splice, Oo, OK, A5]) | (simp (disch := omega) only [AA]) | (with_reducible first | refine A6 ?_ ?_ ?_ | exact AC | assumption | refine A0 ?_ | refine KM.of ?_ | refine AB ?_ | refine A1 ?_ | refine A4 ?_ | intro _g _hg | refine AD ?_ ?_ | intro _hc) | omega)
  intro q hq; simp only [upd]; (repeat' split) <;> first | rfl | omega
 ·rw [if_neg h60]
  have h60' : (i : Int) < 60 := by omega
  generalize hc : Bs (.mk k o m v p) = c at *
  have hpl := Ai p
  by_cases hc0 : c = 0
  ·rw [if_neg (by simpa using hc0)]
   subst hc0
   repeat' (first | (simp -implicitDefEqProofs [c40, Jc, Jv, -getElem?_pos, hg, h60', splice]) | (simp (disch := omega) only [AA]) | ((with_reducible refine Ap 69 ?_); (refine' CallK.sfAt ?_ ((hnode _ _ (by simp (disch := omega) only [upd_ne, AX]) (by simp (disch := omega) only [upd_ne]; exact hgs))) ?_); (focus first | (with_reducible exact A2 _) | (simp [AQ, AM, A5, A2]; done))) | (with_reducible first | refine A6 ?_ ?_ ?_ | exact AC | assumption | refine A0 ?_ | refine KM.of ?_ | refine AB ?_ | refine A1 ?_ | refine A4 ?_ | intro _g _hg | refine AD ?_ ?_ | intro _hc) | omega)
   rename_i g3 hg3
   refine LoopK.go (fun r st => ∃ (j q n1 : Nat) (H1 : A3), j + r = p.length ∧ st = ⟨[(0, .ptr g 0), (4, .ptr _g 0), (32, .sl 5 (AR p) .ro), (33, aI p.length), (34, aI j)], n1, H1⟩ ∧ q ≤ 60 ∧ HG p (i + 1) = HG (p.drop j) q ∧ _g < n1 ∧ H1 g = some (YG gs q) ∧ H1 gs = some (.map (some .i64) EZ) ∧ H1 _g = some (.cells 27 [aI 0, aI 0]) ∧ (∀ k, k < n → k ≠ g → H1 k = H k) ∧ ∀ k, n1 ≤ k → H1 k = none) p.length
    ⟨0, i + 1, _, _, by omega, by simp [hpl]; exact ⟨rfl, rfl⟩, by omega, rfl, by omega, by simp (disch := omega) only [upd_ne, AX]; rfl, by simp (disch := omega) only [upd_ne]; exact hgs, by simp (disch := omega) only [upd_ne, AX], fun k h1 h2 => by simp (disch := omega) only [upd_ne], fun k h1 => by simp (disch := omega) only [upd_ne]; exact hH k (by omega)⟩ ?_
   rintro r st ⟨j, q, n1, H1, hj, rfl, hq, hE, hn1, q1, q2, q4, hsame, hsup⟩ J hJ
   by_cases hjl : j < p.length
   ·obtain ⟨x, hx⟩ : ∃ x, p[j]? = some x := ⟨_, List.getElem?_eq_getElem hjl⟩
    have hxm := List.mem_of_getElem? hx
    have hst := ih x hxm (Cq hpp x hxm) q hq
    have hxe := DX hx
    have hxf := Ax x
    have hjl' : (j : Int) < p.length := by omega
    rw [UZ hx] at hE
    unfold Ph at hst
    generalize hsx : Dd x q = sx at *
    have hok : sx.2 = 0 → sx.1 ≤ 60 := fun h2 => by rw [← hsx] at h2 ⊢; exact (Jp x q h2).2.2
    obtain ⟨k', o', m', v', p'⟩ := x
    rw [AF] at hst hxe hxf
    generalize AR p = ep at *
    generalize AR p' = ep' at *
    generalize v'.map aI = ev' at *
    by_cases h2 : sx.2 = 0
    ·rw [if_neg (by simpa using h2)] at hE
     have h3 := hok h2
     have e1 : Oo sx = (0, 0) := by unfold Oo; rw [if_neg (by simpa using h2)]
     have e2 : OK sx = sx.1 := by unfold OK; rw [if_neg (by simpa using h2)]
     rw [e1, e2] at hst
     
     repeat' (first | (simp -implicitDefEqProofs [Fy, Hu, K9, -getElem?_pos, hjl', hxe, splice]) | (simp (disch := omega) only [AA]) | ((with_reducible refine Ap 40 ?_); (refine' CallK.sfU ?_ ((hst g gs _ _ (by simp (disch := omega) only [upd_ne, AX]; exact q1) (by simp (disch := omega) only [upd_ne]; exact q2))) ?_); (focus first | (with_reducible exact A2 _) | (simp [AQ, AM, A5, A2]; done))) | (with_reducible first | refine A6 ?_ ?_ ?_ | exact AC | assumption | refine A0 ?_ | refine KM.of ?_ | refine AB ?_ | refine A1 ?_ | refine A4 ?_ | intro _g _hg | refine AD ?_ ?_ | intro _hc) | omega)
     exact hJ (r - 1) _ (by omega) ⟨j + 1, sx.1, _, _, by omega, rfl, h3, hE, by omega, by simp (disch := omega) only [upd_ne, AX], by simp (disch := omega) only [upd_ne]; exact q2, by simp (disch := omega) only [upd_ne]; exact q4, fun k h1 h2 => by simp (disch := omega) only [upd_ne]; exact hsame k h1 h2, fun k h1 => by simp (disch := omega) only [upd_ne]; exact hsup k (by omega)⟩
    ·rw [if_pos h2] at hE
     rw [hE]
     have e1 : Oo sx = (sx.2, (sx.1 : Int)) := by unfold Oo; rw [if_pos h2]
     have e2 : OK sx = sx.1 + 1 := by unfold OK; rw [if_pos h2]
     rw [e1, e2] at hst ⊢
     
     repeat' (first | (simp -implicitDefEqProofs [Fy, Hu, -getElem?_pos, hjl', hxe, h2, q4, splice, A5]) | (simp (disch := omega) only [AA]) | ((with_reducible refine Ap 40 ?_); (refine' CallK.sfU ?_ ((hst g gs _ _ (by simp (disch := omega) only [upd_ne, AX]; exact q1) (by simp (disch := omega) only [upd_ne]; exact q2))) ?_); (focus first | (with_reducible exact A2 _) | (simp [AQ, AM, A5, A2]; done))) | (with_reducible first | refine A6 ?_ ?_ ?_ | exact AC | assumption | refine A0 ?_ | refine KM.of ?_ | refine AB ?_ | refine A1 ?_ | refine A4 ?_ | intro _g _hg | refine AD ?_ ?_ | intro _hc) | omega)
     all_goals first | exact A5 _ | (intro q' hq'; simp only [upd]; (repeat' split) <;> first | rfl | omega | (exact hsame _ hq' (by assumption)))
   ·have hjl' : ¬ (j : Int) < p.length := by omega
    rw [List.drop_eq_nil_of_le (by omega), HG] at hE
    rw [hE]
    
    repeat' (first | (simp -implicitDefEqProofs [Fy, KN, -getElem?_pos, hjl', q4, splice, Oo, OK, A5]) | (simp (disch := omega) only [AA]) | (with_reducible first | refine A6 ?_ ?_ ?_ | exact AC | assumption | refine A0 ?_ | refine KM.of ?_ | refine AB ?_ | refine A1 ?_ | refine A4 ?_ | intro _g _hg | refine AD ?_ ?_ | intro _hc) | omega)
    all_goals first | exact A5 _ | (intro q' hq'; simp only [upd]; (repeat' split) <;> first | rfl | omega | (subst_vars; exact q1) | (exact hsame _ hq' (by assumption)))
  ·rw [if_pos hc0]
   repeat' (first | (simp -implicitDefEqProofs [KN, K9, Hu, Fy, Jv, Jc, c40, -getElem?_pos, hg, h60', hc0, splice, Oo, OK, A5]) | (simp (disch := omega) only [AA]) | ((with_reducible refine Ap 69 ?_); (refine' CallK.sfAt ?_ ((hnode _ _ (by simp (disch := omega) only [upd_ne, AX]) (by simp (disch := omega) only [upd_ne]; exact hgs))) ?_); (focus first | (with_reducible exact A2 _) | (simp [AQ, AM, A5, A2]; done))) | (with_reducible first | refine A6 ?_ ?_ ?_ | exact AC | assumption | refine A0 ?_ | refine KM.of ?_ | refine AB ?_ | refine A1 ?_ | refine A4 ?_ | intro _g _hg | refine AD ?_ ?_ | intro _hc) | omega)
   all_goals first | exact A5 _ | (intro q hq; simp only [upd]; (repeat' split) <;> first | rfl | omega)
structure NodeOk (k o n : Int) (v : List Int) (p : List St) : Prop where
 k1 : 1 ≤ k
 k2 : k ≤ 16
 leaf : k = 1 ∨ k = 2 → p = []
 many : k = 13 ∨ k = 14 → p ≠ []
 two : k = 15 ∨ k = 16 → p.length = 2
 one : k ≠ 1 → k ≠ 2 → k ≠ 13 → k ≠ 14 → k ≠ 15 → k ≠ 16 → p.length = 1
 rng : k = 2 → v.length = 3
 nov : k ≠ 1 → k ≠ 2 → v = []
 fn : NW k = true → (1 ≤ o ∧ o ≤ 5) ∨ (k = 3 ∧ o = 6)
 cnd : D6 k = true → 1 ≤ o ∧ o ≤ 3
 noo : NW k = false → D6 k = false → o = 0
 num : GI k = true → J6 k o ≤ n ∧ n ≤ J7 k
 non : GI k = false → n = 0
 vals : BU k 0 v = true
theorem nz {p : Prop} [Decidable p] {c x : Int} (hc : c ≠ 0) (h : (if p then c else x) = 0) : ¬ p ∧ x = 0 := by
 by_cases hp : p
 ·rw [if_pos hp] at h; exact absurd h hc
 ·rw [if_neg hp] at h; exact ⟨hp, h⟩
theorem C8 {k o n : Int} {v : List Int} {p : List St} (h : Bs (.mk k o n v p) = 0) : NodeOk k o n v p := by
 rw [Bs] at h
 obtain ⟨h1, h⟩ := nz (by decide) h
 obtain ⟨h2, h⟩ := nz (by decide) h
 obtain ⟨h3, h⟩ := nz (by decide) h
 obtain ⟨h4, h⟩ := nz (by decide) h
 obtain ⟨h5, h⟩ := nz (by decide) h
 have h6 : BU k 0 v = true := by
  by_cases h6 : BU k 0 v = true
  ·exact h6
  ·rw [if_neg h6] at h; cases h
 have h1 := Decidable.not_not.1 h1
 simp only [not_or, not_and, Decidable.not_not] at h2 h3 h4 h5
 obtain ⟨h21, h22, h23, h24, h25⟩ := h2
 obtain ⟨h31, h32, h33⟩ := h3
 obtain ⟨h41, h42⟩ := h4
 have hl : Da k = true ↔ k = 1 ∨ k = 2 := by simp [Da]
 have hm : G9 k = true ↔ k = 13 ∨ k = 14 := by simp [G9]
 have ht : Jf k = true ↔ k = 15 ∨ k = 16 := by simp [Jf]
 have hl' : Da k = false ↔ ¬ (k = 1 ∨ k = 2) := by rw [← hl]; simp
 have hm' : G9 k = false ↔ ¬ (k = 13 ∨ k = 14) := by rw [← hm]; simp
 have ht' : Jf k = false ↔ ¬ (k = 15 ∨ k = 16) := by rw [← ht]; simp
 refine ⟨h1.1, h1.2, fun e => List.length_eq_zero_iff.1 (h21 (hl.2 e)), fun e e2 => (h22 (hm.2 e)) (by rw [e2]; rfl), fun e => h23 (ht.2 e), fun a b c d e f => h24 (hl'.2 (by omega)) (hm'.2 (by omega)) (ht'.2 (by omega)), h25, fun a b => List.length_eq_zero_iff.1 (h31 (hl'.2 (by omega))), ?_, ?_, fun a b => h33 a b, ?_, h32, h6⟩
 ·intro e
  have := h41 e
  by_cases a : 1 ≤ o ∧ o ≤ 5
  ·exact .inl a
  ·exact .inr (by grind)
 ·intro e
  have := h42 e
  grind
 ·intro e
  have := h5 e
  grind
theorem Bz : ∀ p : List St, p.length ≤ Ak p
 | [] => Nat.le_refl _
 | s :: r => by have h1 := LP s; have h2 := Bz r; simp only [Ak, List.length_cons]; omega
theorem Dc : ∀ {p : List St}, ∀ s ∈ p, Ab s ≤ Ak p
 | [], s, h => by cases h
 | x :: r, s, hs => by
  simp only [Ak]
  rcases List.mem_cons.1 hs with e | hs
  ·rw [e]; omega
  ·have := Dc s hs; omega
theorem UP (c : Nat) : ∀ l : List Nat, min l.sum c = min (l.map (min · c)).sum c
 | [] => rfl
 | a :: r => by
  have := UP c r
  simp only [List.map_cons, List.sum_cons]
  omega
theorem min_mul (c n b : Nat) : min (n * b) c = min (n * min b c) c := by
 rcases Nat.le_total b c with h | h
 ·rw [Nat.min_eq_left h]
 ·rw [Nat.min_eq_right h]
  rcases Nat.eq_zero_or_pos n with e | e
  ·subst e; simp
  ·have h1 : c ≤ n * c := Nat.le_mul_of_pos_left c e
   have h2 : n * c ≤ n * b := Nat.mul_le_mul_left n h
   omega
theorem L4 (c : Nat) (k n : Int) (v : List Int) (bs : List Nat) : min (CB k n v bs) c = min (CB k n v (bs.map (min · c))) c := by
 have g : ∀ i : Nat, (bs.map (min · c)).getD i 0 = min (bs.getD i 0) c := by
  intro i
  simp only [List.getD_eq_getElem?_getD, List.getElem?_map]
  cases bs[i]? <;> simp
 unfold CB
 rw [g, g]
 split
 ·rfl
 ·split
  ·rfl
  ·split
   ·omega
   ·split
    ·exact min_mul c _ _
    ·split
     ·omega
     ·exact UP c bs
theorem JC {v : List Int} (hl : v.length = 3) (hv : BU 2 0 v = true) : ∃ a b c : Int, v = [a, b, c] ∧ 0 ≤ a ∧ a ≤ 9999 ∧ 0 ≤ b ∧ b ≤ 10000 ∧ 1 ≤ c ∧ c ≤ 9999 := by
 match v, hl with
 | [a, b, c], _ =>
  simp [BU, FU] at hv
  exact ⟨a, b, c, rfl, by omega, by omega, by omega, by omega, by omega, by omega⟩
theorem LB (o m : Int) (v : List Int) (p : List St) (hv : v.length ≤ 140737488355328) : APure Tryz.prog 36 [encS (.mk 1 o m v p)] (aI (v.length : Nat)) := by
 have hvl : (v.map aI).length = v.length := by simp
 rw [AF]
 generalize v.map aI = va at *
 
 refine A7 Tryz.func36 NC rfl fun n H hH => ?_
 repeat' (first | (simp -implicitDefEqProofs [Dt, Dy, Dm, Ds, Dk, E5, Dx, Dj, Dq, c36, -getElem?_pos, hvl, AM, AQ]) | (simp (disch := omega) only [AA]) | (with_reducible first | refine A6 ?_ ?_ ?_ | exact AC | refine SameB.upd ?_ ?_ _ | assumption | refine A0 ?_ | refine KM.of ?_ | refine AB ?_ | refine A1 ?_ | refine A4 ?_ | intro _g _hg | refine AD ?_ ?_ | intro _hc) | omega)
theorem Yc (a b c : Int) (hc : 1 ≤ c) : max 0 ((b - a + c - 1).tdiv c) = (G4 [a, b, c] : Int) := by
 show _ = ((((b - a + c - 1) / c).toNat : Nat) : Int)
 rcases Int.lt_or_le (b - a + c - 1) 0 with h | h
 ·have h1 : (b - a + c - 1) / c < 0 := Int.ediv_neg_of_neg_of_pos h (by omega)
  have h2 : (b - a + c - 1).tdiv c ≤ 0 := by
   have := Int.tdiv_nonneg (a := -(b - a + c - 1)) (b := c) (by omega) (by omega)
   rw [Int.neg_tdiv] at this
   omega
  omega
 ·rw [Int.tdiv_eq_ediv_of_nonneg h]
  have := Int.ediv_nonneg h (b := c) (by omega)
  omega
theorem Mc (o m : Int) (v : List Int) (p : List St) (hl : v.length = 3) (hv : BU 2 0 v = true) : APure Tryz.prog 36 [encS (.mk 2 o m v p)] (aI (G4 v : Nat)) := by
 obtain ⟨a, b, c, rfl, ha, ha', hb, hb', hc, hc'⟩ := JC hl hv
 have hr := Yc a b c hc
 have hq : -30000 ≤ (b - a + c - 1).tdiv c ∧ (b - a + c - 1).tdiv c ≤ 30000 := by
  have := Int.natAbs_tdiv_le_natAbs (b - a + c - 1) c
  omega
 rw [AF]
 generalize hz : G4 [a, b, c] = z at *
 
 refine A7 Tryz.func36 NC rfl fun n H hH => ?_
 repeat' (first | (simp -implicitDefEqProofs [Dt, Dy, Dm, Ds, Dk, E5, Dx, Dj, Dq, c36, -getElem?_pos, AM, AQ]) | (simp (disch := omega) only [AA]) | (with_reducible first | refine A6 ?_ ?_ ?_ | exact AC | refine SameB.upd ?_ ?_ _ | assumption | refine A0 ?_ | refine KM.of ?_ | refine AB ?_ | refine A1 ?_ | refine A4 ?_ | intro _g _hg | refine AD ?_ ?_ | intro _hc) | omega)
 all_goals (rw [IntKind.i64_wrap_id (by omega) (by omega)]; omega)
def rgE (l : Aq) : Prop := ∀ e ∈ l, 0 ≤ e.1 ∧ e.1 ≤ 9999
theorem rgE.nil : rgE [] := fun e h => by cases h
theorem rgE.cons {x : Int} {c : AZ} {l : Aq} (h : 0 ≤ x ∧ x ≤ 9999) (k : rgE l) : rgE ((x, c) :: l) := fun e he => by
 rcases List.mem_cons.1 he with rfl | he
 ·exact h
 ·exact k e he
theorem rgE.hd {x : Int} {c : AZ} {l : Aq} (h : rgE ((x, c) :: l)) : 0 ≤ x ∧ x ≤ 9999 := h (x, c) List.mem_cons_self
theorem rgE.tl {x : Int} {c : AZ} {l : Aq} (h : rgE ((x, c) :: l)) : rgE l := fun e he => h e (List.mem_cons_of_mem _ he)
theorem rgE.app {l m : Aq} (h : rgE l) (k : rgE m) : rgE (l ++ m) := fun e he => (List.mem_append.1 he).elim (h e) (k e)
theorem Sq {o x y : Int} (hx : 0 ≤ x ∧ x ≤ 9999) (hy : 0 ≤ y ∧ y ≤ 9999) (hz : o = 1 ∨ o = 2 ∨ o = 3 ∨ o = 4 ∨ o = 5 ∨ 1 ≤ y) : 0 ≤ DZ o x y ∧ DZ o x y ≤ 9999 := by
 unfold DZ
 split
 ·omega
 ·split
  ·omega
  ·split
   ·omega
   ·split
    ·omega
    ·split
     ·omega
     ·have h1 := Int.emod_nonneg x (show y ≠ 0 by omega)
      have h2 := Int.emod_lt_of_pos x (show 0 < y by omega)
      omega
theorem PE : ∀ (xs : List Int) (i : Nat), (Rb i xs).length = xs.length
 | [], _ => rfl
 | x :: r, i => by simp [Rb, PE r]
theorem Pv : ∀ (xs : List Int) (i : Nat), ∀ e ∈ Rb i xs, e.1 ∈ xs
 | [], _, e, h => by cases h
 | x :: r, i, e, h => by
  simp only [Rb, List.mem_cons] at h
  rcases h with rfl | h
  ·simp
  ·exact List.mem_cons_of_mem _ (Pv r _ e h)
theorem Tw : ∀ (n : Nat) (cur : AZ) (l : Aq) (fin : AZ), (DE n cur l fin).1.length = min n l.length
 | 0, _, _, _ => by simp [DE]
 | n + 1, _, [], _ => by simp [DE]
 | n + 1, _, (x, c) :: r, fin => by simp [DE, Tw n c r fin]
theorem Zu : ∀ (n : Nat) (cur : AZ) (l : Aq) (fin : AZ), (DE n cur l fin).1 = l.take n
 | 0, _, _, _ => by simp [DE]
 | n + 1, _, [], _ => by simp [DE]
 | n + 1, _, (x, c) :: r, fin => by simp [DE, Zu n c r fin]
theorem Ny (p : Int → Bool) : ∀ (l : Aq) (fin : AZ), (Ev p l fin).1.Sublist l
 | [], _ => by simp [Ev]
 | (x, c) :: r, fin => by
  simp only [Ev]
  split
  ·exact (Ny p r fin).cons₂ _
  ·exact List.nil_sublist _
theorem QV (p : Int → Bool) : ∀ (l : Aq), (Ie p l).Sublist l
 | [] => by simp [Ie]
 | (x, c) :: r => by
  simp only [Ie]
  split
  ·exact (QV p r).cons _
  ·exact List.Sublist.refl _
theorem Ky : ∀ (last : Int) (l : Aq), (Fh last l).Sublist l
 | _, [] => by simp [Fh]
 | last, (x, c) :: r => by
  simp only [Fh]
  split
  ·exact (Ky x r).cons₂ _
  ·exact (Ky last r).cons _
theorem UC (f : Int → Int → Int) : ∀ (n : Int) (l : Aq), (LQ f n l).length = l.length
 | _, [] => rfl
 | n, (x, c) :: r => by simp [LQ, UC f]
theorem Qi (f : Int → Int → Int) (N : Nat) : ∀ (last : List Int) (l : Aq), (FP f N last l).length ≤ l.length
 | _, [] => by simp [FP]
 | last, (x, c) :: r => by
  simp only [FP]
  split
  ·have := Qi f N (last ++ [x]) r; simp; omega
  ·have := Qi f N ((last ++ [x]).drop (last.length + 1 - N)) r; simp; omega
theorem SZ (xs : List Int) (fin : AZ) : ∀ n, (Eo xs fin n).length = n * xs.length
 | 0 => by simp [Eo]
 | n + 1 => by simp [Eo, SZ xs fin n, Nat.succ_mul, Nat.add_comm]
theorem P8 : ∀ (m : Nat) (q : List (Nat × Aq × AZ)) (cs : List AZ), (EH m q cs).1.length ≤ (q.map fun e => e.2.1.length).sum
 | 0, _, _ => by simp [EH]
 | _ + 1, [], _ => by simp [EH]
 | m + 1, (i, [], fin) :: q, cs => by
  have := P8 m q (cs.set i fin)
  simpa [EH] using this
 | m + 1, (i, (x, c) :: r, fin) :: q, cs => by
  have := P8 m (q ++ [(i, r, fin)]) (cs.set i c)
  simp only [List.map_append, List.sum_append, List.map_cons, List.map_nil, List.sum_cons, List.sum_nil] at this
  simp only [EH, List.length_cons, List.map_cons, List.sum_cons]
  omega
theorem U8 (f : Int → Int → Int) (fa fb : AZ) : ∀ (a : Aq) (cb : AZ) (b : Aq), (G0 f fa fb a cb b).1.length ≤ min a.length b.length
 | [], _, _ => by simp [G0]
 | (_, _) :: _, _, [] => by simp [G0]
 | (x, c) :: r, _, (y, d) :: t => by have := U8 f fa fb r d t; simp [G0]; omega
theorem Ij (fa fb : AZ) : ∀ (a b : Aq), (DY fa fb a b).length = a.length + b.length
 | [], [] => by rw [DY]; rfl
 | [], (y, d) :: t => by rw [DY]; simp [Ij fa fb [] t]
 | (x, c) :: r, [] => by rw [DY]; simp [Ij fa fb r []]
 | (x, c) :: r, (y, d) :: t => by
  rw [DY]
  split
  ·simp [Ij fa fb r ((y, d) :: t)]; omega
  ·simp [Ij fa fb ((x, c) :: r) t]; omega
 termination_by a b => a.length + b.length
theorem U0 : ∀ Fs : List Fut, (D0 Fs).l.length = (Fs.map fun F => F.l.length).sum
 | [] => rfl
 | F :: Fs => by simp [D0, U0 Fs]
theorem Yu (k o n : Int) (F : Fut) (hk : 3 ≤ k ∧ k ≤ 12) : (CC k o n F).l.length ≤ (if k = 5 then min n.toNat F.l.length else if k = 12 then n.toNat * F.l.length else F.l.length) := by
 unfold CC
 by_cases h3 : k = 3
 ·subst h3; simp
 by_cases h4 : k = 4
 ·subst h4; simpa using List.length_filter_le _ _
 by_cases h5 : k = 5
 ·subst h5; simp [Tw]
 by_cases h6 : k = 6
 ·subst h6; simp
 by_cases h7 : k = 7
 ·subst h7; simpa using (Ny _ _ _).length_le
 by_cases h8 : k = 8
 ·subst h8; simpa using (QV _ _).length_le
 by_cases h9 : k = 9
 ·subst h9; simp [UC]
 by_cases h10 : k = 10
 ·subst h10; simpa using Qi _ _ _ _
 by_cases h11 : k = 11
 ·subst h11; simpa using (Ky _ _).length_le
 have h12 : k = 12 := by omega
 subst h12
 simp only [MO]
 simp
 split
 ·simp
 ·rename_i hn
  simp [SZ]
  obtain ⟨m, hm⟩ : ∃ m, n.toNat = m + 1 := ⟨n.toNat - 1, by omega⟩
  rw [hm, Nat.succ_mul]; simp; omega
theorem rgE.sub {l m : Aq} (h : rgE m) (k : l.Sublist m) : rgE l := fun e he => h e (k.subset he)
theorem rgE.map {l : Aq} (f : Int → Int) (h : ∀ x, 0 ≤ x ∧ x ≤ 9999 → 0 ≤ f x ∧ f x ≤ 9999) (k : rgE l) : rgE (l.map fun e => (f e.1, e.2)) := fun e he => by
 obtain ⟨y, hy, rfl⟩ := List.mem_map.1 he
 exact h _ (k y hy)
theorem rgE.sca {f : Int → Int → Int} (hf : ∀ x y, 0 ≤ x ∧ x ≤ 9999 → 0 ≤ y ∧ y ≤ 9999 → 0 ≤ f x y ∧ f x y ≤ 9999) : ∀ {n : Int} {l : Aq}, 0 ≤ n ∧ n ≤ 9999 → rgE l → rgE (LQ f n l)
 | _, [], _, _ => rgE.nil
 | n, (x, c) :: r, hn, h => rgE.cons (hf _ _ hn h.hd) (rgE.sca hf (hf _ _ hn h.hd) h.tl)
theorem NN {f : Int → Int → Int} (hf : ∀ x y, 0 ≤ x ∧ x ≤ 9999 → 0 ≤ y ∧ y ≤ 9999 → 0 ≤ f x y ∧ f x y ≤ 9999) : ∀ (l : List Int) (a : Int), (0 ≤ a ∧ a ≤ 9999) → (∀ x ∈ l, 0 ≤ x ∧ x ≤ 9999) → 0 ≤ l.foldl f a ∧ l.foldl f a ≤ 9999
 | [], a, h, _ => h
 | x :: r, a, h, k => NN hf r (f a x) (hf _ _ h (k x List.mem_cons_self)) fun y hy => k y (List.mem_cons_of_mem _ hy)
theorem YE {f : Int → Int → Int} (hf : ∀ x y, 0 ≤ x ∧ x ≤ 9999 → 0 ≤ y ∧ y ≤ 9999 → 0 ≤ f x y ∧ f x y ≤ 9999) : ∀ (l : List Int), (∀ x ∈ l, 0 ≤ x ∧ x ≤ 9999) → 0 ≤ Lc f l ∧ Lc f l ≤ 9999
 | [], _ => by simp [Lc]
 | x :: r, k => NN hf r x (k x List.mem_cons_self) fun y hy => k y (List.mem_cons_of_mem _ hy)
theorem rgE.win {f : Int → Int → Int} (hf : ∀ x y, 0 ≤ x ∧ x ≤ 9999 → 0 ≤ y ∧ y ≤ 9999 → 0 ≤ f x y ∧ f x y ≤ 9999) (N : Nat) : ∀ {last : List Int} {l : Aq}, (∀ x ∈ last, 0 ≤ x ∧ x ≤ 9999) → rgE l → rgE (FP f N last l)
 | _, [], _, _ => rgE.nil
 | last, (x, c) :: r, hl, h => by
  have h1 : ∀ y ∈ last ++ [x], 0 ≤ y ∧ y ≤ 9999 := fun y hy => by
   rcases List.mem_append.1 hy with hy | hy
   ·exact hl y hy
   ·simp at hy; subst hy; exact h.hd
  simp only [FP]
  split
  ·exact rgE.win hf N h1 h.tl
  ·have h2 : ∀ y ∈ (last ++ [x]).drop (last.length + 1 - N), 0 ≤ y ∧ y ≤ 9999 := fun y hy => h1 y (List.mem_of_mem_drop hy)
   exact rgE.cons (YE hf _ h2) (rgE.win hf N h2 h.tl)
theorem rgE.rep {xs : List Int} {fin : AZ} (h : ∀ x ∈ xs, 0 ≤ x ∧ x ≤ 9999) : ∀ n, rgE (Eo xs fin n)
 | 0 => rgE.nil
 | n + 1 => by
  rw [Eo]
  refine rgE.app (fun e he => ?_) (rgE.rep h n)
  obtain ⟨x, hx, rfl⟩ := List.mem_map.1 he
  exact h x hx
theorem rgE.tur : ∀ (m : Nat) (q : List (Nat × Aq × AZ)) (cs : List AZ), (∀ e ∈ q, rgE e.2.1) → rgE (EH m q cs).1
 | 0, _, _, _ => rgE.nil
 | _ + 1, [], _, _ => rgE.nil
 | m + 1, (i, [], fin) :: q, cs, h => rgE.tur m q _ fun e he => h e (List.mem_cons_of_mem _ he)
 | m + 1, (i, (x, c) :: r, fin) :: q, cs, h => by
  have h1 := h _ List.mem_cons_self
  refine rgE.cons h1.hd (rgE.tur m _ _ fun e he => ?_)
  rcases List.mem_append.1 he with he | he
  ·exact h e (List.mem_cons_of_mem _ he)
  ·simp at he; subst he; exact h1.tl
theorem rgE.zip {f : Int → Int → Int} (hf : ∀ x y, 0 ≤ x ∧ x ≤ 9999 → 0 ≤ y ∧ y ≤ 9999 → 0 ≤ f x y ∧ f x y ≤ 9999) (fa fb : AZ) : ∀ {a : Aq} {cb : AZ} {b : Aq}, rgE a → rgE b → rgE (G0 f fa fb a cb b).1
 | [], _, _, _, _ => rgE.nil
 | (_, _) :: _, _, [], _, _ => rgE.nil
 | (x, c) :: r, _, (y, d) :: t, h, k => rgE.cons (hf _ _ h.hd k.hd) (rgE.zip hf fa fb h.tl k.tl)
theorem rgE.mer (fa fb : AZ) : ∀ {a b : Aq}, rgE a → rgE b → rgE (DY fa fb a b)
 | [], [], _, _ => by rw [DY]; exact rgE.nil
 | [], (y, d) :: t, h, k => by rw [DY]; exact rgE.cons k.hd (rgE.mer fa fb h k.tl)
 | (x, c) :: r, [], h, k => by rw [DY]; exact rgE.cons h.hd (rgE.mer fa fb h.tl k)
 | (x, c) :: r, (y, d) :: t, h, k => by
  rw [DY]
  split
  ·exact rgE.cons h.hd (rgE.mer fa fb h.tl k)
  ·exact rgE.cons k.hd (rgE.mer fa fb h k.tl)
 termination_by a b => a.length + b.length
theorem rgE.cha : ∀ {Fs : List Fut}, (∀ F ∈ Fs, rgE F.l) → rgE (D0 Fs).l
 | [], _ => rgE.nil
 | F :: Fs, h => by
  have h1 := h F List.mem_cons_self
  have h2 := rgE.cha fun G hG => h G (List.mem_cons_of_mem _ hG)
  refine rgE.app (fun e he => ?_) (fun e he => ?_)
  ·obtain ⟨y, hy, rfl⟩ := List.mem_map.1 he; exact h1 y hy
  ·obtain ⟨y, hy, rfl⟩ := List.mem_map.1 he; exact h2 y hy
theorem SR {o : Int} (ho : 1 ≤ o ∧ o ≤ 5) : ∀ x y, 0 ≤ x ∧ x ≤ 9999 → 0 ≤ y ∧ y ≤ 9999 → 0 ≤ DZ o x y ∧ DZ o x y ≤ 9999 := fun x y hx hy => Sq hx hy (by omega)
theorem Uk {k : Int} : ∀ {v : List Int} {i : Nat}, k ≠ 2 → BU k i v = true → ∀ x ∈ v, 0 ≤ x ∧ x ≤ 9999
 | [], _, _, _, x, hx => by cases hx
 | y :: r, i, hk, h, x, hx => by
  simp only [BU, Bool.and_eq_true] at h
  rcases List.mem_cons.1 hx with e | hx
  ·rw [e]; have := h.1; simp [FU, hk] at this; omega
  ·exact Uk hk h.2 x hx
theorem YT {a b c : Int} (ha : 0 ≤ a) (hb : b ≤ 10000) (hc : 1 ≤ c) : ∀ x ∈ FO [a, b, c], 0 ≤ x ∧ x ≤ 9999 := by
 intro x hx
 simp only [FO, List.mem_map, List.mem_range, G4] at hx
 obtain ⟨i, hi, rfl⟩ := hx
 have h0 : 0 ≤ (i : Int) * c := Int.mul_nonneg (by omega) (by omega)
 have h1 : (i : Int) + 1 ≤ (b - a + c - 1) / c := by omega
 have h2 := Int.mul_le_of_le_ediv (a := (i : Int) + 1) (by omega : 0 < c) h1
 rw [Int.add_mul] at h2
 omega
theorem A1i {k o n : Int} {v : List Int} {p : List St} (h : NodeOk k o n v p) (hk : 3 ≤ k ∧ k ≤ 12) {F : Fut} (hF : rgE F.l) : rgE (CC k o n F).l := by
 unfold CC
 by_cases h3 : k = 3
 ·subst h3
  have hn := h.num (by decide)
  have ho := h.fn (by decide)
  simp only [J6, J7, D6] at hn
  rw [if_pos rfl]
  exact hF.map (fun x => DZ o x n) fun x hx => Sq hx (by grind) (by grind)
 by_cases h4 : k = 4
 ·subst h4; exact hF.sub List.filter_sublist
 by_cases h5 : k = 5
 ·subst h5; simp only [Zu]; exact hF.sub (List.take_sublist _ _)
 by_cases h6 : k = 6
 ·subst h6; exact hF.sub (List.drop_sublist _ _)
 by_cases h7 : k = 7
 ·subst h7; exact hF.sub (Ny _ _ _)
 by_cases h8 : k = 8
 ·subst h8; exact hF.sub (QV _ _)
 by_cases h9 : k = 9
 ·subst h9
  have hn := h.num (by decide)
  have ho := h.fn (by decide)
  simp only [J6, J7, D6] at hn
  exact rgE.sca (SR (by omega)) (by grind) hF
 by_cases h10 : k = 10
 ·subst h10
  have ho := h.fn (by decide)
  exact rgE.win (SR (by omega)) _ (by simp) hF
 by_cases h11 : k = 11
 ·subst h11; exact hF.sub (Ky _ _)
 have h12 : k = 12 := by omega
 subst h12
 show rgE (MO n.toNat F).l
 unfold MO
 split
 ·exact rgE.nil
 ·exact rgE.app hF (rgE.rep (fun x hx => by obtain ⟨e, he, rfl⟩ := List.mem_map.1 hx; exact hF e he) _)
theorem ZA {k o n : Int} {v : List Int} {p : List St} (h : NodeOk k o n v p) (hp : ∀ s ∈ p, (AY s).l.length ≤ AW s ∧ rgE (AY s).l) : (CO k o n v (Es p)).l.length ≤ CB k n v (DK p) ∧ rgE (CO k o n v (Es p)).l := by
 by_cases h1 : k = 1
 ·subst h1
  refine ⟨by simp [CO, Gi, PE, CB], fun e he => Uk (by decide) h.vals e.1 (Pv _ _ e (by simpa [CO, Gi] using he))⟩
 by_cases h2 : k = 2
 ·subst h2
  obtain ⟨a, b, c, rfl, ha, ha', hb, hb', hc, hc'⟩ := JC (h.rng rfl) h.vals
  refine ⟨by simp [CO, Gi, PE, CB, FO], fun e he => YT ha hb' hc e.1 (Pv _ _ e (by simpa [CO, Gi] using he))⟩
 have hsum : ((p.map AY).map fun F => F.l.length).sum ≤ (p.map AW).sum := by
  clear h
  induction p with
  | nil => simp
  | cons s r ih =>
   have h3 := (hp s List.mem_cons_self).1
   have h4 := ih fun x hx => hp x (List.mem_cons_of_mem _ hx)
   simp only [List.map_cons, List.sum_cons]; omega
 by_cases h13 : k = 13
 ·subst h13
  have e : CO 13 o n v (Es p) = D0 (p.map AY) := by simp [CO, F9]
  rw [e, U0]
  refine ⟨by simpa [CB, FG] using hsum, rgE.cha fun F hF => ?_⟩
  obtain ⟨s, hs, rfl⟩ := List.mem_map.1 hF
  exact (hp s hs).2
 by_cases h14 : k = 14
 ·subst h14
  have e : CO 14 o n v (Es p) = Hv (p.map AY) := by simp [CO, F9]
  rw [e]
  refine ⟨?_, ?_⟩
  ·refine Nat.le_trans (P8 _ _ _) ?_
   have e2 : (((p.map AY).zipIdx.map fun x => (x.2, x.1.l, x.1.fin)).map fun e => e.2.1.length) = (p.map AY).map fun F => F.l.length := by
    rw [List.map_map]
    have : ((fun (e : Nat × Aq × AZ) => e.2.1.length) ∘ fun (x : Fut × Nat) => (x.2, x.1.l, x.1.fin)) = (fun F => F.l.length) ∘ Prod.fst := rfl
    rw [this, ← List.map_map, List.zipIdx_map_fst]
   rw [e2]
   simpa [CB, FG] using hsum
  ·refine rgE.tur _ _ _ fun e he => ?_
   obtain ⟨⟨F, i⟩, hm, rfl⟩ := List.mem_map.1 he
   obtain ⟨s, hs, e2⟩ := List.mem_map.1 (List.fst_mem_of_mem_zipIdx hm)
   simp only at e2 ⊢
   rw [← e2]
   exact (hp s hs).2
 by_cases h15 : k = 15
 ·subst h15
  have hl := h.two (.inl rfl)
  obtain ⟨x, y, rfl⟩ : ∃ x y, p = [x, y] := by
   match p, hl with
   | [x, y], _ => exact ⟨x, y, rfl⟩
  ·have hx := hp x (by simp)
   have hy := hp y (by simp)
   have e : (CO 15 o n v (Es [x, y])).l = (G0 (DZ o) (AY x).fin (AY y).fin (AY x).l (AY y).cur (AY y).l).1 := by simp [CO, Es]
   rw [e]
   refine ⟨Nat.le_trans (U8 _ _ _ _ _ _) (by simp [CB, DK]; omega), rgE.zip (SR ?_) _ _ hx.2 hy.2⟩
   have := h.fn (by decide)
   omega
 by_cases h16 : k = 16
 ·subst h16
  have hl := h.two (.inr rfl)
  obtain ⟨x, y, rfl⟩ : ∃ x y, p = [x, y] := by
   match p, hl with
   | [x, y], _ => exact ⟨x, y, rfl⟩
  ·have hx := hp x (by simp)
   have hy := hp y (by simp)
   have e : (CO 16 o n v (Es [x, y])).l = DY (AY x).fin (AY y).fin (AY x).l (AY y).l := by simp [CO, Es]
   rw [e]
   exact ⟨by rw [Ij]; simp [CB, DK]; omega, rgE.mer _ _ hx.2 hy.2⟩
 have hl := h.one h1 h2 h13 h14 h15 h16
 have hk : 3 ≤ k ∧ k ≤ 12 := by have := h.k1; have := h.k2; omega
 obtain ⟨x, rfl⟩ : ∃ x, p = [x] := by
  match p, hl with
  | [x], _ => exact ⟨x, rfl⟩
 ·have hx := hp x (by simp)
  have e : CO k o n v (Es [x]) = CC k o n (AY x) := by simp [CO, Es, h1, h2, h13, h14]
  rw [e]
  refine ⟨Nat.le_trans (Yu k o n _ hk) ?_, A1i h hk hx.2⟩
  simp only [CB, DK, if_neg h1, if_neg h2, if_neg h15]
  simp
  split
  ·omega
  ·split
   ·exact Nat.mul_le_mul_left _ hx.1
   ·exact hx.1
theorem Hn (s : St) : HE s → (AY s).l.length ≤ AW s ∧ rgE (AY s).l := by
 refine St.ind (Q := fun s => HE s → (AY s).l.length ≤ AW s ∧ rgE (AY s).l) ?_ s
 intro k o n v p ih ⟨hn, hp⟩
 rw [AY, AW]
 exact ZA (C8 hn) fun s hs => ih s hs (De hp s hs)
def asks (x : AV) (n : Nat) (H : A3) (R : CJ) : Prop := match x with
 | .fn f a b => Ae Tryz.prog f = true ∧ ACalls Tryz.prog f (a ++ [] ++ b) n H R
 | _ => False
def Cd (cs : AZ) (lo : Nat) (c : AZ) : AZ := cs.take lo ++ c ++ cs.drop (lo + c.length)
theorem YK {cs : AZ} {lo : Nat} {c : AZ} (h : lo + c.length ≤ cs.length) : (Cd cs lo c).length = cs.length := by simp [Cd]; omega
structure Giv (gO lo : Nat) (c : AZ) (H : A3) (gg : Nat) (cs : AZ) : Prop where
 opn : H gO = some (.cells 74 [.slg 1 gg cs.length])
 giv : H gg = some (.grow 3 (cs.map aI))
 fit : lo + c.length ≤ cs.length
 at_ : (cs.drop lo).take c.length = c
structure Aft (lo gg : Nat) (cs c : AZ) (O : Nat → Prop) (n : Nat) (H : A3) (n' : Nat) (H' : A3) (O' : Nat → Prop) : Prop where
 le : n ≤ n'
 sub : ∀ g, O' g → O g ∨ n ≤ g
 bel : ∀ g, O' g → g < n'
 fr : ∀ g, g < n → ¬ O g → g ≠ gg → H' g = H g
 giv : H' gg = some (.grow 3 ((Cd cs lo c).map aI))
def Ended (gO lo : Nat) (fin : AZ) (x : AV) (O : Nat → Prop) (H0 : A3) (n0 : Nat) : Prop := ∀ n H gg cs, n0 ≤ n → (∀ g, O g → H g = H0 g) → ¬ O gg → ¬ O gO → Giv gO lo fin H gg cs →
 asks x n H fun r n' H' => r = .tup [aI 0, .bool false] ∧ n' = n ∧ H' = H
def Raw (e : Bool) (gO lo : Nat) (fin : AZ) (x : AV) : Aq → AZ → (Nat → Prop) → A3 → Nat → Prop
 | [], cur, O, H0, n0 => ∀ n H gg cs, n0 ≤ n → (∀ g, O g → H g = H0 g) → ¬ O gg → ¬ O gO → Giv gO lo cur H gg cs →
  asks x n H fun r n' H' => ∃ (v : Int) (O' : Nat → Prop), r = .tup [aI v, .bool false] ∧ Aft lo gg cs fin O n H n' H' O' ∧ (e = true → Ended gO lo fin x O' H' n')
 | (y, c) :: l, cur, O, H0, n0 => ∀ n H gg cs, n0 ≤ n → (∀ g, O g → H g = H0 g) → ¬ O gg → ¬ O gO → Giv gO lo cur H gg cs →
  asks x n H fun r n' H' => ∃ (O' : Nat → Prop), r = .tup [aI y, .bool true] ∧ Aft lo gg cs c O n H n' H' O' ∧ Raw e gO lo fin x l c O' H' n'
def A2y (e : Bool) (gO lo : Nat) (fin : AZ) (x : AV) (gg : Nat) (cs : AZ) (O : Nat → Prop) (n : Nat) (H : A3) : CJ := fun r n' H' => ∃ (v : Int) (O' : Nat → Prop), r = .tup [aI v, .bool false] ∧ Aft lo gg cs fin O n H n' H' O' ∧ (e = true → Ended gO lo fin x O' H' n')
def PEl (e : Bool) (gO lo : Nat) (fin : AZ) (x : AV) (gg : Nat) (cs : AZ) (O : Nat → Prop) (n : Nat) (H : A3) (y : Int) (c : AZ) (l : Aq) : CJ := fun r n' H' => ∃ (O' : Nat → Prop), r = .tup [aI y, .bool true] ∧ Aft lo gg cs c O n H n' H' O' ∧ Raw e gO lo fin x l c O' H' n'
def Cv (e : Bool) (gO lo : Nat) (fin : AZ) (x : AV) (gg : Nat) (cs : AZ) (O : Nat → Prop) (n : Nat) (H : A3) : Aq → CJ
 | [] => A2y e gO lo fin x gg cs O n H
 | (y, c) :: l => PEl e gO lo fin x gg cs O n H y c l
theorem Raw.of {e : Bool} {gO lo : Nat} {fin : AZ} {x : AV} {l : Aq} {cur : AZ} {O : Nat → Prop} {H0 : A3} {n0 : Nat} (h : ∀ n H gg cs, n0 ≤ n → (∀ g, O g → H g = H0 g) → ¬ O gg → ¬ O gO → Giv gO lo cur H gg cs → asks x n H (Cv e gO lo fin x gg cs O n H l)) : Raw e gO lo fin x l cur O H0 n0 := by
 cases l <;> exact h
theorem Raw.to {e : Bool} {gO lo : Nat} {fin : AZ} {x : AV} {l : Aq} {cur : AZ} {O : Nat → Prop} {H0 : A3} {n0 : Nat} (h : Raw e gO lo fin x l cur O H0 n0) : ∀ n H gg cs, n0 ≤ n → (∀ g, O g → H g = H0 g) → ¬ O gg → ¬ O gO → Giv gO lo cur H gg cs → asks x n H (Cv e gO lo fin x gg cs O n H l) := by
 cases l <;> exact h
def A29 (n : Nat) (H : A3) : CJ := fun r n' H' => r = .tup [aI 0, .bool false] ∧ n' = n ∧ H' = H
theorem Ended.at_ {gO lo : Nat} {fin : AZ} {x : AV} {O : Nat → Prop} {H0 H1 : A3} {n0 n1 : Nat} (h : Ended gO lo fin x O H0 n0) (hH : ∀ g, O g → H1 g = H0 g) (hn : n0 ≤ n1) : Ended gO lo fin x O H1 n1 :=
 fun n H gg cs h1 h2 => h n H gg cs (Nat.le_trans hn h1) fun g hg => (h2 g hg).trans (hH g hg)
theorem Raw.at_ {e : Bool} {gO lo : Nat} {fin : AZ} {x : AV} {l : Aq} {cur : AZ} {O : Nat → Prop} {H0 H1 : A3} {n0 n1 : Nat} (h : Raw e gO lo fin x l cur O H0 n0) (hH : ∀ g, O g → H1 g = H0 g) (hn : n0 ≤ n1) : Raw e gO lo fin x l cur O H1 n1 := by
 match l, h with
 | [], h => exact fun n H gg cs h1 h2 => h n H gg cs (Nat.le_trans hn h1) fun g hg => (h2 g hg).trans (hH g hg)
 | (y, c) :: l, h => exact fun n H gg cs h1 h2 => h n H gg cs (Nat.le_trans hn h1) fun g hg => (h2 g hg).trans (hH g hg)
structure GoOn (n : Nat) (R : CJ) (K : AV → Nat → A3 → Prop) : Prop where
 go : ∀ r n' H', n ≤ n' → (∀ g, n' ≤ g → H' g = none) → R r n' H' → K r n' H'
theorem Bj {x : AV} {n : Nat} {H : A3} {R : CJ} {d : Option Nat} {K : AS → Prop} {en : AT} (h : asks x n H R) (hk : GoOn n R fun r n' H' => K ⟨AN en d r, n', H'⟩) : AH Tryz.prog d K en n H [] x := by
 unfold asks at h
 split at h
 ·exact ⟨h.1, R, h.2, fun r n' H' h1 h2 h3 => hk.go r n' H' h1 h2 h3⟩
 ·exact h.elim
theorem Giv.put {gO lo gg : Nat} {c c' cs : AZ} {H H' : A3} (h : Giv gO lo c H gg cs) (hl : c'.length = c.length) (h1 : H' gO = H gO) (h2 : H' gg = some (.grow 3 ((Cd cs lo c').map aI))) : Giv gO lo c' H' gg (Cd cs lo c') := by
 have h3 := h.fit
 have h4 := YK (cs := cs) (lo := lo) (c := c') (by omega)
 refine ⟨by rw [h1, h.opn, h4], h2, by rw [h4]; omega, ?_⟩
 unfold Cd
 rw [List.append_assoc, List.drop_append_of_le_length (by simp; omega)]
 have : (cs.take lo).drop lo = [] := List.drop_eq_nil_of_le (by simp; omega)
 rw [this]
 simp
theorem CE {cs c c' : AZ} {lo : Nat} (h : lo + c.length ≤ cs.length) (hl : c'.length = c.length) : Cd (Cd cs lo c) lo c' = Cd cs lo c' := by
 unfold Cd
 have h1 : (cs.take lo ++ c ++ cs.drop (lo + c.length)).take lo = cs.take lo := by
  rw [List.append_assoc, List.take_append_of_le_length (by simp; omega), List.take_take, Nat.min_self]
 have h2 : (cs.take lo ++ c ++ cs.drop (lo + c.length)).drop (lo + c'.length) = cs.drop (lo + c.length) := by
  rw [List.drop_append]
  have : (cs.take lo ++ c).drop (lo + c'.length) = [] := List.drop_eq_nil_of_le (by simp; omega)
  rw [this]
  have : lo + c'.length - (cs.take lo ++ c).length = 0 := by simp; omega
  rw [this]; simp
 rw [h1, h2, hl]
theorem E8 {gO lo gg : Nat} {c cs : AZ} {H : A3} (h : Giv gO lo c H gg cs) : Cd cs lo c = cs := by
 unfold Cd
 have h1 : c = (cs.drop lo).take c.length := h.at_.symm
 conv => lhs; rw [h1]
 have h2 : ((cs.drop lo).take c.length).length = c.length := by have := h.fit; simp; omega
 rw [h2, List.append_assoc, ← List.drop_drop, List.take_append_drop, List.take_append_drop]
theorem Giv.lt {gO lo gg n : Nat} {c cs : AZ} {H : A3} (h : Giv gO lo c H gg cs) (hs : ∀ g, n ≤ g → H g = none) : gO < n ∧ gg < n := by
 refine ⟨?_, ?_⟩
 ·rcases Nat.lt_or_ge gO n with h1 | h1
  ·exact h1
  ·have := h.opn; rw [hs gO h1] at this; cases this
 ·rcases Nat.lt_or_ge gg n with h1 | h1
  ·exact h1
  ·have := h.giv; rw [hs gg h1] at this; cases this
theorem Giv.keep {gO lo gg g : Nat} {c cs : AZ} {H : A3} {x : Option AObj} (h : Giv gO lo c H gg cs) (h1 : gO ≠ g) (h2 : gg ≠ g) : Giv gO lo c (upd H g x) gg cs :=
 ⟨by rw [upd_ne h1]; exact h.opn, by rw [upd_ne h2]; exact h.giv, h.fit, h.at_⟩
theorem Giv.ne {gO lo gg : Nat} {c cs : AZ} {H : A3} (h : Giv gO lo c H gg cs) : gO ≠ gg := by
 intro e
 have h1 := h.opn
 rw [e, h.giv] at h1
 cases h1
theorem Aft.same {gO lo gg n : Nat} {c cs : AZ} {H : A3} {O : Nat → Prop} (h : Giv gO lo c H gg cs) (hb : ∀ g, O g → g < n) : Aft lo gg cs c O n H n H O :=
 ⟨Nat.le_refl _, fun g h => .inl h, hb, fun g _ _ _ => rfl, by rw [E8 h]; exact h.giv⟩
theorem Aft.tr {gO lo gg n n1 n2 : Nat} {cs c c1 c2 : AZ} {H H1 H2 : A3} {O O1 O2 : Nat → Prop} (hg : Giv gO lo c H gg cs) (h : Aft lo gg cs c1 O n H n1 H1 O1) (k : Aft lo gg (Cd cs lo c1) c2 O1 n1 H1 n2 H2 O2) (l1 : c1.length = c.length) (l2 : c2.length = c.length) : Aft lo gg cs c2 O n H n2 H2 O2 := by
 refine ⟨Nat.le_trans h.le k.le, fun g h1 => ?_, k.bel, fun g h1 h2 h3 => ?_, ?_⟩
 ·rcases k.sub g h1 with h2 | h2
  ·exact h.sub g h2
  ·exact .inr (Nat.le_trans h.le h2)
 ·have h4 : ¬ O1 g := fun h4 => (h.sub g h4).elim h2 (fun h => by omega)
  rw [k.fr g (Nat.lt_of_lt_of_le h1 h.le) h4 h3, h.fr g h1 h2 h3]
 ·rw [k.giv, CE (by have := hg.fit; omega) (by omega)]
theorem Aft.gv {gO lo gg n n' : Nat} {cs c c1 : AZ} {H H' : A3} {O O' : Nat → Prop} (ha : Aft lo gg cs c1 O n H n' H' O') (hg : Giv gO lo c H gg cs) (hs : ∀ g, n ≤ g → H g = none) (h1 : ¬ O gO) (hl : c1.length = c.length) : Giv gO lo c1 H' gg (Cd cs lo c1) :=
 hg.put hl (ha.fr gO (hg.lt hs).1 h1 hg.ne) ha.giv
theorem Aft.nO {gO lo gg n n' : Nat} {cs c : AZ} {O O' : Nat → Prop} {H H' : A3} (ha : Aft lo gg cs c O n H n' H' O') (h1 : ¬ O gO) (h2 : gO < n) : ¬ O' gO := fun h => (ha.sub gO h).elim h1 (fun h => by omega)
theorem Aft.ext {B : Nat → Prop} {lo gg : Nat} {cs c : AZ} {O O' : Nat → Prop} {n n' : Nat} {H H1 H' H2 : A3} (ha : Aft lo gg cs c O n H1 n' H' O') (hB : ∀ g, B g → g < n) (hH1 : ∀ g, ¬ B g → H1 g = H g) (hH : ∀ g, ¬ B g → H2 g = H' g) (hg : ¬ B gg) :
  Aft lo gg cs c (fun g => O g ∨ B g) n H n' H2 (fun g => O' g ∨ B g) := by
 refine ⟨ha.le, fun g h => ?_, fun g h => ?_, fun g h1 h2 h3 => ?_, ?_⟩
 ·rcases h with h | h
  ·exact (ha.sub g h).elim (fun h => .inl (.inl h)) .inr
  ·exact .inl (.inr h)
 ·rcases h with h | h
  ·exact ha.bel g h
  ·have := hB g h; have := ha.le; omega
 ·rw [hH g fun h => h2 (.inr h)]; exact (ha.fr g h1 (fun h => h2 (.inl h)) h3).trans (hH1 g fun h => h2 (.inr h))
 ·rw [hH gg hg]; exact ha.giv
structure Bx (O : Nat → Prop) (gO g : Nat) (H : A3) (n : Nat) (ob : AObj) : Prop where
 no : ¬ O g
 nO : gO ≠ g
 lt : g < n
 at_ : H g = some ob
theorem Bx.to {gO g : Nat} {O : Nat → Prop} {n0 n : Nat} {H0 H : A3} {ob : AObj} (h : Bx O gO g H0 n0 ob) (hn : n0 ≤ n) (hag : H g = H0 g) : Bx O gO g H n ob := ⟨h.no, h.nO, Nat.lt_of_lt_of_le h.lt hn, hag.trans h.at_⟩
theorem Bx.go {lo gg g gO : Nat} {cs c : AZ} {O O' : Nat → Prop} {n n' : Nat} {H H' : A3} {ob : AObj} (h : Bx O gO g H n ob) (hg : gg ≠ g) (ha : Aft lo gg cs c O n H n' H' O') : Bx O' gO g H' n' ob := by
 have h1 := h.lt
 have h2 := ha.le
 exact ⟨fun h => (ha.sub g h).elim ‹Bx O gO g H n ob›.no (fun h => by omega), h.nO, by omega, (ha.fr g h1 h.no (Ne.symm hg)).trans h.at_⟩
theorem Bx.set {gO g : Nat} {O : Nat → Prop} {n : Nat} {H : A3} {ob : AObj} (ob' : AObj) (h : Bx O gO g H n ob) : Bx O gO g (upd H g (some ob')) n ob' := ⟨h.no, h.nO, h.lt, AX _ _ _⟩
theorem Bx.keep {gO g g' : Nat} {O : Nat → Prop} {n : Nat} {H : A3} {ob : AObj} {x : Option AObj} (h : Bx O gO g H n ob) (hn : g ≠ g') : Bx O gO g (upd H g' x) n ob := ⟨h.no, h.nO, h.lt, by rw [upd_ne hn]; exact h.at_⟩
theorem Mf {d : Option Nat} {K : AS → Prop} {en : AT} {n : Nat} {H : A3} {xs a b : List AV} {f : Nat} : AH Tryz.prog d K en n H xs (.fn f a b) = (Ae Tryz.prog f = true ∧ CallK Tryz.prog f (a ++ xs ++ b) d K ⟨en, n, H⟩) := rfl
abbrev BH (k o m : Int) (a b : AV) : AObj := .cells 25 [aI k, aI o, aI m, a, b]
abbrev Bt (x : AV) : AObj := .cells 76 [x]
abbrev Bm (i : Int) : AObj := .cells 3 [aI i]
abbrev Fc (b : Bool) : AObj := .cells 4 [.bool b]
theorem LM : Ae Tryz.prog 96 = true := by kernel_rfl
theorem Xf {gO lo : Nat} {fin : AZ} {g1 g2 : Nat} {O : Nat → Prop} {H0 : A3} {n0 : Nat} (o1 : O g1) (b1 : H0 g1 = some (Fc true)) :
  Ended gO lo fin (.fn 96 [] [.ptr g1 0, .ptr g2 0]) O H0 n0 := by
 intro n H gg cs hn hag hgg hgO hgv
 have q1 := (hag g1 o1).trans b1
 refine ⟨LM, ?_⟩
 show ACalls _ _ _ _ _ (A29 n H)
 refine A8 Tryz.func96 Xg rfl fun hs => ?_
 repeat' (first | (simp -implicitDefEqProofs [Jd, c96, -getElem?_pos, q1]) | (simp (disch := omega) only [AA]) | (with_reducible first | refine A6 ?_ ?_ ?_ | exact AC | assumption | refine A0 ?_ | refine KM.of ?_ | refine AB ?_ | intro _g _hg | refine AD ?_ ?_ | intro _hc) | omega)
 exact AI (r := .tup [_, _]) rfl (by omega) hs ⟨rfl, rfl, rfl⟩
theorem XC {gO lo : Nat} {fin : AZ} {px : AV} {g1 g2 : Nat} (n12 : g1 ≠ g2) : ∀ (l : Aq) (cur : AZ) (O : Nat → Prop) (H0 : A3) (n0 : Nat), Raw false gO lo fin px l cur O H0 n0 → ¬ O gO → (∀ g, O g → g < n0) →
  Bx O gO g1 H0 n0 (Fc false) → Bx O gO g2 H0 n0 (Bt px) → Raw true gO lo fin (.fn 96 [] [.ptr g1 0, .ptr g2 0]) l cur (fun g => O g ∨ g = g1 ∨ g = g2) H0 n0 := by
 intro l
 induction l with
 | nil =>
  intro cur O H0 n0 hr noO hbel B1 B2
  refine Raw.of fun n H gg cs hn hag hgg hgO hgv => ?_
  replace B1 := B1.to hn (hag g1 (.inr (.inl rfl)))
  have q1 := B1.at_
  have ng1 : gg ≠ g1 := fun h => hgg (.inr (.inl h))
  replace B2 := B2.to hn (hag g2 (.inr (.inr rfl)))
  have q2 := B2.at_
  have ng2 : gg ≠ g2 := fun h => hgg (.inr (.inr h))
  have nog : ¬ O gg := fun h => hgg (.inl h)
  replace hbel : ∀ g, O g → g < n := fun g h => Nat.lt_of_lt_of_le (hbel g h) hn
  replace hr := hr.at_ (fun g hg => hag g (.inl hg)) hn
  refine ⟨LM, ?_⟩
  have hc := hr.to n H gg cs (Nat.le_refl _) (fun _ _ => rfl) nog noO hgv
  generalize hR : Cv _ _ _ _ _ _ _ _ _ _ _ = R
  refine A8 Tryz.func96 Xg rfl fun hs => ?_
  repeat' (first | (simp -implicitDefEqProofs [Jd, c96, -getElem?_pos, q1, q2, splice, -AH]) | (simp (disch := omega) only [AA]) | (refine Bj hc ⟨?_⟩; rintro r n' H' hle hsup ⟨v, O', rfl, ha, _⟩; have B1' := B1.go ng1 ha; have B2' := B2.go ng2 ha; have q1 := B1'.at_; have q2 := B2'.at_) | (with_reducible first | refine A6 ?_ ?_ ?_ | exact AC | assumption | refine A0 ?_ | refine KM.of ?_ | refine AB ?_ | intro _g _hg | refine AD ?_ ?_ | intro _hc) | omega)
  subst hR
  have := B1'.lt
  exact AI (r := .tup [_, _]) rfl (by omega) (fun k hk => by rw [upd_ne (by omega)]; exact hsup k hk) ⟨v, _, rfl, ((ha).ext (B := fun g => g = g1 ∨ g = g2) (fun g h => by have := B1.lt; have := B2.lt; rcases h with rfl | rfl <;> omega) (fun _ _ => rfl) (fun g h => by rw [upd_ne (fun e => h (.inl e))]) (fun h => h.elim ng1 ng2)), fun _ => Xf (.inr (.inl rfl)) (AX _ _ _)⟩
 | cons e l ih =>
  obtain ⟨y, c⟩ := e
  intro cur O H0 n0 hr noO hbel B1 B2
  refine Raw.of fun n H gg cs hn hag hgg hgO hgv => ?_
  replace B1 := B1.to hn (hag g1 (.inr (.inl rfl)))
  have q1 := B1.at_
  have ng1 : gg ≠ g1 := fun h => hgg (.inr (.inl h))
  replace B2 := B2.to hn (hag g2 (.inr (.inr rfl)))
  have q2 := B2.at_
  have ng2 : gg ≠ g2 := fun h => hgg (.inr (.inr h))
  have nog : ¬ O gg := fun h => hgg (.inl h)
  replace hbel : ∀ g, O g → g < n := fun g h => Nat.lt_of_lt_of_le (hbel g h) hn
  replace hr := hr.at_ (fun g hg => hag g (.inl hg)) hn
  refine ⟨LM, ?_⟩
  have hc := hr.to n H gg cs (Nat.le_refl _) (fun _ _ => rfl) nog noO hgv
  generalize hR : Cv _ _ _ _ _ _ _ _ _ _ _ = R
  refine A8 Tryz.func96 Xg rfl fun hs => ?_
  repeat' (first | (simp -implicitDefEqProofs [Jd, c96, -getElem?_pos, q1, q2, splice, -AH]) | (simp (disch := omega) only [AA]) | (refine Bj hc ⟨?_⟩; rintro r n' H' hle hsup ⟨O', rfl, ha, hr'⟩; have B1' := B1.go ng1 ha; have B2' := B2.go ng2 ha; have q1 := B1'.at_; have q2 := B2'.at_) | (with_reducible first | refine A6 ?_ ?_ ?_ | exact AC | assumption | refine A0 ?_ | refine KM.of ?_ | refine AB ?_ | intro _g _hg | refine AD ?_ ?_ | intro _hc) | omega)
  subst hR
  have := B1'.lt
  exact AI (r := .tup [_, _]) rfl (by omega) (fun k hk => by rw [upd_ne (by omega)]; exact hsup k hk) ⟨_, rfl, ((ha).ext (B := fun g => g = g1 ∨ g = g2) (fun g h => by have := B1.lt; have := B2.lt; rcases h with rfl | rfl <;> omega) (fun _ _ => rfl) (fun g h => by rw [upd_ne (fun e => h (.inl e))]) (fun h => h.elim ng1 ng2)), ih c O' _ n' (hr'.at_ (fun g hg => upd_ne (fun h => B1'.no (h ▸ hg))) (Nat.le_refl _)) (ha.nO noO (hgv.lt hs).1) ha.bel (B1'.set _) (B2'.keep (Ne.symm n12))⟩
theorem UY : Ae Tryz.prog 104 = true := by kernel_rfl
theorem ZH {gO lo : Nat} {fin : AZ} {px a b : AV} {g1 g2 : Nat} {k op m : Int} (hop : 1 ≤ op ∧ op ≤ 6) (hm : B5 m) (h6 : op = 6 → 1 ≤ m) : ∀ (l : Aq) (cur : AZ) (O : Nat → Prop) (H0 : A3) (n0 : Nat), Raw true gO lo fin px l cur O H0 n0 → rgE l → ¬ O gO → (∀ g, O g → g < n0) →
  Bx O gO g1 H0 n0 (Bt px) → Bx O gO g2 H0 n0 (BH k op m a b) → Raw false gO lo fin (.fn 104 [] [.ptr g1 0, .ptr g2 0]) (l.map fun e => (DZ op e.1 m, e.2)) cur (fun g => O g ∨ g = g1 ∨ g = g2) H0 n0 := by
 intro l
 induction l with
 | nil =>
  intro cur O H0 n0 hr hrg noO hbel B1 B2
  refine Raw.of fun n H gg cs hn hag hgg hgO hgv => ?_
  replace B1 := B1.to hn (hag g1 (.inr (.inl rfl)))
  have q1 := B1.at_
  have ng1 : gg ≠ g1 := fun h => hgg (.inr (.inl h))
  replace B2 := B2.to hn (hag g2 (.inr (.inr rfl)))
  have q2 := B2.at_
  have ng2 : gg ≠ g2 := fun h => hgg (.inr (.inr h))
  have nog : ¬ O gg := fun h => hgg (.inl h)
  replace hbel : ∀ g, O g → g < n := fun g h => Nat.lt_of_lt_of_le (hbel g h) hn
  replace hr := hr.at_ (fun g hg => hag g (.inl hg)) hn
  refine ⟨UY, ?_⟩
  have hc := hr.to n H gg cs (Nat.le_refl _) (fun _ _ => rfl) nog noO hgv
  generalize hR : Cv _ _ _ _ _ _ _ _ _ _ _ = R
  refine A8 Tryz.func104 XR rfl fun hs => ?_
  repeat' (first | (simp -implicitDefEqProofs [L6, c104, -getElem?_pos, q1, q2, splice, -AH]) | (simp (disch := omega) only [AA]) | (refine Bj hc ⟨?_⟩; rintro r n' H' hle hsup ⟨v, O', rfl, ha, _⟩) | (with_reducible first | refine A6 ?_ ?_ ?_ | exact AC | assumption | refine A0 ?_ | refine KM.of ?_ | refine AB ?_ | intro _g _hg | refine AD ?_ ?_ | intro _hc) | omega)
  subst hR
  exact AI (r := .tup [_, _]) rfl (by omega) hsup ⟨0, _, rfl, ((ha).ext (B := fun g => g = g1 ∨ g = g2) (fun g h => by have := B1.lt; have := B2.lt; rcases h with rfl | rfl <;> omega) (fun _ _ => rfl) (fun _ _ => rfl) (fun h => h.elim ng1 ng2)), fun h => by cases h⟩
 | cons e l ih =>
  obtain ⟨y, c⟩ := e
  intro cur O H0 n0 hr hrg noO hbel B1 B2
  refine Raw.of fun n H gg cs hn hag hgg hgO hgv => ?_
  replace B1 := B1.to hn (hag g1 (.inr (.inl rfl)))
  have q1 := B1.at_
  have ng1 : gg ≠ g1 := fun h => hgg (.inr (.inl h))
  replace B2 := B2.to hn (hag g2 (.inr (.inr rfl)))
  have q2 := B2.at_
  have ng2 : gg ≠ g2 := fun h => hgg (.inr (.inr h))
  have nog : ¬ O gg := fun h => hgg (.inl h)
  replace hbel : ∀ g, O g → g < n := fun g h => Nat.lt_of_lt_of_le (hbel g h) hn
  replace hr := hr.at_ (fun g hg => hag g (.inl hg)) hn
  refine ⟨UY, ?_⟩
  have hc := hr.to n H gg cs (Nat.le_refl _) (fun _ _ => rfl) nog noO hgv
  have hap := Ir op y m hop hrg.hd hm h6
  generalize hR : Cv _ _ _ _ _ _ _ _ _ _ _ = R
  refine A8 Tryz.func104 XR rfl fun hs => ?_
  repeat' (first | (simp -implicitDefEqProofs [L6, c104, -getElem?_pos, q1, q2, splice, -AH]) | (simp (disch := omega) only [AA]) | (refine Bj hc ⟨?_⟩; rintro r n' H' hle hsup ⟨O', rfl, ha, hr'⟩; have B1' := B1.go ng1 ha; have B2' := B2.go ng2 ha; have q2 := B2'.at_) | ((with_reducible refine Aa 102 ?_); refine' Am (hap) ?_) | (with_reducible first | refine A6 ?_ ?_ ?_ | exact AC | assumption | refine A0 ?_ | refine KM.of ?_ | refine AB ?_ | intro _g _hg | refine AD ?_ ?_ | intro _hc) | omega)
  subst hR
  exact AI (r := .tup [_, _]) rfl (by omega) hsup ⟨_, rfl, ((ha).ext (B := fun g => g = g1 ∨ g = g2) (fun g h => by have := B1.lt; have := B2.lt; rcases h with rfl | rfl <;> omega) (fun _ _ => rfl) (fun _ _ => rfl) (fun h => h.elim ng1 ng2)), ih c O' _ n' hr' hrg.tl (ha.nO noO (hgv.lt hs).1) ha.bel B1' B2'⟩
theorem Mw : Ae Tryz.prog 111 = true := by kernel_rfl
theorem Vl {gO lo : Nat} {fin : AZ} {px a b : AV} {g1 g2 : Nat} {k op m : Int} (hop : 1 ≤ op ∧ op ≤ 3) (hm : B5 m) (h3 : op = 3 → 1 ≤ m) : ∀ (l : Aq) (cur : AZ) (O : Nat → Prop) (H0 : A3) (n0 : Nat), Raw true gO lo fin px l cur O H0 n0 → rgE l → ¬ O gO → (∀ g, O g → g < n0) →
  Bx O gO g1 H0 n0 (Bt px) → Bx O gO g2 H0 n0 (BH k op m a b) → Raw false gO lo (Ev (fun x => Fj op x m) l fin).2 (.fn 111 [] [.ptr g1 0, .ptr g2 0]) (Ev (fun x => Fj op x m) l fin).1 cur (fun g => O g ∨ g = g1 ∨ g = g2) H0 n0 := by
 intro l
 induction l with
 | nil =>
  intro cur O H0 n0 hr hrg noO hbel B1 B2
  refine Raw.of fun n H gg cs hn hag hgg hgO hgv => ?_
  replace B1 := B1.to hn (hag g1 (.inr (.inl rfl)))
  have q1 := B1.at_
  have ng1 : gg ≠ g1 := fun h => hgg (.inr (.inl h))
  replace B2 := B2.to hn (hag g2 (.inr (.inr rfl)))
  have q2 := B2.at_
  have ng2 : gg ≠ g2 := fun h => hgg (.inr (.inr h))
  have nog : ¬ O gg := fun h => hgg (.inl h)
  replace hbel : ∀ g, O g → g < n := fun g h => Nat.lt_of_lt_of_le (hbel g h) hn
  replace hr := hr.at_ (fun g hg => hag g (.inl hg)) hn
  refine ⟨Mw, ?_⟩
  have hc := hr.to n H gg cs (Nat.le_refl _) (fun _ _ => rfl) nog noO hgv
  generalize hR : Cv _ _ _ _ _ _ _ _ _ _ _ = R
  refine A8 Tryz.func111 Tm rfl fun hs => ?_
  repeat' (first | (simp -implicitDefEqProofs [c111, -getElem?_pos, q1, q2, splice, -AH]) | (simp (disch := omega) only [AA]) | (refine Bj hc ⟨?_⟩; rintro r n' H' hle hsup ⟨v, O', rfl, ha, _⟩) | (with_reducible first | refine A6 ?_ ?_ ?_ | exact AC | assumption | refine A0 ?_ | refine KM.of ?_ | refine AB ?_ | intro _g _hg | refine AD ?_ ?_ | intro _hc) | omega)
  subst hR
  exact AI (r := .tup [_, _]) rfl (by omega) hsup ⟨v, _, rfl, ((ha).ext (B := fun g => g = g1 ∨ g = g2) (fun g h => by have := B1.lt; have := B2.lt; rcases h with rfl | rfl <;> omega) (fun _ _ => rfl) (fun _ _ => rfl) (fun h => h.elim ng1 ng2)), fun h => by cases h⟩
 | cons e l ih =>
  obtain ⟨y, c⟩ := e
  intro cur O H0 n0 hr hrg noO hbel B1 B2
  refine Raw.of fun n H gg cs hn hag hgg hgO hgv => ?_
  replace B1 := B1.to hn (hag g1 (.inr (.inl rfl)))
  have q1 := B1.at_
  have ng1 : gg ≠ g1 := fun h => hgg (.inr (.inl h))
  replace B2 := B2.to hn (hag g2 (.inr (.inr rfl)))
  have q2 := B2.at_
  have ng2 : gg ≠ g2 := fun h => hgg (.inr (.inr h))
  have nog : ¬ O gg := fun h => hgg (.inl h)
  replace hbel : ∀ g, O g → g < n := fun g h => Nat.lt_of_lt_of_le (hbel g h) hn
  replace hr := hr.at_ (fun g hg => hag g (.inl hg)) hn
  refine ⟨Mw, ?_⟩
  have hc := hr.to n H gg cs (Nat.le_refl _) (fun _ _ => rfl) nog noO hgv
  have hap := OH op y m hop hrg.hd hm h3
  by_cases hp : Fj op y m = true
  ·have e1 : Ev (fun x => Fj op x m) ((y, c) :: l) fin = ((y, c) :: (Ev (fun x => Fj op x m) l fin).1, (Ev (fun x => Fj op x m) l fin).2) := by simp only [Ev]; rw [if_pos hp]
   rw [e1]
   rw [hp] at hap
   generalize hR : Cv _ _ _ _ _ _ _ _ _ _ _ = R
   refine A8 Tryz.func111 Tm rfl fun hs => ?_
   repeat' (first | (simp -implicitDefEqProofs [c111, -getElem?_pos, q1, q2, splice, -AH]) | (simp (disch := omega) only [AA]) | (refine Bj hc ⟨?_⟩; rintro r n' H' hle hsup ⟨O', rfl, ha, hr'⟩; have B1' := B1.go ng1 ha; have B2' := B2.go ng2 ha; have q2 := B2'.at_) | ((with_reducible refine Aa 108 ?_); refine' Am (hap) ?_) | (with_reducible first | refine A6 ?_ ?_ ?_ | exact AC | assumption | refine A0 ?_ | refine KM.of ?_ | refine AB ?_ | intro _g _hg | refine AD ?_ ?_ | intro _hc) | omega)
   subst hR
   exact AI (r := .tup [_, _]) rfl (by omega) hsup ⟨_, rfl, ((ha).ext (B := fun g => g = g1 ∨ g = g2) (fun g h => by have := B1.lt; have := B2.lt; rcases h with rfl | rfl <;> omega) (fun _ _ => rfl) (fun _ _ => rfl) (fun h => h.elim ng1 ng2)), ih c O' _ n' hr' hrg.tl (ha.nO noO (hgv.lt hs).1) ha.bel B1' B2'⟩
  ·have e1 : Ev (fun x => Fj op x m) ((y, c) :: l) fin = ([], c) := by simp only [Ev]; rw [if_neg hp]
   rw [e1]
   rw [Bool.not_eq_true] at hp
   rw [hp] at hap
   generalize hR : Cv _ _ _ _ _ _ _ _ _ _ _ = R
   refine A8 Tryz.func111 Tm rfl fun hs => ?_
   repeat' (first | (simp -implicitDefEqProofs [c111, -getElem?_pos, q1, q2, splice, -AH]) | (simp (disch := omega) only [AA]) | (refine Bj hc ⟨?_⟩; rintro r n' H' hle hsup ⟨O', rfl, ha, hr'⟩; have B1' := B1.go ng1 ha; have B2' := B2.go ng2 ha; have q2 := B2'.at_) | ((with_reducible refine Aa 108 ?_); refine' Am (hap) ?_) | (with_reducible first | refine A6 ?_ ?_ ?_ | exact AC | assumption | refine A0 ?_ | refine KM.of ?_ | refine AB ?_ | intro _g _hg | refine AD ?_ ?_ | intro _hc) | omega)
   subst hR
   exact AI (r := .tup [_, _]) rfl (by omega) hsup ⟨y, _, rfl, ((ha).ext (B := fun g => g = g1 ∨ g = g2) (fun g h => by have := B1.lt; have := B2.lt; rcases h with rfl | rfl <;> omega) (fun _ _ => rfl) (fun _ _ => rfl) (fun h => h.elim ng1 ng2)), fun h => by cases h⟩
theorem ST : Ae Tryz.prog 136 = true := by kernel_rfl
theorem X5 {gO lo : Nat} {fin : AZ} {px a b : AV} {g1 g2 g3 : Nat} {k op m : Int} (hop : 1 ≤ op ∧ op ≤ 5) (n13 : g1 ≠ g3) (n23 : g2 ≠ g3) : ∀ (l : Aq) (cur : AZ) (z : Int) (O : Nat → Prop) (H0 : A3) (n0 : Nat), Raw true gO lo fin px l cur O H0 n0 → rgE l → B5 z → ¬ O gO → (∀ g, O g → g < n0) →
  Bx O gO g1 H0 n0 (Bt px) → Bx O gO g2 H0 n0 (BH k op m a b) → Bx O gO g3 H0 n0 (Bm z) → Raw false gO lo fin (.fn 136 [] [.ptr g1 0, .ptr g2 0, .ptr g3 0]) (LQ (DZ op) z l) cur (fun g => O g ∨ g = g1 ∨ g = g2 ∨ g = g3) H0 n0 := by
 intro l
 induction l with
 | nil =>
  intro cur z O H0 n0 hr hrg hz noO hbel B1 B2 B3
  refine Raw.of fun n H gg cs hn hag hgg hgO hgv => ?_
  replace B1 := B1.to hn (hag g1 (.inr (.inl rfl)))
  have q1 := B1.at_
  have ng1 : gg ≠ g1 := fun h => hgg (.inr (.inl h))
  replace B2 := B2.to hn (hag g2 (.inr (.inr (.inl rfl))))
  have q2 := B2.at_
  have ng2 : gg ≠ g2 := fun h => hgg (.inr (.inr (.inl h)))
  replace B3 := B3.to hn (hag g3 (.inr (.inr (.inr rfl))))
  have q3 := B3.at_
  have ng3 : gg ≠ g3 := fun h => hgg (.inr (.inr (.inr h)))
  have nog : ¬ O gg := fun h => hgg (.inl h)
  replace hbel : ∀ g, O g → g < n := fun g h => Nat.lt_of_lt_of_le (hbel g h) hn
  replace hr := hr.at_ (fun g hg => hag g (.inl hg)) hn
  refine ⟨ST, ?_⟩
  have hc := hr.to n H gg cs (Nat.le_refl _) (fun _ _ => rfl) nog noO hgv
  generalize hR : Cv _ _ _ _ _ _ _ _ _ _ _ = R
  refine A8 Tryz.func136 X8 rfl fun hs => ?_
  repeat' (first | (simp -implicitDefEqProofs [L0, c136, -getElem?_pos, q1, q2, q3, splice, -AH]) | (simp (disch := omega) only [AA]) | (refine Bj hc ⟨?_⟩; rintro r n' H' hle hsup ⟨v, O', rfl, ha, _⟩) | (with_reducible first | refine A6 ?_ ?_ ?_ | exact AC | assumption | refine A0 ?_ | refine KM.of ?_ | refine AB ?_ | intro _g _hg | refine AD ?_ ?_ | intro _hc) | omega)
  subst hR
  exact AI (r := .tup [_, _]) rfl (by omega) hsup ⟨0, _, rfl, ((ha).ext (B := fun g => g = g1 ∨ g = g2 ∨ g = g3) (fun g h => by have := B1.lt; have := B2.lt; have := B3.lt; rcases h with rfl | rfl | rfl <;> omega) (fun _ _ => rfl) (fun _ _ => rfl) (fun h => h.elim ng1 (fun h => h.elim ng2 ng3))), fun h => by cases h⟩
 | cons e l ih =>
  obtain ⟨y, c⟩ := e
  intro cur z O H0 n0 hr hrg hz noO hbel B1 B2 B3
  refine Raw.of fun n H gg cs hn hag hgg hgO hgv => ?_
  replace B1 := B1.to hn (hag g1 (.inr (.inl rfl)))
  have q1 := B1.at_
  have ng1 : gg ≠ g1 := fun h => hgg (.inr (.inl h))
  replace B2 := B2.to hn (hag g2 (.inr (.inr (.inl rfl))))
  have q2 := B2.at_
  have ng2 : gg ≠ g2 := fun h => hgg (.inr (.inr (.inl h)))
  replace B3 := B3.to hn (hag g3 (.inr (.inr (.inr rfl))))
  have q3 := B3.at_
  have ng3 : gg ≠ g3 := fun h => hgg (.inr (.inr (.inr h)))
  have nog : ¬ O gg := fun h => hgg (.inl h)
  replace hbel : ∀ g, O g → g < n := fun g h => Nat.lt_of_lt_of_le (hbel g h) hn
  replace hr := hr.at_ (fun g hg => hag g (.inl hg)) hn
  refine ⟨ST, ?_⟩
  have hc := hr.to n H gg cs (Nat.le_refl _) (fun _ _ => rfl) nog noO hgv
  have hap := Ir op z y (by omega) hz hrg.hd (by omega)
  have hz' : B5 (DZ op z y) := SR hop z y hz hrg.hd
  generalize hR : Cv _ _ _ _ _ _ _ _ _ _ _ = R
  refine A8 Tryz.func136 X8 rfl fun hs => ?_
  repeat' (first | (simp -implicitDefEqProofs [L0, c136, -getElem?_pos, q1, q2, q3, splice, -AH]) | (simp (disch := omega) only [AA]) | (refine Bj hc ⟨?_⟩; rintro r n' H' hle hsup ⟨O', rfl, ha, hr'⟩; have B1' := B1.go ng1 ha; have B2' := B2.go ng2 ha; have B3' := B3.go ng3 ha; have q2 := B2'.at_; have q3 := B3'.at_) | ((with_reducible refine Aa 102 ?_); refine' Am (hap) ?_) | (with_reducible first | refine A6 ?_ ?_ ?_ | exact AC | assumption | refine A0 ?_ | refine KM.of ?_ | refine AB ?_ | intro _g _hg | refine AD ?_ ?_ | intro _hc) | omega)
  subst hR
  have := B3'.lt
  exact AI (r := .tup [_, _]) rfl (by omega) (fun k hk => by rw [upd_ne (by omega)]; exact hsup k hk) ⟨_, rfl, ((ha).ext (B := fun g => g = g1 ∨ g = g2 ∨ g = g3) (fun g h => by have := B1.lt; have := B2.lt; have := B3.lt; rcases h with rfl | rfl | rfl <;> omega) (fun _ _ => rfl) (fun g h => by rw [upd_ne (fun e => h (.inr (.inr e)))]) (fun h => h.elim ng1 (fun h => h.elim ng2 ng3))), ih c _ O' _ n' (hr'.at_ (fun g hg => upd_ne (fun h => B3'.no (h ▸ hg))) (Nat.le_refl _)) hrg.tl hz' (ha.nO noO (hgv.lt hs).1) ha.bel (B1'.keep n13) (B2'.keep n23) (B3'.set _)⟩
theorem LU : Ae Tryz.prog 132 = true := by kernel_rfl
theorem take_zero {gO lo : Nat} {fin : AZ} {px : AV} {g1 g2 : Nat} (l : Aq) (cur : AZ) (O : Nat → Prop) (H0 : A3) (n0 : Nat) (noO : ¬ O gO) (hbel : ∀ g, O g → g < n0) (B1 : Bx O gO g1 H0 n0 (Bm 0)) (B2 : Bx O gO g2 H0 n0 (Bt px)) :
  Raw false gO lo (DE 0 cur l fin).2 (.fn 132 [] [.ptr g1 0, .ptr g2 0]) (DE 0 cur l fin).1 cur (fun g => O g ∨ g = g1 ∨ g = g2) H0 n0 := by
 have hr : Raw false gO lo fin px [] cur (fun _ => False) H0 n0 ∨ True := .inr trivial
 refine Raw.of fun n H gg cs hn hag hgg hgO hgv => ?_
 replace B1 := B1.to hn (hag g1 (.inr (.inl rfl)))
 have q1 := B1.at_
 replace B2 := B2.to hn (hag g2 (.inr (.inr rfl)))
 have ng1 : gg ≠ g1 := fun h => hgg (.inr (.inl h))
 have ng2 : gg ≠ g2 := fun h => hgg (.inr (.inr h))
 replace hbel : ∀ g, O g → g < n := fun g h => Nat.lt_of_lt_of_le (hbel g h) hn
 refine ⟨LU, ?_⟩
 have e1 : DE 0 cur l fin = ([], cur) := by cases l <;> rfl
 rw [e1]
 generalize hR : Cv _ _ _ _ _ _ _ _ _ _ _ = R
 refine A8 Tryz.func132 T5 rfl fun hs => ?_
 repeat' (first | (simp -implicitDefEqProofs [IU, c132, -getElem?_pos, q1, splice, -AH]) | (simp (disch := omega) only [AA]) | (with_reducible first | refine A6 ?_ ?_ ?_ | exact AC | assumption | refine A0 ?_ | refine KM.of ?_ | refine AB ?_ | intro _g _hg | refine AD ?_ ?_ | intro _hc) | omega)
 subst hR
 exact AI (r := .tup [_, _]) rfl (by omega) hs ⟨0, _, rfl, (((Aft.same hgv hbel)).ext (B := fun g => g = g1 ∨ g = g2) (fun g h => by have := B1.lt; have := B2.lt; rcases h with rfl | rfl <;> omega) (fun _ _ => rfl) (fun _ _ => rfl) (fun h => h.elim ng1 ng2)), fun h => by cases h⟩
theorem Xu {gO lo : Nat} {fin : AZ} {px : AV} {g1 g2 : Nat} (n12 : g1 ≠ g2) : ∀ (l : Aq) (cur : AZ) (m : Nat) (O : Nat → Prop) (H0 : A3) (n0 : Nat), Raw true gO lo fin px l cur O H0 n0 → m ≤ 5000 → ¬ O gO → (∀ g, O g → g < n0) →
  Bx O gO g1 H0 n0 (Bm m) → Bx O gO g2 H0 n0 (Bt px) → Raw false gO lo (DE m cur l fin).2 (.fn 132 [] [.ptr g1 0, .ptr g2 0]) (DE m cur l fin).1 cur (fun g => O g ∨ g = g1 ∨ g = g2) H0 n0 := by
 intro l
 induction l with
 | nil =>
  intro cur m O H0 n0 hr hm noO hbel B1 B2
  cases m with
  | zero => exact take_zero [] cur O H0 n0 noO hbel B1 B2
  | succ m =>
   refine Raw.of fun n H gg cs hn hag hgg hgO hgv => ?_
   replace B1 := B1.to hn (hag g1 (.inr (.inl rfl)))
   have q1 := B1.at_
   have ng1 : gg ≠ g1 := fun h => hgg (.inr (.inl h))
   replace B2 := B2.to hn (hag g2 (.inr (.inr rfl)))
   have q2 := B2.at_
   have ng2 : gg ≠ g2 := fun h => hgg (.inr (.inr h))
   have nog : ¬ O gg := fun h => hgg (.inl h)
   replace hbel : ∀ g, O g → g < n := fun g h => Nat.lt_of_lt_of_le (hbel g h) hn
   replace hr := hr.at_ (fun g hg => hag g (.inl hg)) hn
   refine ⟨LU, ?_⟩
   have hm0 : ¬ ((m + 1 : Nat) : Int) = 0 := by omega
   have hc := (hr.at_ (H1 := upd H g1 (some (Bm m))) (fun g hg => upd_ne (fun h => B1.no (h ▸ hg))) (Nat.le_refl _)).to n _ gg cs (Nat.le_refl _) (fun _ _ => rfl) nog noO (hgv.keep B1.nO ng1)
   have hw : ((m + 1 : Nat) : Int) - 1 = m := by omega
   generalize hR : Cv _ _ _ _ _ _ _ _ _ _ _ = R
   generalize ((m + 1 : Nat) : Int) = m1 at *
   refine A8 Tryz.func132 T5 rfl fun hs => ?_
   repeat' (first | (simp -implicitDefEqProofs [IU, c132, -getElem?_pos, q1, q2, hm0, hw, n12, Ne.symm n12, splice, -AH]) | (simp (disch := omega) only [AA]) | (refine Bj hc ⟨?_⟩; rintro r n' H' hle hsup ⟨v, O', rfl, ha, _⟩) | (with_reducible first | refine A6 ?_ ?_ ?_ | exact AC | assumption | refine A0 ?_ | refine KM.of ?_ | refine AB ?_ | intro _g _hg | refine AD ?_ ?_ | intro _hc) | omega)
   subst hR
   exact AI (r := .tup [_, _]) rfl (by omega) hsup ⟨v, _, rfl, ((ha).ext (B := fun g => g = g1 ∨ g = g2) (fun g h => by have := B1.lt; have := B2.lt; rcases h with rfl | rfl <;> omega) (fun g h => by rw [upd_ne (fun e => h (.inl e))]) (fun _ _ => rfl) (fun h => h.elim ng1 ng2)), fun h => by cases h⟩
 | cons e l ih =>
  obtain ⟨y, c⟩ := e
  intro cur m O H0 n0 hr hm noO hbel B1 B2
  cases m with
  | zero => exact take_zero _ cur O H0 n0 noO hbel B1 B2
  | succ m =>
   refine Raw.of fun n H gg cs hn hag hgg hgO hgv => ?_
   replace B1 := B1.to hn (hag g1 (.inr (.inl rfl)))
   have q1 := B1.at_
   have ng1 : gg ≠ g1 := fun h => hgg (.inr (.inl h))
   replace B2 := B2.to hn (hag g2 (.inr (.inr rfl)))
   have q2 := B2.at_
   have ng2 : gg ≠ g2 := fun h => hgg (.inr (.inr h))
   have nog : ¬ O gg := fun h => hgg (.inl h)
   replace hbel : ∀ g, O g → g < n := fun g h => Nat.lt_of_lt_of_le (hbel g h) hn
   replace hr := hr.at_ (fun g hg => hag g (.inl hg)) hn
   refine ⟨LU, ?_⟩
   have hm0 : ¬ ((m + 1 : Nat) : Int) = 0 := by omega
   have B1u := B1.set (Bm m)
   have B2u : Bx O gO g2 (upd H g1 (some (Bm m))) n _ := B2.keep (Ne.symm n12)
   have hc := (hr.at_ (H1 := upd H g1 (some (Bm m))) (fun g hg => upd_ne (fun h => B1.no (h ▸ hg))) (Nat.le_refl _)).to n _ gg cs (Nat.le_refl _) (fun _ _ => rfl) nog noO (hgv.keep B1.nO ng1)
   have hw : ((m + 1 : Nat) : Int) - 1 = m := by omega
   generalize hR : Cv _ _ _ _ _ _ _ _ _ _ _ = R
   generalize ((m + 1 : Nat) : Int) = m1 at *
   refine A8 Tryz.func132 T5 rfl fun hs => ?_
   repeat' (first | (simp -implicitDefEqProofs [IU, c132, -getElem?_pos, q1, q2, hm0, hw, n12, Ne.symm n12, splice, -AH]) | (simp (disch := omega) only [AA]) | (refine Bj hc ⟨?_⟩; rintro r n' H' hle hsup ⟨O', rfl, ha, hr'⟩) | (with_reducible first | refine A6 ?_ ?_ ?_ | exact AC | assumption | refine A0 ?_ | refine KM.of ?_ | refine AB ?_ | intro _g _hg | refine AD ?_ ?_ | intro _hc) | omega)
   subst hR
   exact AI (r := .tup [_, _]) rfl (by omega) hsup ⟨_, rfl, ((ha).ext (B := fun g => g = g1 ∨ g = g2) (fun g h => by have := B1.lt; have := B2.lt; rcases h with rfl | rfl <;> omega) (fun g h => by rw [upd_ne (fun e => h (.inl e))]) (fun _ _ => rfl) (fun h => h.elim ng1 ng2)), ih c m O' _ n' hr' (by omega) (ha.nO noO (hgv.lt hs).1) ha.bel (B1u.go ng1 ha) (B2u.go ng2 ha)⟩
theorem Sj : Ae Tryz.prog 97 = true := by kernel_rfl
theorem TI {cs : AZ} {lo : Nat} {x : Int} : splice (cs.map aI) lo [aI x] = (Cd cs lo [x]).map aI := by simp [splice, Cd]
abbrev MZ (x : AV) : AObj := .cells 22 [x]
theorem X4 {gO lo : Nat} {g1 g2 g3 z : Nat} {t : Tok} {xs : List Int} (hx : xs.length ≤ 140737488355328) (hz : z = 1 ∨ xs = []) : ∀ (r i : Nat) (O : Nat → Prop) (H0 : A3) (n0 : Nat), i + r = xs.length → ¬ O gO → (∀ g, O g → g < n0) →
  Bx O gO g1 H0 n0 (.cells 72 [.ptr gO 0]) → Bx O gO g2 H0 n0 (Bm lo) → Bx O gO g3 H0 n0 (MZ (.sl z (xs.map aI) t)) →
  Raw false gO lo [(xs.length : Int)] (.fn 97 [] [.ptr g1 0, .ptr g2 0, .ptr g3 0]) (Rb i (xs.drop i)) [(i : Int)] (fun g => O g ∨ g = g1 ∨ g = g2 ∨ g = g3) H0 n0 := by
 intro r
 induction r with
 | zero =>
  intro i O H0 n0 hi noO hbel B1 B2 B3
  refine Raw.of fun n H gg cs hn hag hgg hgO hgv => ?_
  replace B1 := B1.to hn (hag g1 (.inr (.inl rfl)))
  have q1 := B1.at_
  have ng1 : gg ≠ g1 := fun h => hgg (.inr (.inl h))
  replace B2 := B2.to hn (hag g2 (.inr (.inr (.inl rfl))))
  have q2 := B2.at_
  have ng2 : gg ≠ g2 := fun h => hgg (.inr (.inr (.inl h)))
  replace B3 := B3.to hn (hag g3 (.inr (.inr (.inr rfl))))
  have q3 := B3.at_
  have ng3 : gg ≠ g3 := fun h => hgg (.inr (.inr (.inr h)))
  have nog : ¬ O gg := fun h => hgg (.inl h)
  replace hbel : ∀ g, O g → g < n := fun g h => Nat.lt_of_lt_of_le (hbel g h) hn
  refine ⟨Sj, ?_⟩
  have e1 : xs.drop i = [] := List.drop_eq_nil_of_le (by omega)
  rw [e1]
  have e2 : i = xs.length := by omega
  subst e2
  have o1 := hgv.opn
  have o2 := hgv.giv
  have hfit := hgv.fit
  simp only [List.length_cons, List.length_nil] at hfit
  have hlo : (cs.map aI)[lo]? = some (aI xs.length) := by
   have h1 := hgv.at_
   have h2 : ((cs.drop lo).take 1)[0]? = some (xs.length : Int) := by rw [show (1 : Nat) = [((xs.length : Nat) : Int)].length from rfl, h1]; rfl
   rw [List.getElem?_take] at h2
   simp only [List.getElem?_drop] at h2
   simpa using h2
  have hl : (lo : Int) < cs.length := by omega
  have hl2 : ((xs.map aI).length : Int) = xs.length := by simp
  have hext := Aft.same hgv hbel
  generalize hR : Cv _ _ _ _ _ _ _ _ _ _ _ = R
  generalize cs.map aI = csa at *
  generalize xs.map aI = xsa at *
  refine A8 Tryz.func97 A03 rfl fun hs => ?_
  repeat' (first | (simp -implicitDefEqProofs [NB, c97, -getElem?_pos, q1, q2, q3, o1, o2, hlo, hl, hl2, splice]) | (simp (disch := omega) only [AA]) | (with_reducible first | refine A6 ?_ ?_ ?_ | exact AC | assumption | refine A0 ?_ | refine KM.of ?_ | refine AB ?_ | intro _g _hg | refine AD ?_ ?_ | intro _hc) | omega)
  subst hR
  exact AI (r := .tup [_, _]) rfl (by omega) hs ⟨0, _, rfl, ((hext).ext (B := fun g => g = g1 ∨ g = g2 ∨ g = g3) (fun g h => by have := B1.lt; have := B2.lt; have := B3.lt; rcases h with rfl | rfl | rfl <;> omega) (fun _ _ => rfl) (fun _ _ => rfl) (fun h => h.elim ng1 (fun h => h.elim ng2 ng3))), fun h => by cases h⟩
 | succ r ih =>
  intro i O H0 n0 hi noO hbel B1 B2 B3
  refine Raw.of fun n H gg cs hn hag hgg hgO hgv => ?_
  replace B1 := B1.to hn (hag g1 (.inr (.inl rfl)))
  have q1 := B1.at_
  have ng1 : gg ≠ g1 := fun h => hgg (.inr (.inl h))
  replace B2 := B2.to hn (hag g2 (.inr (.inr (.inl rfl))))
  have q2 := B2.at_
  have ng2 : gg ≠ g2 := fun h => hgg (.inr (.inr (.inl h)))
  replace B3 := B3.to hn (hag g3 (.inr (.inr (.inr rfl))))
  have q3 := B3.at_
  have ng3 : gg ≠ g3 := fun h => hgg (.inr (.inr (.inr h)))
  have nog : ¬ O gg := fun h => hgg (.inl h)
  replace hbel : ∀ g, O g → g < n := fun g h => Nat.lt_of_lt_of_le (hbel g h) hn
  refine ⟨Sj, ?_⟩
  have hil : i < xs.length := by omega
  have hz1 : z = 1 := hz.elim id (fun h => by subst h; simp at hil)
  subst hz1
  obtain ⟨y, hy⟩ : ∃ y, xs[i]? = some y := ⟨_, List.getElem?_eq_getElem hil⟩
  have e1 : xs.drop i = y :: xs.drop (i + 1) := drop_at hy
  rw [e1]
  have o1 := hgv.opn
  have o2 := hgv.giv
  have hfit := hgv.fit
  simp only [List.length_cons, List.length_nil] at hfit
  have hlo : (cs.map aI)[lo]? = some (aI i) := by
   have h1 := hgv.at_
   have h2 : ((cs.drop lo).take 1)[0]? = some (i : Int) := by rw [show (1 : Nat) = [((i : Nat) : Int)].length from rfl, h1]; rfl
   rw [List.getElem?_take] at h2
   simp only [List.getElem?_drop] at h2
   simpa using h2
  have hl : (lo : Int) < cs.length := by omega
  have hl2 : ((xs.map aI).length : Int) = xs.length := by simp
  have hcl : (cs.map aI).length = cs.length := by simp
  have hcl2 : lo + 1 ≤ (cs.map aI).length := by omega
  have hne : ¬ (i : Int) = xs.length := by omega
  have hya := IF (f := aI) hy
  have hsp := TI (cs := cs) (lo := lo) (x := ((i + 1 : Nat) : Int))
  have hw : IntKind.i64.wrap ((i : Int) + 1) = ((i + 1 : Nat) : Int) := by rw [IntWalk.i64_in _ (by omega)]; omega
  have hlt := hgv.lt (n := n)
  have hput := fun (H' : A3) => hgv.put (c' := [((i + 1 : Nat) : Int)]) (H' := H') rfl
  have hgo := hgv.ne
  generalize hR : Cv _ _ _ _ _ _ _ _ _ _ _ = R
  generalize hcsa : cs.map aI = csa at *
  generalize xs.map aI = xsa at *
  generalize hi1 : ((i + 1 : Nat) : Int) = i1 at *
  refine A8 Tryz.func97 A03 rfl fun hs => ?_
  repeat' (first | (simp -implicitDefEqProofs [NB, c97, -getElem?_pos, q1, q2, q3, o1, o2, hlo, hl, hl2, hne, hw, hcl2, hya]) | (simp (disch := omega) only [AA]) | (with_reducible first | refine A6 ?_ ?_ ?_ | exact AC | assumption | refine A0 ?_ | refine KM.of ?_ | refine AB ?_ | intro _g _hg | refine AD ?_ ?_ | intro _hc) | omega)
  subst hR hi1
  have hb : Aft lo gg cs [((i + 1 : Nat) : Int)] O n H n (upd H gg (some (AObj.grow 3 (splice csa lo [aI ((i + 1 : Nat) : Int)])))) O :=
   ⟨Nat.le_refl _, fun g h => .inl h, hbel, fun g h1 h2 h3 => upd_ne h3, by rw [AX, hsp]⟩
  have hgl := (hlt hs).2
  exact AI (r := .tup [_, _]) rfl (by omega) (fun k hk => by rw [upd_ne (by omega)]; exact hs k hk) ⟨_, rfl, ((hb).ext (B := fun g => g = g1 ∨ g = g2 ∨ g = g3) (fun g h => by have := B1.lt; have := B2.lt; have := B3.lt; rcases h with rfl | rfl | rfl <;> omega) (fun _ _ => rfl) (fun _ _ => rfl) (fun h => h.elim ng1 (fun h => h.elim ng2 ng3))), ih (i + 1) O _ n (by omega) noO hbel (B1.keep (Ne.symm ng1)) (B2.keep (Ne.symm ng2)) (B3.keep (Ne.symm ng3))⟩
theorem Ub : Ae Tryz.prog 101 = true := by kernel_rfl
structure Pt where
 x : AV
 l : Option Aq
 cur : AZ
 fin : AZ
 O : Nat → Prop
def PtOk (gO lo : Nat) (p : Pt) (H : A3) (n : Nat) : Prop := match p.l with
 | some l => Raw true gO lo p.fin p.x l p.cur p.O H n ∧ monL p.cur l p.fin
 | none => Ended gO lo p.fin p.x p.O H n ∧ p.cur = p.fin
def AL : List Pt → AZ
 | [] => []
 | p :: ps => p.cur ++ AL ps
def OU : List Pt → Nat → Prop
 | [], _ => False
 | p :: ps, g => p.O g ∨ OU ps g
def Pts (gO lo : Nat) : List Pt → A3 → Nat → Prop
 | [], _, _ => True
 | p :: ps, H, n => PtOk gO lo p H n ∧ (∀ g, p.O g → g < n) ∧ (∀ g, p.O g → ¬ OU ps g) ∧ Pts gO (lo + p.cur.length) ps H n
theorem Ek : ∀ a b : List Pt, AL (a ++ b) = AL a ++ AL b
 | [], b => rfl
 | p :: a, b => by simp [AL, Ek a b]
theorem EM : ∀ (a b : List Pt) (g : Nat), OU (a ++ b) g ↔ OU a g ∨ OU b g
 | [], b, g => by simp [OU]
 | p :: a, b, g => by simp [OU, EM a b g, or_assoc]
theorem PtOk.at_ {gO lo : Nat} {p : Pt} {H H1 : A3} {n n1 : Nat} (h : PtOk gO lo p H n) (hH : ∀ g, p.O g → H1 g = H g) (hn : n ≤ n1) : PtOk gO lo p H1 n1 := by
 unfold PtOk at h ⊢
 split at h
 ·exact ⟨h.1.at_ hH hn, h.2⟩
 ·exact ⟨h.1.at_ hH hn, h.2⟩
theorem Pts.at_ : ∀ {ps : List Pt} {gO lo : Nat} {H H1 : A3} {n n1 : Nat}, Pts gO lo ps H n → (∀ g, OU ps g → H1 g = H g) → n ≤ n1 → Pts gO lo ps H1 n1
 | [], _, _, _, _, _, _, _, _, _ => trivial
 | p :: ps, _, _, _, _, _, _, h, hH, hn => ⟨h.1.at_ (fun g hg => hH g (.inl hg)) hn, fun g hg => Nat.lt_of_lt_of_le (h.2.1 g hg) hn, h.2.2.1, h.2.2.2.at_ (fun g hg => hH g (.inr hg)) hn⟩
theorem Pts.bel : ∀ {ps : List Pt} {gO lo : Nat} {H : A3} {n : Nat}, Pts gO lo ps H n → ∀ g, OU ps g → g < n
 | [], _, _, _, _, _, g, hg => hg.elim
 | p :: ps, _, _, _, _, h, g, hg => hg.elim (h.2.1 g) (h.2.2.2.bel g)
theorem Giv.cut {gO lo gg : Nat} {c cs : AZ} {H : A3} (h : Giv gO lo c H gg cs) : ∃ X Y, cs = X ++ (c ++ Y) ∧ X.length = lo := by
 refine ⟨cs.take lo, cs.drop (lo + c.length), ?_, ?_⟩
 ·have h1 := E8 h
  unfold Cd at h1
  rw [List.append_assoc] at h1
  exact h1.symm
 ·have := h.fit; simp; omega
theorem U6 {X Y c c' : AZ} (h : c'.length = c.length) : Cd (X ++ (c ++ Y)) X.length c' = X ++ (c' ++ Y) := by
 unfold Cd
 rw [List.take_left, List.append_assoc, ← List.append_assoc X c Y, List.drop_left' (by simp; omega)]
theorem Giv.mid {gO lo gg : Nat} {p a s cs : AZ} {H : A3} (h : Giv gO lo (p ++ (a ++ s)) H gg cs) : Giv gO (lo + p.length) a H gg cs := by
 obtain ⟨X, Y, rfl, rfl⟩ := h.cut
 refine ⟨h.opn, h.giv, by simp; omega, ?_⟩
 have : X ++ (p ++ (a ++ s) ++ Y) = (X ++ p) ++ (a ++ (s ++ Y)) := by simp
 rw [this, List.drop_left' (by simp), List.take_left]
theorem Wf {gO lo gg : Nat} {p a a' s cs : AZ} {H : A3} (h : Giv gO lo (p ++ (a ++ s)) H gg cs) (hl : a'.length = a.length) : Cd cs (lo + p.length) a' = Cd cs lo (p ++ (a' ++ s)) := by
 obtain ⟨X, Y, rfl, rfl⟩ := h.cut
 rw [U6 (by simp; omega)]
 have h1 : X ++ (p ++ (a ++ s) ++ Y) = (X ++ p) ++ (a ++ (s ++ Y)) := by simp
 rw [h1, show X.length + p.length = (X ++ p).length by simp, U6 hl]
 simp
theorem Aft.mid {gO lo gg n n' : Nat} {p a a' s cs : AZ} {H H' : A3} {O O' : Nat → Prop} (h : Giv gO lo (p ++ (a ++ s)) H gg cs) (hl : a'.length = a.length) (ha : Aft (lo + p.length) gg cs a' O n H n' H' O') : Aft lo gg cs (p ++ (a' ++ s)) O n H n' H' O' :=
 ⟨ha.le, ha.sub, ha.bel, ha.fr, by rw [← Wf h hl]; exact ha.giv⟩
theorem Aft.congr {lo gg n n' : Nat} {c cs : AZ} {H H' : A3} {O O' P P' : Nat → Prop} (ha : Aft lo gg cs c O n H n' H' O') (h : ∀ g, O g ↔ P g) (h' : ∀ g, O' g ↔ P' g) : Aft lo gg cs c P n H n' H' P' :=
 ⟨ha.le, fun g hg => (ha.sub g ((h' g).2 hg)).elim (fun k => .inl ((h g).1 k)) .inr, fun g hg => ha.bel g ((h' g).2 hg), fun g h1 h2 h3 => ha.fr g h1 (fun k => h2 ((h g).1 k)) h3, ha.giv⟩
theorem Pts.repl : ∀ {qs bs : List Pt} {p p' : Pt} {gO lo n n' : Nat} {H H' : A3}, Pts gO lo (qs ++ p :: bs) H n → p'.cur.length = p.cur.length → n ≤ n' → (∀ g, p'.O g → p.O g ∨ n ≤ g) → (∀ g, p'.O g → g < n') → (∀ g, g < n → ¬ p.O g → OU (qs ++ p :: bs) g → H' g = H g) →
  PtOk gO (lo + (AL qs).length) p' H' n' → Pts gO lo (qs ++ p' :: bs) H' n'
 | [], bs, p, p', gO, lo, n, n', H, H', h, hl, hn, hsub, hbel, hfr, hk => by
  refine ⟨by simpa [AL] using hk, hbel, fun g hg => ?_, ?_⟩
  ·rcases hsub g hg with h1 | h1
   ·exact h.2.2.1 g h1
   ·intro h2; have := h.2.2.2.bel g h2; omega
  ·rw [hl]
   refine h.2.2.2.at_ (fun g hg => hfr g (h.2.2.2.bel g hg) (fun h1 => h.2.2.1 g h1 hg) (.inr hg)) hn
 | q :: qs, bs, p, p', gO, lo, n, n', H, H', h, hl, hn, hsub, hbel, hfr, hk => by
  obtain ⟨h1, h2, h3, h4⟩ := h
  have hd : ∀ g, q.O g → ¬ p.O g := fun g hg hp => h3 g hg ((EM qs (p :: bs) g).2 (.inr (.inl hp)))
  refine ⟨h1.at_ (fun g hg => hfr g (h2 g hg) (hd g hg) (.inl hg)) hn, fun g hg => Nat.lt_of_lt_of_le (h2 g hg) hn, fun g hg hg' => ?_, ?_⟩
  ·rcases (EM qs (p' :: bs) g).1 hg' with h5 | h5 | h5
   ·exact h3 g hg ((EM qs (p :: bs) g).2 (.inl h5))
   ·rcases hsub g h5 with h6 | h6
    ·exact hd g hg h6
    ·have := h2 g hg; omega
   ·exact h3 g hg ((EM qs (p :: bs) g).2 (.inr (.inr h5)))
  ·exact h4.repl hl hn hsub hbel (fun g h5 h6 h7 => hfr g h5 h6 (.inr h7)) (by simpa [AL, Nat.add_assoc] using hk)
def PtR (p : Pt) (r : AV) (p' : Pt) : Prop := p'.x = p.x ∧ p'.fin = p.fin ∧ match p.l with
 | none => r = .tup [aI 0, .bool false] ∧ p'.l = none ∧ p'.cur = p.cur
 | some [] => (∃ v : Int, r = .tup [aI v, .bool false]) ∧ p'.l = none ∧ p'.cur = p.fin
 | some ((y, c) :: l) => r = .tup [aI y, .bool true] ∧ p'.l = some l ∧ p'.cur = c
theorem Pts.part : ∀ {qs bs : List Pt} {p : Pt} {gO lo n : Nat} {H : A3}, Pts gO lo (qs ++ p :: bs) H n → PtOk gO (lo + (AL qs).length) p H n
 | [], bs, p, gO, lo, n, H, h => by simpa [AL] using h.1
 | q :: qs, bs, p, gO, lo, n, H, h => by
  have := h.2.2.2.part
  simpa [AL, Nat.add_assoc] using this
theorem Pts.call {qs bs : List Pt} {p : Pt} {gO lo gg n : Nat} {cs : AZ} {H : A3} {d : Option Nat} {K : AS → Prop} {en : AT} (h : Pts gO lo (qs ++ p :: bs) H n) (hg : Giv gO lo (AL (qs ++ p :: bs)) H gg cs) (h1 : ¬ OU (qs ++ p :: bs) gg) (h2 : ¬ OU (qs ++ p :: bs) gO)
  (hk : ∀ r n' H' p', n ≤ n' → (∀ g, n' ≤ g → H' g = none) → PtR p r p' → Pts gO lo (qs ++ p' :: bs) H' n' → Aft lo gg cs (AL (qs ++ p' :: bs)) (OU (qs ++ p :: bs)) n H n' H' (OU (qs ++ p' :: bs)) → K ⟨AN en d r, n', H'⟩) :
  AH Tryz.prog d K en n H [] p.x := by
 have hpO : ∀ g, p.O g → OU (qs ++ p :: bs) g := fun g hg => (EM qs (p :: bs) g).2 (.inr (.inl hg))
 have hgw : Giv gO lo (AL qs ++ (p.cur ++ AL bs)) H gg cs := by rw [Ek] at hg; exact hg
 have hgp := hgw.mid
 have main : ∀ (n' : Nat) (H' : A3) (p' : Pt), Aft (lo + (AL qs).length) gg cs p'.cur p.O n H n' H' p'.O → p'.cur.length = p.cur.length → PtOk gO (lo + (AL qs).length) p' H' n' → Pts gO lo (qs ++ p' :: bs) H' n' ∧ Aft lo gg cs (AL (qs ++ p' :: bs)) (OU (qs ++ p :: bs)) n H n' H' (OU (qs ++ p' :: bs)) := by
  intro n' H' p' ha hl hok
  refine ⟨h.repl hl ha.le ha.sub ha.bel (fun g k1 k2 k3 => ha.fr g k1 k2 (fun e => h1 (e ▸ k3))) hok, ?_⟩
  have h3 := Aft.mid hgw hl ha
  have h4 := h3.ext (B := fun g => OU qs g ∨ OU bs g) (H := H) (H2 := H') (fun g hb => h.bel g ((EM qs (p :: bs) g).2 (hb.elim .inl fun k => .inr (.inr k)))) (fun _ _ => rfl) (fun _ _ => rfl) (fun hb => h1 ((EM qs (p :: bs) gg).2 (hb.elim .inl fun k => .inr (.inr k))))
  have h5 : AL (qs ++ p' :: bs) = AL qs ++ (p'.cur ++ AL bs) := by rw [Ek]; rfl
  rw [h5]
  refine h4.congr (fun g => ?_) (fun g => ?_)
  ·rw [EM]; simp only [OU]; grind
  ·rw [EM]; simp only [OU]; grind
 have hok := h.part
 obtain ⟨x, l, cur, fin, O⟩ := p
 cases l with
 | none =>
  obtain ⟨h3, h4⟩ := hok
  simp only at h4 hgp h3 hgw
  subst h4
  have hc := h3 n H gg cs (Nat.le_refl _) (fun _ _ => rfl) (fun k => h1 (hpO _ k)) (fun k => h2 (hpO _ k)) hgp
  refine Bj hc ⟨?_⟩
  rintro r n' H' hle hsup ⟨rfl, rfl, rfl⟩
  have hb : Aft (lo + (AL qs).length) gg cs cur O n' H' n' H' O := Aft.same hgp fun g k => h.bel g (hpO g k)
  obtain ⟨m1, m2⟩ := main n' H' ⟨x, none, cur, cur, O⟩ hb rfl ⟨h3, rfl⟩
  exact hk _ _ _ _ hle hsup ⟨rfl, rfl, rfl, rfl, rfl⟩ m1 m2
 | some l =>
  obtain ⟨h3, h4⟩ := hok
  simp only at h4 hgp h3 hgw
  have hc := h3.to n H gg cs (Nat.le_refl _) (fun _ _ => rfl) (fun k => h1 (hpO _ k)) (fun k => h2 (hpO _ k)) hgp
  refine Bj hc ⟨?_⟩
  cases l with
  | nil =>
   rintro r n' H' hle hsup ⟨v, O', rfl, ha, he⟩
   obtain ⟨m1, m2⟩ := main n' H' ⟨x, none, fin, fin, O'⟩ ha h4.1.symm ⟨he rfl, rfl⟩
   exact hk _ _ _ ⟨x, none, fin, fin, O'⟩ hle hsup ⟨rfl, rfl, ⟨v, rfl⟩, rfl, rfl⟩ m1 m2
  | cons e l =>
   obtain ⟨y, c⟩ := e
   rintro r n' H' hle hsup ⟨O', rfl, ha, hr⟩
   obtain ⟨m1, m2⟩ := main n' H' ⟨x, some l, c, fin, O'⟩ ha h4.1.1.symm ⟨hr, h4.2⟩
   exact hk _ _ _ ⟨x, some l, c, fin, O'⟩ hle hsup ⟨rfl, rfl, rfl, rfl, rfl⟩ m1 m2
theorem PtOk.len {gO lo n : Nat} {p : Pt} {H : A3} (h : PtOk gO lo p H n) : p.fin.length = p.cur.length := by
 unfold PtOk at h
 split at h
 ·exact (monL.fin h.2).1.symm
 ·rw [h.2]
theorem PtR.len {gO lo n n' lo' : Nat} {p p' : Pt} {H H' : A3} {r : AV} (h : PtR p r p') (k : PtOk gO lo p H n) : p'.cur.length = p.cur.length := by
 obtain ⟨x, l, cur, fin, O⟩ := p
 have h1 := k.len
 unfold PtR at h
 unfold PtOk at k
 match l, h, k with
 | none, h, k => rw [h.2.2.2.2]
 | some [], h, k => rw [h.2.2.2.2]; exact h1
 | some ((y, c) :: l), h, k => rw [h.2.2.2.2]; exact k.2.1.1.symm
structure Sit (gO lo : Nat) (ps : List Pt) (H : A3) (n gg : Nat) (cs : AZ) : Prop where
 pts : Pts gO lo ps H n
 giv : Giv gO lo (AL ps) H gg cs
 ngg : ¬ OU ps gg
 ngO : ¬ OU ps gO
 sup : ∀ g, n ≤ g → H g = none
theorem Sit.call {qs bs : List Pt} {p : Pt} {gO lo gg n : Nat} {cs : AZ} {H : A3} {d : Option Nat} {K : AS → Prop} {en : AT} (h : Sit gO lo (qs ++ p :: bs) H n gg cs)
  (hk : ∀ r n' H' p', n ≤ n' → PtR p r p' → (AL (qs ++ p' :: bs)).length = (AL (qs ++ p :: bs)).length → Sit gO lo (qs ++ p' :: bs) H' n' gg (Cd cs lo (AL (qs ++ p' :: bs))) → Aft lo gg cs (AL (qs ++ p' :: bs)) (OU (qs ++ p :: bs)) n H n' H' (OU (qs ++ p' :: bs)) → K ⟨AN en d r, n', H'⟩) :
  AH Tryz.prog d K en n H [] p.x := by
 have hlt := h.giv.lt h.sup
 refine h.pts.call h.giv h.ngg h.ngO (fun r n' H' p' hle hsup hr hP ha => ?_)
 have hl : (AL (qs ++ p' :: bs)).length = (AL (qs ++ p :: bs)).length := by
  have := hr.len (n' := n') (lo' := lo) (H' := H') h.pts.part
  simp only [Ek, AL, List.length_append]; omega
 refine hk r n' H' p' hle hr hl ⟨hP, ha.gv h.giv h.sup h.ngO hl, fun k => (ha.sub gg k).elim h.ngg (fun k => by omega), ha.nO h.ngO hlt.1, hsup⟩ ha
theorem Sit.keep {ps : List Pt} {gO lo gg n g : Nat} {cs : AZ} {H : A3} {x : Option AObj} (h : Sit gO lo ps H n gg cs) (h1 : ¬ OU ps g) (h2 : gO ≠ g) (h3 : gg ≠ g) (h4 : g < n) : Sit gO lo ps (upd H g x) n gg cs :=
 ⟨h.pts.at_ (fun k hk => upd_ne (fun e => h1 (e ▸ hk))) (Nat.le_refl _), h.giv.keep h2 h3, h.ngg, h.ngO, fun k hk => by rw [upd_ne (by omega)]; exact h.sup k hk⟩
theorem Sit.start {ps : List Pt} {gO lo gg n n0 : Nat} {cs : AZ} {H H0 : A3} (h : Pts gO lo ps H0 n0) (hn : n0 ≤ n) (hag : ∀ g, OU ps g → H g = H0 g) (h1 : ¬ OU ps gg) (h2 : ¬ OU ps gO) (hg : Giv gO lo (AL ps) H gg cs) (hs : ∀ g, n ≤ g → H g = none) : Sit gO lo ps H n gg cs :=
 ⟨h.at_ hag hn, hg, h1, h2, hs⟩
theorem Aft.eqc {lo gg n n' : Nat} {c c' cs : AZ} {H H' : A3} {O O' : Nat → Prop} (ha : Aft lo gg cs c O n H n' H' O') (h : c = c') : Aft lo gg cs c' O n H n' H' O' := h ▸ ha
theorem Aft.box {lo gg n n' g : Nat} {c cs : AZ} {H H' : A3} {O O' : Nat → Prop} {x : Option AObj} (ha : Aft lo gg cs c O n H n' H' O') (h1 : O g) (h2 : gg ≠ g) : Aft lo gg cs c O n H n' (upd H' g x) O' :=
 ⟨ha.le, ha.sub, ha.bel, fun k k1 k2 k3 => by rw [upd_ne (fun e => k2 (by rw [e]; exact h1))]; exact ha.fr k k1 k2 k3, by rw [upd_ne h2]; exact ha.giv⟩
theorem Zj {gO lo : Nat} {fa fb : AZ} {xa xb : AV} {g1 g2 g3 : Nat} {op : Int} (hop : 1 ≤ op ∧ op ≤ 5) : ∀ (la : Aq) (ca cb : AZ) (lb : Aq) (O1 O2 O : Nat → Prop) (H0 : A3) (n0 : Nat), Pts gO lo [⟨xa, some la, ca, fa, O1⟩, ⟨xb, some lb, cb, fb, O2⟩] H0 n0 → OU [⟨xa, some la, ca, fa, O1⟩, ⟨xb, some lb, cb, fb, O2⟩] = O → rgE la → rgE lb → ¬ O gO →
  Bx O gO g1 H0 n0 (Bt xa) → Bx O gO g2 H0 n0 (Bt xb) → Bx O gO g3 H0 n0 (Bm op) →
  Raw false gO lo (G0 (DZ op) fa fb la cb lb).2 (.fn 101 [] [.ptr g1 0, .ptr g2 0, .ptr g3 0]) (G0 (DZ op) fa fb la cb lb).1 (ca ++ cb) (fun g => O g ∨ g = g1 ∨ g = g2 ∨ g = g3) H0 n0 := by
 intro la
 induction la with
 | nil =>
  intro ca cb lb O1 O2 O H0 n0 hP hO hra hrb noO B1 B2 B3
  have hbel : ∀ g, O g → g < n0 := fun g hg => hP.bel g (hO ▸ hg)
  refine Raw.of fun n H gg cs hn hag hgg hgO hgv => ?_
  replace B1 := B1.to hn (hag g1 (.inr (.inl rfl)))
  have q1 := B1.at_
  have ng1 : gg ≠ g1 := fun h => hgg (.inr (.inl h))
  replace B2 := B2.to hn (hag g2 (.inr (.inr (.inl rfl))))
  have q2 := B2.at_
  have ng2 : gg ≠ g2 := fun h => hgg (.inr (.inr (.inl h)))
  replace B3 := B3.to hn (hag g3 (.inr (.inr (.inr rfl))))
  have q3 := B3.at_
  have ng3 : gg ≠ g3 := fun h => hgg (.inr (.inr (.inr h)))
  have nog : ¬ O gg := fun h => hgg (.inl h)
  replace hbel : ∀ g, O g → g < n := fun g h => Nat.lt_of_lt_of_le (hbel g h) hn
  refine ⟨Ub, ?_⟩
  subst hO
  have hS := fun hs => Sit.start hP hn (fun g hg => hag g (.inl hg)) nog noO (by simpa [AL] using hgv) hs
  generalize hR : Cv _ _ _ _ _ _ _ _ _ _ _ = R
  refine A8 Tryz.func101 Tr rfl fun hs => ?_
  have hS := hS hs
  repeat' (first | (simp -implicitDefEqProofs [IN, Ib, c101, -getElem?_pos, q1, q2, q3, splice, -AH]) | (simp (disch := omega) only [AA]) | (refine hS.call (qs := []) (fun r n' H' p' hle hr hl hS1 ha => ?_); obtain ⟨x', l', cur', fin', O'⟩ := p'; dsimp only [PtR] at hr; obtain ⟨rfl, rfl, ⟨v, rfl⟩, rfl, rfl⟩ := hr) | (with_reducible first | refine A6 ?_ ?_ ?_ | exact AC | assumption | refine A0 ?_ | refine KM.of ?_ | refine AB ?_ | intro _g _hg | refine AD ?_ ?_ | intro _hc) | omega)
  subst hR
  replace ha := ha.eqc (c' := cur' ++ cb) (by simp [AL])
  exact AI (r := .tup [_, _]) rfl (by omega) hS1.sup ⟨0, _, rfl, ((ha).ext (B := fun g => g = g1 ∨ g = g2 ∨ g = g3) (fun g h => by have := B1.lt; have := B2.lt; have := B3.lt; rcases h with rfl | rfl | rfl <;> omega) (fun _ _ => rfl) (fun _ _ => rfl) (fun h => h.elim ng1 (fun h => h.elim ng2 ng3))), fun h => by cases h⟩
 | cons e la ih =>
  obtain ⟨y, c⟩ := e
  intro ca cb lb O1 O2 O H0 n0 hP hO hra hrb noO B1 B2 B3
  have hbel : ∀ g, O g → g < n0 := fun g hg => hP.bel g (hO ▸ hg)
  refine Raw.of fun n H gg cs hn hag hgg hgO hgv => ?_
  replace B1 := B1.to hn (hag g1 (.inr (.inl rfl)))
  have q1 := B1.at_
  have ng1 : gg ≠ g1 := fun h => hgg (.inr (.inl h))
  replace B2 := B2.to hn (hag g2 (.inr (.inr (.inl rfl))))
  have q2 := B2.at_
  have ng2 : gg ≠ g2 := fun h => hgg (.inr (.inr (.inl h)))
  replace B3 := B3.to hn (hag g3 (.inr (.inr (.inr rfl))))
  have q3 := B3.at_
  have ng3 : gg ≠ g3 := fun h => hgg (.inr (.inr (.inr h)))
  have nog : ¬ O gg := fun h => hgg (.inl h)
  replace hbel : ∀ g, O g → g < n := fun g h => Nat.lt_of_lt_of_le (hbel g h) hn
  refine ⟨Ub, ?_⟩
  subst hO
  have hS := fun hs => Sit.start hP hn (fun g hg => hag g (.inl hg)) nog noO (by simpa [AL] using hgv) hs
  cases lb with
  | nil =>
   generalize hR : Cv _ _ _ _ _ _ _ _ _ _ _ = R
   refine A8 Tryz.func101 Tr rfl fun hs => ?_
   have hS := hS hs
   repeat' (first | (simp -implicitDefEqProofs [IN, Ib, c101, -getElem?_pos, q1, q2, q3, splice, -AH]) | (simp (disch := omega) only [AA]) | (refine hS.call (qs := []) (fun r n' H' p' hle hr hl hS1 ha => ?_); obtain ⟨x', l', cur', fin', O'⟩ := p'; dsimp only [PtR] at hr; obtain ⟨rfl, rfl, rfl, rfl, rfl⟩ := hr; have B2' := B2.go ng2 ha; have q2 := B2'.at_) | (refine hS1.call (qs := [_]) (bs := []) (fun r n2 H2 p' hle2 hr2 hl2 hS2 ha2 => ?_); obtain ⟨x2, l2, cur2, fin2, O2'⟩ := p'; dsimp only [PtR] at hr2; obtain ⟨rfl, rfl, ⟨v, rfl⟩, rfl, rfl⟩ := hr2) | (with_reducible first | refine A6 ?_ ?_ ?_ | exact AC | assumption | refine A0 ?_ | refine KM.of ?_ | refine AB ?_ | intro _g _hg | refine AD ?_ ?_ | intro _hc) | omega)
   subst hR
   have hat := Aft.tr hS.giv ha ha2 hl (hl2.trans hl)
   replace hat := hat.eqc (c' := cur' ++ cur2) (by simp [AL])
   exact AI (r := .tup [_, _]) rfl (by omega) hS2.sup ⟨0, _, rfl, ((hat).ext (B := fun g => g = g1 ∨ g = g2 ∨ g = g3) (fun g h => by have := B1.lt; have := B2.lt; have := B3.lt; rcases h with rfl | rfl | rfl <;> omega) (fun _ _ => rfl) (fun _ _ => rfl) (fun h => h.elim ng1 (fun h => h.elim ng2 ng3))), fun h => by cases h⟩
  | cons e lb =>
   obtain ⟨z, d⟩ := e
   have hap := Ir op y z (by omega) hra.hd hrb.hd (by omega)
   generalize hR : Cv _ _ _ _ _ _ _ _ _ _ _ = R
   refine A8 Tryz.func101 Tr rfl fun hs => ?_
   have hS := hS hs
   repeat' (first | (simp -implicitDefEqProofs [IN, Ib, c101, -getElem?_pos, q1, q2, q3, splice, -AH]) | (simp (disch := omega) only [AA]) | (refine hS.call (qs := []) (fun r n' H' p' hle hr hl hS1 ha => ?_); obtain ⟨x', l', cur', fin', O'⟩ := p'; dsimp only [PtR] at hr; obtain ⟨rfl, rfl, rfl, rfl, rfl⟩ := hr; have B1' := B1.go ng1 ha; have B2' := B2.go ng2 ha; have B3' := B3.go ng3 ha; have q2 := B2'.at_; have q3 := B3'.at_) | (refine hS1.call (qs := [_]) (bs := []) (fun r n2 H2 p' hle2 hr2 hl2 hS2 ha2 => ?_); obtain ⟨x2, l2, cur2, fin2, O2'⟩ := p'; dsimp only [PtR] at hr2; obtain ⟨rfl, rfl, rfl, rfl, rfl⟩ := hr2; have B1' := B1'.go ng1 ha2; have B2' := B2'.go ng2 ha2; have B3' := B3'.go ng3 ha2; have q3 := B3'.at_) | ((with_reducible refine Aa 102 ?_); refine' Am (hap) ?_) | (with_reducible first | refine A6 ?_ ?_ ?_ | exact AC | assumption | refine A0 ?_ | refine KM.of ?_ | refine AB ?_ | intro _g _hg | refine AD ?_ ?_ | intro _hc) | omega)
   subst hR
   have hat := Aft.tr hS.giv ha ha2 hl (hl2.trans hl)
   replace hat := hat.eqc (c' := cur' ++ cur2) (by simp [AL])
   exact AI (r := .tup [_, _]) rfl (by omega) hS2.sup ⟨_, rfl, ((hat).ext (B := fun g => g = g1 ∨ g = g2 ∨ g = g3) (fun g h => by have := B1.lt; have := B2.lt; have := B3.lt; rcases h with rfl | rfl | rfl <;> omega) (fun _ _ => rfl) (fun _ _ => rfl) (fun h => h.elim ng1 (fun h => h.elim ng2 ng3))), ih cur' cur2 lb O' O2' _ _ _ hS2.pts rfl hra.tl hrb.tl hS2.ngO B1' B2' B3'⟩
end Go.Proofs.YtjdccdelcnmocaaGreatDoor
