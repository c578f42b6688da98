/- Streams: what the reference reads is what is written; no condition. -/
import Derived.Test.YtjdccdelcnmocaaGreatDoorMgJ
import Derived.Test.YtjdccdelcnmocaaGreatDoorMdR
import Derived.Test.YtjdccdelcnmocaaGreatDoorAdF
import Derived.Test.YtjdccdelcnmocaaGreatDoorMdM
set_option linter.all false
set_option linter.unusedSimpArgs false
set_option linter.unusedVariables false
namespace Go.Proofs.YtjdccdelcnmocaaGreatDoor
def stp (d : Int) (x : UInt8) : Int := d + (if x = 40 then 1 else 0) - (if x = 41 then 1 else 0)
theorem Ya {x : UInt8} (h : x ≠ 40) (k : x ≠ 41) (d : Int) : stp d x = d := by unfold stp; rw [if_neg h, if_neg k]; omega
def TP : Ad → Ad → Int → List Ad → Option (List Ad × Int)
 | [], cur, d, out => some (out ++ [cur], d)
 | x :: r, cur, d, out => if x = 44 ∧ d = 0 then TP r [] d (out ++ [cur])
  else if stp d x < 0 then none
  else TP r (cur ++ [x]) (stp d x) out
def Bal (lo : Int) (t : Ad) : Prop := ∀ (r cur : Ad) (d : Int) (out : List Ad), lo ≤ d → TP (t ++ r) cur d out = TP r (cur ++ t) d out
theorem Bal.up {t : Ad} (h : Bal 0 t) : Bal 1 t := fun r cur d out hd => h r cur d out (by omega)
theorem Bal.nil {lo : Int} : Bal lo [] := fun r cur d out _ => by simp
theorem Bal.app {lo : Int} {a b : Ad} (h : Bal lo a) (k : Bal lo b) : Bal lo (a ++ b) := fun r cur d out hd => by rw [List.append_assoc, h _ _ _ _ hd, k _ _ _ _ hd, List.append_assoc]
theorem Bal.plain {lo : Int} (h0 : 0 ≤ lo) : ∀ {t : Ad}, (∀ c ∈ t, c ≠ 40 ∧ c ≠ 41 ∧ c ≠ 44) → Bal lo t
 | [], _ => Bal.nil
 | x :: t, h => fun r cur d out hd => by
  obtain ⟨h1, h2, h3⟩ := h x List.mem_cons_self
  rw [List.cons_append, TP, if_neg (fun e => h3 e.1), Ya h1 h2, if_neg (by omega), Bal.plain h0 (fun c hc => h c (List.mem_cons_of_mem _ hc)) _ _ _ _ (by omega)]
  simp
theorem Bal.com : Bal 1 [44] := fun r cur d out hd => by
 show TP (44 :: r) cur d out = _
 rw [TP, if_neg (fun e => by omega), Ya (by decide) (by decide), if_neg (by omega)]
theorem Bal.jt : ∀ {l : List Ad}, (∀ x ∈ l, Bal 0 x) → Bal 1 (jt l)
 | [], _ => Bal.nil
 | x :: l, h => by
  rw [Hk]
  exact Bal.com.app ((h x List.mem_cons_self).up.app (Bal.jt fun y hy => h y (List.mem_cons_of_mem _ hy)))
theorem Bal.jn {l : List Ad} (h : ∀ x ∈ l, Bal 0 x) : Bal 1 (jn l) := by
 cases l with
 | nil => exact Bal.nil
 | cons x l =>
  rw [Da]
  exact (h x List.mem_cons_self).up.app (Bal.jt fun y hy => h y (List.mem_cons_of_mem _ hy))
theorem VF : ∀ j : Fin 16, ∃ x, shqs[j.val]? = some x ∧ DA ((j.val : Int) + 1) = x.vs ∧ Pu ((j.val : Int) + 1) = x.fn ∧ Cz ((j.val : Int) + 1) = x.cd ∧ (Iv ((j.val : Int) + 1) = decide (0 < x.n1 ∧ x.fn = false)) ∧ (x.vs = false → (Gb ((j.val : Int) + 1) = decide (x.parts < 0)) ∧ (Jc ((j.val : Int) + 1) = decide (x.parts = 2)) ∧ (x.parts < 0 ∨ x.parts = 1 ∨ x.parts = 2)) := by
 intro j
 obtain ⟨j, hj⟩ := j
 iterate 16 (rcases j with _ | j; · exact ⟨_, rfl, by dsimp only; decide⟩)
 omega
structure FlagOk (k : Int) (x : Shq) : Prop where
 lf : DA k = x.vs
 fn : Pu k = x.fn
 cd : Cz k = x.cd
 ct : Iv k = decide (0 < x.n1 ∧ x.fn = false)
 mn : x.vs = false → (Gb k = decide (x.parts < 0)) ∧ (Jc k = decide (x.parts = 2)) ∧ (x.parts < 0 ∨ x.parts = 1 ∨ x.parts = 2)
theorem Uz {k : Int} (h1 : 1 ≤ k) (h2 : k ≤ 16) : FlagOk k (Al k) := by
 obtain ⟨x, a1, a2, a3, a4, a5, a6⟩ := VF ⟨(k - 1).toNat, by omega⟩
 have e : (((k - 1).toNat : Nat) : Int) + 1 = k := by omega
 have := (NT h1 h2).1
 dsimp only at a1 a2 a3 a4 a5 a6
 rw [a1] at this
 injection this with this
 rw [e] at a2 a3 a4 a5 a6
 rw [← this]
 exact ⟨a2, a3, a4, a5, a6⟩
theorem Wz : ∀ s : St, Nz s → Rk s → U1 s := by
 intro s
 refine St.ind (Q := fun s => Nz s → Rk s → U1 s) ?_ s
 intro k o m v p ih hok hsm
 have T := RA hok hsm
 have N := Fa hok.1
 have F := Uz T.k1 T.k2
 obtain ⟨_, hx⟩ := NT T.k1 T.k2
 have nat_of : ∀ {y : Int}, 0 ≤ y ∧ y ≤ 10000 → P7 y := fun h => ⟨h.1, by omega⟩
 refine ⟨⟨T.k1, T.k2, T.fn, fun e => T.cd (by cases e2 : (Al k).fn with
  | false => rfl
  | true => rw [hx.fc e2] at e; cases e) e, fun e1 e2 => ?_, nat_of T.mb, fun e => ?_, fun e => ?_, fun y hy => nat_of (T.vb y hy), fun e => ?_, fun e1 e2 => ?_⟩, ?_⟩
 ·exact N.noo (by rw [F.fn]; exact e1) (by rw [F.cd]; exact e2)
 ·refine N.non ?_
  rcases e with rfl | ⟨e1, e2, e3⟩
  ·rfl
  ·have h1 := F.fn
   have h2 := F.cd
   have h3 := F.ct
   rw [e1] at h1
   rw [e2] at h2
   rw [e3, decide_eq_false (fun h => by omega)] at h3
   unfold OF
   rw [h1, h2, h3]; rfl
 ·have h1 := F.lf
  rw [e] at h1
  unfold DA at h1
  simp only [Bool.or_eq_false_iff, decide_eq_false_iff_not] at h1
  exact N.nov h1.1 h1.2
 ·have h1 := F.lf
  rw [e] at h1
  unfold DA at h1
  simp only [Bool.or_eq_true, decide_eq_true_eq] at h1
  rw [N.leaf h1]; rfl
 ·have h1 := F.lf
  rw [e1] at h1
  obtain ⟨m1, m2, m3⟩ := F.mn e1
  unfold DA at h1
  unfold Gb at m1
  unfold Jc at m2
  simp only [Bool.or_eq_false_iff, decide_eq_false_iff_not] at h1
  rcases m3 with h | h | h
  ·omega
  ·rw [decide_eq_false (by omega : ¬ (Al k).parts < 0)] at m1
   rw [decide_eq_false (by omega : ¬ (Al k).parts = 2)] at m2
   simp only [Bool.or_eq_false_iff, decide_eq_false_iff_not] at m1 m2
   have := N.one h1.1 h1.2 m1.1 m1.2 m2.1 m2.2
   omega
  ·rw [decide_eq_true h] at m2
   simp only [Bool.or_eq_true, decide_eq_true_eq] at m2
   have := N.two m2
   omega
 ·have h1 := hok.2
  have h2 := hsm.2
  clear N T F hok hsm hx
  induction p with
  | nil => trivial
  | cons q r ihp => exact ⟨ih q List.mem_cons_self h1.1 h2.1, ihp (fun s hs => ih s (List.mem_cons_of_mem _ hs)) h1.2 h2.2⟩
theorem Vt : ∀ d : Fin 10, (Utf8.encode (48 + (d.val : Int))).data.toList = [UInt8.ofNat (48 + d.val)] := by decide +kernel
theorem Hu {d : Nat} (h : d < 10) : (Utf8.encode (48 + (d : Int))).data.toList = [UInt8.ofNat (48 + d)] := by
 have e := Vt ⟨d, h⟩
 simp only at e
 exact e
theorem Iz (k : Nat) : (Lib.decDigits k).length ≤ k + 1 := by
 rw [Lib.decDigits_length]
 induction k using Nat.strongRecOn with
 | _ m ih =>
  by_cases c : m < 10
  ·rw [Lib.nDigits_small c]; omega
  ·rw [Lib.nDigits_big c]; have := ih (m / 10) (by omega); omega
theorem WO {a b : Ad} (h : a.length + b.length ≤ 9000000000000000000) : Cu .add a b = some (.str (a ++ b)) := by
 simp only [Cu]
 rw [if_neg]
 have : IntKind.i64.max = 9223372036854775807 := by decide
 rw [this]; omega
attribute [local simp] Nr F6 Ej Lh Ke MA LY F0 Eg HW HP NA KJ Mo MQ Ml MY LL L9 N3 KY MH MN Nf Nu T7 pe Ki LQ Kx Ng Kw LB Lq Nv LZ NX Nn LI LF FP Mq Ku Mb Kp N6 MX KD Mg Mh M7 Kg Kl KZ NM LC Lc K9 LN NY NC N7 FB M6 Ei Lt N5 Nc Mx N9 KQ LJ Nt KX NQ MM NU MS L4 Nq MW Lx LE Md LD Mt L3 Ka NO Kf Eu NG Mr MD Lv LR NS NL Mv KO Kb KA NI Ma KH Lr KF N1 Mw LW NK M1 Mp LH Mj L8 LX MR MG Nh N2 LG NN List.mem_cons guardK Df Fh GG HG LO Ek EW FD FE Ep Eb F1 EY FM Mz Me Ew KT KP Nm Mn NF Kz Em Mf Ni N8 Ns KK Kj H8 Ef F8 Ex Ev M5 LU En Ms FI M3 F2 Ey MU Er FJ NP MP Lw LP L1 LT N0 Lm T8 Ji Jj ID Jk Jo Jd EL Gi Ge Ky Gm Gc EK Dd UH JV Jg GZ K4 K2 EI EJ Bv Bb Ck DF AI ev get put I1 AO Dv Lu Ko Lo MZ Nk KI FU part Bo I4 Lf I7 isNil D9 DC FT DW Cu L0 ME My MJ LV K0 MK Km KG Na KN NV Ld NZ MC K8 AV.fits AV.cells ones AV.one FZ D6 FV EV Gp Ff M4 Hg HJ D8 Bm CA EZ Hz AK Bl Vy HI MO M9 List.getElem?_cons_zero List.getElem?_cons_succ El EX FC Nb Lj Mc IJ L6 LM Kv Lp Mk L5 N4 MV KL Kt M2
theorem TG (k : Nat) (c : k < 10) : APure Tryz.prog 57 [aI k] (.str [UInt8.ofNat (48 + k)]) := by
 have he := Hu c
 have hw : IntKind.i32.wrap (48 + (k : Int)) = 48 + (k : Int) := IntWalk.i32_in _ (by omega)
 refine AD Tryz.func57 V9 rfl fun n H hH => ?_
 repeat' (first | (simp -implicitDefEqProofs [IW, IX, IR, Ik, c57, -getElem?_pos, AL, hw, he]) | (simp (disch := omega) only [AB]) | (with_reducible first | refine A5 ?_ ?_ ?_ | exact A7 | refine SameB.upd ?_ ?_ _ | assumption | refine A0 ?_ | refine KM.of ?_ | refine AA ?_ | intro _g _hg | refine A9 ?_ ?_ | intro _hc) | omega)
theorem TH (k : Nat) (c : ¬ k < 10) (hk : k ≤ 1000000000) (l : Ad) (hl : l.length ≤ k) (hr : APure Tryz.prog 57 [aI ((k : Int) / 10)] (.str l)) : APure Tryz.prog 57 [aI k] (.str (l ++ [UInt8.ofNat (48 + k % 10)])) := by
 have hm : k % 10 < 10 := by omega
 have he := Hu hm
 have e2 : ((k % 10 : Nat) : Int) = (k : Int) % 10 := by omega
 rw [e2] at he
 have hw : IntKind.i32.wrap (48 + (k : Int) % 10) = 48 + (k : Int) % 10 := IntWalk.i32_in _ (by omega)
 generalize UInt8.ofNat (48 + k % 10) = ch at he ⊢
 have hadd : Cu .add l [ch] = some (.str (l ++ [ch])) := WO (by simp; omega)
 obtain ⟨u, hu⟩ : ∃ u, Utf8.encode (48 + (k : Int) % 10) = u := ⟨_, rfl⟩
 rw [hu] at he
 have hsz : u.size = 1 := by rw [Lib.size_eq, he]; rfl
 have hlt : ¬ (9223372036854775807 : Int) < (l.length : Int) + 1 := by omega
 refine AD Tryz.func57 V9 rfl fun n H hH => ?_
 repeat' (first | (simp -implicitDefEqProofs [IW, IX, IR, Ik, c57, -getElem?_pos, AL, hw, hu, he, hsz, hlt]) | (simp (disch := omega) only [AB]) | ((with_reducible refine AN 57 ?_); (refine' CallP.sf ?_ (hr) ?_); (focus first | (with_reducible exact A4 _) | (simp [AT, AL, A6, A4]; done))) | (with_reducible first | refine A5 ?_ ?_ ?_ | exact A7 | refine SameB.upd ?_ ?_ _ | assumption | refine A0 ?_ | refine KM.of ?_ | refine AA ?_ | intro _g _hg | refine A9 ?_ ?_ | intro _hc) | omega)
theorem Qm (k : Nat) : k ≤ 1000000000 → APure Tryz.prog 57 [aI k] (.str (Lib.decDigits k)) := by
 induction k using Nat.strongRecOn with
 | _ k ih =>
  intro hk
  by_cases c : k < 10
  ·rw [Lib.decDigits_one c]
   exact TG k c
  ·have hd : Lib.decDigits k = Lib.decDigits (k / 10) ++ [UInt8.ofNat (48 + k % 10)] := by rw [Lib.decDigits, dif_neg c]
   have hr := ih (k / 10) (by omega) (by omega)
   have e1 : ((k / 10 : Nat) : Int) = (k : Int) / 10 := by omega
   rw [e1] at hr
   rw [hd]
   exact TH k c hk _ (by have := Iz (k / 10); omega) hr
theorem Tk (k : Nat) (c : k < 10) (h0 : 0 < k) : APure Tryz.prog 57 [aI (-(k : Int))] (.str (45 :: [UInt8.ofNat (48 + k)])) := by
 have he := Hu c
 have hw : IntKind.i32.wrap (48 - -(k : Int)) = 48 + (k : Int) := by
  have e : 48 - -(k : Int) = 48 + k := by omega
  rw [e]; exact IntWalk.i32_in _ (by omega)
 have hw2 : IntKind.i32.wrap (48 + (k : Int)) = 48 + (k : Int) := IntWalk.i32_in _ (by omega)
 have h1 : (-(k : Int)) < 0 := by omega
 have h2 : ¬ (-(k : Int)) < -9 := by omega
 generalize UInt8.ofNat (48 + k) = ch at he ⊢
 obtain ⟨u, hu⟩ : ∃ u, Utf8.encode (48 + (k : Int)) = u := ⟨_, rfl⟩
 rw [hu] at he
 have hsz : u.size = 1 := by rw [Lib.size_eq, he]; rfl
 refine AD Tryz.func57 V9 rfl fun n H hH => ?_
 repeat' (first | (simp -implicitDefEqProofs [IW, IX, IR, Ik, c57, -getElem?_pos, AL, hw, hw2, hu, he, hsz, h1, h2]) | (simp (disch := omega) only [AB]) | (with_reducible first | refine A5 ?_ ?_ ?_ | exact A7 | refine SameB.upd ?_ ?_ _ | assumption | refine A0 ?_ | refine KM.of ?_ | refine AA ?_ | intro _g _hg | refine A9 ?_ ?_ | intro _hc) | omega)
theorem Tu (k : Nat) (c : ¬ k < 10) (hk : k ≤ 1000000000) (l : Ad) (hl : l.length ≤ k) (hr : APure Tryz.prog 57 [aI ((k : Int) / 10)] (.str l)) : APure Tryz.prog 57 [aI (-(k : Int))] (.str (45 :: (l ++ [UInt8.ofNat (48 + k % 10)]))) := by
 have hm : k % 10 < 10 := by omega
 have he := Hu hm
 have e2 : ((k % 10 : Nat) : Int) = (k : Int) % 10 := by omega
 rw [e2] at he
 have hq : Int.tdiv (-(k : Int)) 10 = -((k : Int) / 10) := by rw [Int.neg_tdiv, Int.tdiv_eq_ediv_of_nonneg (by omega)]
 have hmm : Int.tmod (-(k : Int)) 10 = -((k : Int) % 10) := by rw [Int.neg_tmod, Int.tmod_eq_emod_of_nonneg (by omega)]
 have hw : IntKind.i32.wrap (48 + (k : Int) % 10) = 48 + (k : Int) % 10 := IntWalk.i32_in _ (by omega)
 have hw3 : IntKind.i32.wrap (48 - -((k : Int) % 10)) = 48 + (k : Int) % 10 := by
  have e : 48 - -((k : Int) % 10) = 48 + (k : Int) % 10 := by omega
  rw [e]; exact hw
 have h1 : (-(k : Int)) < 0 := by omega
 have h2 : (-(k : Int)) < -9 := by omega
 generalize UInt8.ofNat (48 + k % 10) = ch at he ⊢
 obtain ⟨u, hu⟩ : ∃ u, Utf8.encode (48 + (k : Int) % 10) = u := ⟨_, rfl⟩
 rw [hu] at he
 have hsz : u.size = 1 := by rw [Lib.size_eq, he]; rfl
 have hlt : ¬ (9223372036854775807 : Int) < 1 + (l.length : Int) := by omega
 have hlt2 : ¬ (9223372036854775807 : Int) < (l.length : Int) + 1 + 1 := by omega
 refine AD Tryz.func57 V9 rfl fun n H hH => ?_
 repeat' (first | (simp -implicitDefEqProofs [IW, IX, IR, Ik, c57, -getElem?_pos, AL, hq, hmm, hw, hw3, hu, he, hsz, hlt, hlt2, h1, h2]) | (simp (disch := omega) only [AB]) | ((with_reducible refine AN 57 ?_); (refine' CallP.sf ?_ (hr) ?_); (focus first | (with_reducible exact A4 _) | (simp [AT, AL, A6, A4]; done))) | (with_reducible first | refine A5 ?_ ?_ ?_ | exact A7 | refine SameB.upd ?_ ?_ _ | assumption | refine A0 ?_ | refine KM.of ?_ | refine AA ?_ | intro _g _hg | refine A9 ?_ ?_ | intro _hc) | omega)
theorem Qg (n : Int) (h : -1000000000 ≤ n ∧ n ≤ 1000000000) : APure Tryz.prog 57 [aI n] (.str (Lib.itoa n)) := by
 by_cases c : n < 0
 ·obtain ⟨u, rfl⟩ : ∃ u : Nat, n = -(u : Int) := ⟨n.natAbs, by omega⟩
  rw [Lib.itoa_neg u (by omega)]
  by_cases c2 : u < 10
  ·rw [Lib.decDigits_one c2]; exact Tk u c2 (by omega)
  ·have hd : Lib.decDigits u = Lib.decDigits (u / 10) ++ [UInt8.ofNat (48 + u % 10)] := by rw [Lib.decDigits, dif_neg c2]
   have hr := Qm (u / 10) (by omega)
   have e1 : ((u / 10 : Nat) : Int) = (u : Int) / 10 := by omega
   rw [e1] at hr
   rw [hd]
   exact Tu u c2 (by omega) _ (by have := Iz (u / 10); omega) hr
 ·obtain ⟨u, rfl⟩ : ∃ u : Nat, n = (u : Int) := ⟨n.toNat, by omega⟩
  rw [Lib.itoa_nonneg]
  exact Qm u (by omega)
theorem Ip (sep : Ad) : ∀ (l : List Ad) (k : Nat) (x : Ad), l[k]? = some x → Lib.join (l.take (k + 1)) sep = (if 0 < k then Lib.join (l.take k) sep ++ sep else Lib.join (l.take k) sep) ++ x
 | [], k, x, h => by simp at h
 | y :: l, 0, x, h => by
  simp at h; subst h
  simp [Lib.join_one, Lib.join]
 | y :: l, k + 1, x, h => by
  have h' : l[k]? = some x := by simpa using h
  have ih := Ip sep l k x h'
  rw [List.take_succ_cons, List.take_succ_cons, if_pos (by omega)]
  rw [Lib.join_cons, Lib.join_cons]
  have : ∀ m : List Ad, m ≠ [] → Lib.joinTail sep m = sep ++ Lib.join m sep := by
   intro m hm
   obtain ⟨a, b, rfl⟩ := List.exists_cons_of_ne_nil hm
   rw [Lib.join_cons]; simp [Lib.joinTail]
  have hne : l.take (k + 1) ≠ [] := by
   intro e
   have : l = [] := by cases l with | nil => rfl | cons a b => simp at e
   rw [this] at h'; simp at h'
  rw [this _ hne, ih]
  by_cases hk : 0 < k
  ·rw [if_pos hk]
   have hne2 : l.take k ≠ [] := by
    intro e
    have : l = [] := by
     cases l with
     | nil => rfl
     | cons a b => cases k with | zero => omega | succ k => simp at e
    rw [this] at h'; simp at h'
   rw [this _ hne2]; simp
  ·have : k = 0 := by omega
   subst this
   rw [if_neg hk]; simp [Lib.joinTail, Lib.join]
theorem QI (sep : Ad) (l : List Ad) : ∀ k, (Lib.join (l.take k) sep).length ≤ (Lib.join l sep).length := by
 have step : ∀ k, (Lib.join (l.take k) sep).length ≤ (Lib.join (l.take (k + 1)) sep).length := by
  intro k
  by_cases hk : k < l.length
  ·rw [Ip sep l k l[k] (List.getElem?_eq_getElem hk)]
   split <;> simp <;> omega
  ·rw [List.take_of_length_le (by omega), List.take_of_length_le (by omega)]; exact Nat.le_refl _
 have up : ∀ k j, (Lib.join (l.take k) sep).length ≤ (Lib.join (l.take (k + j)) sep).length := by
  intro k j
  induction j with
  | zero => exact Nat.le_refl _
  | succ j ih => exact Nat.le_trans ih (step (k + j))
 intro k
 have h := up k l.length
 have e : l.take (k + l.length) = l := List.take_of_length_le (by omega)
 rw [e] at h
 exact h
theorem ZR (l : List Ad) (sep : Ad) (hl : l.length ≤ 1000000) (hs : sep.length ≤ 1000000) (hb : (Lib.join l sep).length ≤ 1000000) (hx : ∀ x ∈ l, x.length ≤ 1000000) : APure Tryz.prog 60 [aSs l, .str sep] (.str (Lib.join l sep)) := by
 have hmono := QI sep l
 refine AD Tryz.func60 A0l rfl fun n H hH => ?_
 repeat' (first | (simp -implicitDefEqProofs [Hd, Fl, Fr, Fv, Ee, c60, -getElem?_pos, AL]) | (simp (disch := omega) only [AB]) | (with_reducible first | refine A5 ?_ ?_ ?_ | exact A7 | refine SameB.upd ?_ ?_ _ | assumption | refine A0 ?_ | refine KM.of ?_ | refine AA ?_ | intro _g _hg | refine A9 ?_ ?_ | intro _hc) | omega)
 refine LoopK.go (fun q st => ∃ (k : Nat), k + q = l.length ∧ st = ⟨[(0, aSs l), (1, .str sep), (5, .str (Lib.join (l.take k) sep)), (6, aI k)], n, H⟩) l.length ⟨0, by omega, rfl⟩ ?_
 rintro q st ⟨k, hkq, rfl⟩ J hJ
 by_cases hk : k < l.length
 ·obtain ⟨y, hy⟩ : ∃ y, l[k]? = some y := ⟨_, List.getElem?_eq_getElem hk⟩
  have hy2 : (l.map AV.str)[k]? = some (.str y) := by rw [List.getElem?_map, hy]; rfl
  have hyl := hx y (List.mem_of_getElem? hy)
  have e := Ip sep l k y hy
  have hm := hmono k
  by_cases h0 : 0 < k
  ·rw [if_pos h0] at e
   generalize Lib.join (l.take k) sep = acc at *
   have a1 : ¬ (9223372036854775807 : Int) < (acc.length : Int) + sep.length := by omega
   have a2 : ¬ (9223372036854775807 : Int) < (acc.length : Int) + sep.length + y.length := by omega
   have a3 : ¬ (9223372036854775807 : Int) < (acc.length : Int) + (sep.length + y.length) := by omega
   have h0' : (0 : Int) < k := by omega
   repeat' (first | (simp -implicitDefEqProofs [Hd, Fl, Fr, Fv, Ee, c60, -getElem?_pos, AL, hy, hy2, h0, h0', a1, a2, a3]) | (simp (disch := omega) only [AB]) | (with_reducible first | refine A5 ?_ ?_ ?_ | exact A7 | refine SameB.upd ?_ ?_ _ | assumption | refine A0 ?_ | refine KM.of ?_ | refine AA ?_ | intro _g _hg | refine A9 ?_ ?_ | intro _hc) | omega)
   exact hJ (q - 1) _ (by omega) ⟨k + 1, by omega, by rw [e]; simp⟩
  ·have : k = 0 := by omega
   subst this
   rw [if_neg h0] at e
   have hne : ¬ l = [] := fun e' => by rw [e'] at hk; simp at hk
   generalize Lib.join (l.take 0) sep = acc at *
   have a1 : ¬ (9223372036854775807 : Int) < (acc.length : Int) + y.length := by omega
   repeat' (first | (simp -implicitDefEqProofs [Hd, Fl, Fr, Fv, Ee, c60, -getElem?_pos, AL, hy, hy2, a1, hne]) | (simp (disch := omega) only [AB]) | (with_reducible first | refine A5 ?_ ?_ ?_ | exact A7 | refine SameB.upd ?_ ?_ _ | assumption | refine A0 ?_ | refine KM.of ?_ | refine AA ?_ | intro _g _hg | refine A9 ?_ ?_ | intro _hc) | omega)
   exact hJ (q - 1) _ (by omega) ⟨1, by omega, by rw [e]; simp⟩
 ·have hk0 : k = l.length := by omega
  subst hk0
  rw [List.take_length]
  repeat' (first | (simp -implicitDefEqProofs [Hd, Fl, Fr, Fv, Ee, c60, -getElem?_pos, AL]) | (simp (disch := omega) only [AB]) | (with_reducible first | refine A5 ?_ ?_ ?_ | exact A7 | refine SameB.upd ?_ ?_ _ | assumption | refine A0 ?_ | refine KM.of ?_ | refine AA ?_ | intro _g _hg | refine A9 ?_ ?_ | intro _hc) | omega)
def tkF (F : Fut) : List AZ := F.cur :: (F.l.map (·.2) ++ [F.fin])
abbrev Qr (x y : AV) : AObj := .cells 40 [x, y]
section
variable {n0 n : Nat} {H0 H : A2} {bs : List (Nat × AObj)} {os : List OwnR} {a : OwnR} {d : Option Nat} {e : AW} {K : AS → Prop} {x : AV} {l m m' : List AV} {el by_ : Nat} {t : Tok}
end
def eX (d : As) : List AV := d.map fun e => aI e.1
def eT (c : AZ) (d : As) : List AV := OO c :: d.map fun e => OO e.2
theorem UZ (d : As) (x : Int) (c : AZ) : eX (d ++ [(x, c)]) = eX d ++ [aI x] := by simp [eX]
theorem Uq (c0 : AZ) (d : As) (x : Int) (c : AZ) : eT c0 (d ++ [(x, c)]) = eT c0 d ++ [OO c] := by simp [eT]
section
variable {n0 n : Nat} {H0 H : A2} {bs : List (Nat × AObj)} {a : OwnR} {d : Option Nat} {e : AW} {K : AS → Prop} {l : List AV} {el sz : Nat}
end
section
variable {n0 n lo : Nat} {H0 H : A2} {bs : List (Nat × AObj)} {os : List OwnR} {a : OwnR} {d : Option Nat} {e : AW} {K : AS → Prop} {l : List AV} {el sz k : Nat}
end
abbrev GivI (n : Nat) (H : A2) (g g2 : Nat) (bs : List (Nat × AObj)) (c : AZ) (d : As) (z : Nat) (t : Tok) (z2 : Nat) (t2 : Tok) (n' : Nat) (H' : A2) : Prop := Owns n H ((g, Qr (.sl z (eX d) t) (.sl z2 (eT c d) t2)) :: (g2, Qr DX DX) :: bs) [⟨3, 1, .sl z (eX d) t, eX d⟩, ⟨22, 1, .sl z2 (eT c d) t2, eT c d⟩] n' H'
theorem GivI.snoc {n : Nat} {H : A2} {g g2 : Nat} {bs : List (Nat × AObj)} {c : AZ} {d : As} {z : Nat} {t : Tok} {z2 : Nat} {t2 : Tok} {n' : Nat} {H' : A2} {x : Int} {c' : AZ} {ob : AObj} (h : Owns n H ((g, ob) :: (g2, Qr DX DX) :: bs) [⟨3, 1, .sl z (eX d ++ [aI x]) t, eX d ++ [aI x]⟩, ⟨22, 1, .sl z2 (eT c d ++ [OO c']) t2, eT c d ++ [OO c']⟩] n' H') (hne : ∀ b ∈ (g2, Qr DX DX) :: bs, b.1 ≠ g) :
  GivI n H g g2 bs c (d ++ [(x, c')]) z t z2 t2 n' (upd H' g (some (Qr (.sl z (eX d ++ [aI x]) t) (.sl z2 (eT c d ++ [OO c']) t2)))) := by
 have h2 := h.set0 hne 40 [.sl z (eX d ++ [aI x]) t, .sl z2 (eT c d ++ [OO c']) t2]
 unfold GivI
 rw [UZ, Uq]
 exact h2
end Go.Proofs.YtjdccdelcnmocaaGreatDoor
