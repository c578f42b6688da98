/- Numbers and texts as the reference writes, joins, reads and divides them; no condition. -/
import Derived.Test.YtnfjgphfaemjcaaGreatDoorMdL
import Derived.Test.YtnfjgphfaemjcaaGreatDoorMgH
import Derived.Test.YtnfjgphfaemjcaaGreatDoorMgI
import Derived.Test.YtnfjgphfaemjcaaGreatDoorAdE
set_option linter.all false
set_option linter.unusedSimpArgs false
set_option linter.unusedVariables false
set_option maxHeartbeats 2000000
namespace Go.Proofs.YtnfjgphfaemjcaaGreatDoor
abbrev UG (l : List AP) : List AV := l.map AV.str
theorem drop_at {α : Type} {l : List α} {k : Nat} {x : α} (h : l[k]? = some x) : l.drop k = x :: l.drop (k + 1) := by
  have hk := (List.getElem?_eq_some_iff.1 h).1
  rw [List.drop_eq_getElem_cons hk, (List.getElem?_eq_some_iff.1 h).2]
theorem Vp {α : Type} [DecidableEq α] {a b : List α} (hl : a.length = b.length) {k : Nat} {x y : α} (hx : a[k]? = some x) (hy : b[k]? = some y) : (a.drop k = b.drop k) ↔ (x = y ∧ a.drop (k + 1) = b.drop (k + 1)) := by
  rw [drop_at hx, drop_at hy]; simp
attribute [local simp] Iz E8 E9 JB Kv JT Jv EA E7 Ff GB Jc Ip JS Jt Iw Ho I0 IS KH Io JE Ix JH JF Pa pe Kd J9 Jz KY J7 Jy JU Ie JR Ju KJ Il JZ FJ Mm MP MS Mx Mj Nv Ny NZ Mr Mq Ml Nr MM No Mz NL NX Mv Mt NB NV FS N6 FG My Np Na Mp Ms Mo Mc Nn N7 Mb NJ MW MU Mf NP O4 Mu Nc Nm NQ NM N3 NC MV N0 FN O2 NE Nx NR Mw Ns O1 NO Nj Nb O0 Mh ND Nh Ma NY MQ MR NH Ku JA Ki Ke K9 Id KE Ii KT JG Ji Hf Jn List.mem_cons guardK DY EN EV Fh Me FE F9 FT FO FC F4 FY FL FW Mi NW F3 KG N4 NN MN NK NS F2 J0 Nk NF Ja KX Nq HM FB FR Fa FX Nz Nu F6 O3 F1 K0 FM FD JN F8 F7 N8 Mk N9 J8 Ng MT Jl Ko Qz IN IH GU IP ID II Dt Eu Ev KZ Ey Es Dv Db Su IF IY Ez IG Hu DT DK BX BK Bw DL Cd ev get put Dz AG DQ JC Ic Iy Jp IC J6 E5 part B0 GL KB Fg isNil Cs D3 DU D2 CW Ih Jb Jx KA Is Kr KP KQ JW KR KN Kl Jr JY JO K8 AV.fits AV.cells ones AV.one Dq Bt Dp DF Dy E3 Ir Ec Ek CY Bd Cx FZ Da AY B3 T8 Fm Ks JP List.getElem?_cons_zero List.getElem?_cons_succ FQ FH FU Kb JM Iq GI Jf JV KU Kn Kg KK Jh Ni JJ Je Jq KI Ij Jo It KL J1 K2 KV Kj Im K4 Jg JK Ka JI K6 Kh
theorem Ti (a b : List AP) (hmx : a.length ≤ 140737488355328) : APure Tryz.prog 23 [Ci a, Ci b] (.bool (decide (a = b))) := by
  refine A9 Tryz.func23 ZQ rfl fun n H hH => ?_
  repeat' (first | (simp -implicitDefEqProofs [c23, -getElem?_pos, A8]) | (simp (disch := omega) only [AE]) | (with_reducible first | refine A5 ?_ ?_ ?_ | exact AB | refine SameB.upd ?_ ?_ _ | assumption | refine A2 ?_ | refine KM.of ?_ | refine AD ?_ | intro _g _hg | refine AC ?_ ?_ | intro _hc) | omega)
  · have : a ≠ b := by rintro rfl; simp_all
    simp [this]
  · have hl : a.length = b.length := by omega
    refine LoopK.go (fun m s => ∃ (k : Nat), k + m = a.length ∧ s = ⟨[(0, Ci a), (1, Ci b), (5, .int .i64 k)], n, H⟩ ∧ (a = b ↔ a.drop k = b.drop k)) a.length ⟨0, by omega, rfl, by simp⟩ ?_
    rintro m s ⟨k, hkm, rfl, hE⟩ J hJ
    by_cases hk : k < a.length
    · obtain ⟨x, hx⟩ : ∃ x, a[k]? = some x := ⟨_, List.getElem?_eq_getElem hk⟩
      obtain ⟨y, hy⟩ : ∃ y, b[k]? = some y := ⟨_, List.getElem?_eq_getElem (by omega)⟩
      rw [Vp hl hx hy] at hE
      repeat' (first | (simp -implicitDefEqProofs [OM, O7, O5, OW, OB, c23, -getElem?_pos, A8, hx, hy]) | (simp (disch := omega) only [AE]) | (with_reducible first | refine A5 ?_ ?_ ?_ | exact AB | refine SameB.upd ?_ ?_ _ | assumption | refine A2 ?_ | refine KM.of ?_ | refine AD ?_ | intro _g _hg | refine AC ?_ ?_ | intro _hc) | omega)
      · rw [hE]; simp_all
      · exact hJ (m - 1) _ (by omega) ⟨k + 1, by omega, rfl, by simp_all⟩
    · have hk0 : k = a.length := by omega
      subst hk0
      simp [hl] at hE
      repeat' (first | (simp -implicitDefEqProofs [OM, O7, O5, OW, OB, c23, -getElem?_pos, A8, hE]) | (simp (disch := omega) only [AE]) | (with_reducible first | refine A5 ?_ ?_ ?_ | exact AB | refine SameB.upd ?_ ?_ _ | assumption | refine A2 ?_ | refine KM.of ?_ | refine AD ?_ | intro _g _hg | refine AC ?_ ?_ | intro _hc) | omega)
theorem L0 (l : List AP) (i : Nat) (x : AP) (hmx : l.length ≤ 140737488355328) : APure Tryz.prog 25 [Ci l, .int .i64 i, .str x] (.bool (decide (x ∈ l.take i))) := by
  refine A9 Tryz.func25 Yp rfl fun n H hH => ?_
  repeat' (first | (simp -implicitDefEqProofs [c25, -getElem?_pos, A8]) | (simp (disch := omega) only [AE]) | (with_reducible first | refine A5 ?_ ?_ ?_ | exact AB | refine SameB.upd ?_ ?_ _ | assumption | refine A2 ?_ | refine KM.of ?_ | refine AD ?_ | intro _g _hg | refine AC ?_ ?_ | intro _hc) | omega)
  refine LoopK.go (fun m s => ∃ (k : Nat), k + m = l.length ∧ k ≤ i ∧ s = ⟨[(0, Ci l), (1, .int .i64 i), (2, .str x), (7, .int .i64 k)], n, H⟩ ∧ (x ∈ l.take i ↔ x ∈ (l.drop k).take (i - k))) l.length ⟨0, by omega, by omega, rfl, by simp⟩ ?_
  rintro m s ⟨k, hkm, hki, rfl, hE⟩ J hJ
  by_cases hk : k < l.length
  · obtain ⟨y, hy⟩ : ∃ y, l[k]? = some y := ⟨_, List.getElem?_eq_getElem hk⟩
    by_cases hi : k < i
    · have e : i - k = (i - (k + 1)) + 1 := by omega
      rw [drop_at hy, e, List.take_succ_cons, List.mem_cons] at hE
      repeat' (first | (simp -implicitDefEqProofs [KO, Ig, Jj, K3, c25, -getElem?_pos, A8, hy]) | (simp (disch := omega) only [AE]) | (with_reducible first | refine A5 ?_ ?_ ?_ | exact AB | refine SameB.upd ?_ ?_ _ | assumption | refine A2 ?_ | refine KM.of ?_ | refine AD ?_ | intro _g _hg | refine AC ?_ ?_ | intro _hc) | omega)
      · rw [hE]; exact .inl (by simp_all)
      · exact hJ (m - 1) _ (by omega) ⟨k + 1, by omega, by omega, rfl, hE.trans (or_iff_right (by rintro rfl; simp_all))⟩
    · have e : i - k = 0 := by omega
      rw [e] at hE
      repeat' (first | (simp -implicitDefEqProofs [KO, Ig, Jj, K3, c25, -getElem?_pos, A8, hy]) | (simp (disch := omega) only [AE]) | (with_reducible first | refine A5 ?_ ?_ ?_ | exact AB | refine SameB.upd ?_ ?_ _ | assumption | refine A2 ?_ | refine KM.of ?_ | refine AD ?_ | intro _g _hg | refine AC ?_ ?_ | intro _hc) | omega)
      all_goals (rw [hE]; simp)
  · have hk0 : k = l.length := by omega
    subst hk0
    simp at hE
    repeat' (first | (simp -implicitDefEqProofs [KO, Ig, Jj, K3, c25, -getElem?_pos, A8, hE]) | (simp (disch := omega) only [AE]) | (with_reducible first | refine A5 ?_ ?_ ?_ | exact AB | refine SameB.upd ?_ ?_ _ | assumption | refine A2 ?_ | refine KM.of ?_ | refine AD ?_ | intro _g _hg | refine AC ?_ ?_ | intro _hc) | omega)
theorem Tq : ∀ d : Fin 10, (Utf8.encode (48 + (d.val : Int))).data.toList = [UInt8.ofNat (48 + d.val)] := by decide +kernel
theorem GN {d : Nat} (h : d < 10) : (Utf8.encode (48 + (d : Int))).data.toList = [UInt8.ofNat (48 + d)] := by
  have e := Tq ⟨d, h⟩
  simp only at e
  exact e
theorem HG (k : Nat) : (Lib.decDigits k).length ≤ k + 1 := by
  rw [Lib.decDigits_length]
  induction k using Nat.strongRecOn with
  | _ m ih =>
    by_cases c : m < 10
    · rw [Lib.nDigits_small c]; omega
    · rw [Lib.nDigits_big c]; have := ih (m / 10) (by omega); omega
theorem Tb {a b : AP} (h : a.length + b.length ≤ 9000000000000000000) : CW .add a b = some (.str (a ++ b)) := by
  simp only [CW]
  rw [if_neg]
  have : IntKind.i64.max = 9223372036854775807 := by decide
  rw [this]; omega
theorem RU (k : Nat) (c : k < 10) : APure Tryz.prog 38 [aI k] (.str [UInt8.ofNat (48 + k)]) := by
  have he := GN c
  have hw : IntKind.i32.wrap (48 + (k : Int)) = 48 + (k : Int) := IntWalk.i32_in _ (by omega)
  refine A9 Tryz.func38 Sv rfl fun n H hH => ?_
  repeat' (first | (simp -implicitDefEqProofs [Gs, Gw, Gu, Gx, c38, -getElem?_pos, A8, hw, he]) | (simp (disch := omega) only [AE]) | (with_reducible first | refine A5 ?_ ?_ ?_ | exact AB | refine SameB.upd ?_ ?_ _ | assumption | refine A2 ?_ | refine KM.of ?_ | refine AD ?_ | intro _g _hg | refine AC ?_ ?_ | intro _hc) | omega)
theorem Rp (k : Nat) (c : ¬ k < 10) (hk : k ≤ 1000000000) (l : AP) (hl : l.length ≤ k) (hr : APure Tryz.prog 38 [aI ((k : Int) / 10)] (.str l)) : APure Tryz.prog 38 [aI k] (.str (l ++ [UInt8.ofNat (48 + k % 10)])) := by
  have hm : k % 10 < 10 := by omega
  have he := GN hm
  have e2 : ((k % 10 : Nat) : Int) = (k : Int) % 10 := by omega
  rw [e2] at he
  have hw : IntKind.i32.wrap (48 + (k : Int) % 10) = 48 + (k : Int) % 10 := IntWalk.i32_in _ (by omega)
  generalize UInt8.ofNat (48 + k % 10) = ch at he ⊢
  have hadd : CW .add l [ch] = some (.str (l ++ [ch])) := Tb (by simp; omega)
  obtain ⟨u, hu⟩ : ∃ u, Utf8.encode (48 + (k : Int) % 10) = u := ⟨_, rfl⟩
  rw [hu] at he
  have hsz : u.size = 1 := by rw [Lib.size_eq, he]; rfl
  have hlt : ¬ (9223372036854775807 : Int) < (l.length : Int) + 1 := by omega
  refine A9 Tryz.func38 Sv rfl fun n H hH => ?_
  repeat' (first | (simp -implicitDefEqProofs [Gs, Gw, Gu, Gx, c38, -getElem?_pos, A8, hw, hu, he, hsz, hlt]) | (simp (disch := omega) only [AE]) | ((with_reducible refine AH 38 ?_); (refine' CallP.sf ?_ (hr) ?_); (focus first | (with_reducible exact A0 _) | (simp [AA, A8, A1, A0]; done))) | (with_reducible first | refine A5 ?_ ?_ ?_ | exact AB | refine SameB.upd ?_ ?_ _ | assumption | refine A2 ?_ | refine KM.of ?_ | refine AD ?_ | intro _g _hg | refine AC ?_ ?_ | intro _hc) | omega)
theorem OJ (k : Nat) : k ≤ 1000000000 → APure Tryz.prog 38 [aI k] (.str (Lib.decDigits k)) := by
  induction k using Nat.strongRecOn with
  | _ k ih =>
    intro hk
    by_cases c : k < 10
    · rw [Lib.decDigits_one c]
      exact RU k c
    · have hd : Lib.decDigits k = Lib.decDigits (k / 10) ++ [UInt8.ofNat (48 + k % 10)] := by rw [Lib.decDigits, dif_neg c]
      have hr := ih (k / 10) (by omega) (by omega)
      have e1 : ((k / 10 : Nat) : Int) = (k : Int) / 10 := by omega
      rw [e1] at hr
      rw [hd]
      exact Rp k c hk _ (by have := HG (k / 10); omega) hr
theorem RJ (k : Nat) (c : k < 10) (h0 : 0 < k) : APure Tryz.prog 38 [aI (-(k : Int))] (.str (45 :: [UInt8.ofNat (48 + k)])) := by
  have he := GN c
  have hw : IntKind.i32.wrap (48 - -(k : Int)) = 48 + (k : Int) := by
    have e : 48 - -(k : Int) = 48 + k := by omega
    rw [e]; exact IntWalk.i32_in _ (by omega)
  have hw2 : IntKind.i32.wrap (48 + (k : Int)) = 48 + (k : Int) := IntWalk.i32_in _ (by omega)
  have h1 : (-(k : Int)) < 0 := by omega
  have h2 : ¬ (-(k : Int)) < -9 := by omega
  generalize UInt8.ofNat (48 + k) = ch at he ⊢
  obtain ⟨u, hu⟩ : ∃ u, Utf8.encode (48 + (k : Int)) = u := ⟨_, rfl⟩
  rw [hu] at he
  have hsz : u.size = 1 := by rw [Lib.size_eq, he]; rfl
  refine A9 Tryz.func38 Sv rfl fun n H hH => ?_
  repeat' (first | (simp -implicitDefEqProofs [Gs, Gw, Gu, Gx, c38, -getElem?_pos, A8, hw, hw2, hu, he, hsz, h1, h2]) | (simp (disch := omega) only [AE]) | (with_reducible first | refine A5 ?_ ?_ ?_ | exact AB | refine SameB.upd ?_ ?_ _ | assumption | refine A2 ?_ | refine KM.of ?_ | refine AD ?_ | intro _g _hg | refine AC ?_ ?_ | intro _hc) | omega)
theorem RC (k : Nat) (c : ¬ k < 10) (hk : k ≤ 1000000000) (l : AP) (hl : l.length ≤ k) (hr : APure Tryz.prog 38 [aI ((k : Int) / 10)] (.str l)) : APure Tryz.prog 38 [aI (-(k : Int))] (.str (45 :: (l ++ [UInt8.ofNat (48 + k % 10)]))) := by
  have hm : k % 10 < 10 := by omega
  have he := GN hm
  have e2 : ((k % 10 : Nat) : Int) = (k : Int) % 10 := by omega
  rw [e2] at he
  have hq : Int.tdiv (-(k : Int)) 10 = -((k : Int) / 10) := by rw [Int.neg_tdiv, Int.tdiv_eq_ediv_of_nonneg (by omega)]
  have hmm : Int.tmod (-(k : Int)) 10 = -((k : Int) % 10) := by rw [Int.neg_tmod, Int.tmod_eq_emod_of_nonneg (by omega)]
  have hw : IntKind.i32.wrap (48 + (k : Int) % 10) = 48 + (k : Int) % 10 := IntWalk.i32_in _ (by omega)
  have hw3 : IntKind.i32.wrap (48 - -((k : Int) % 10)) = 48 + (k : Int) % 10 := by
    have e : 48 - -((k : Int) % 10) = 48 + (k : Int) % 10 := by omega
    rw [e]; exact hw
  have h1 : (-(k : Int)) < 0 := by omega
  have h2 : (-(k : Int)) < -9 := by omega
  generalize UInt8.ofNat (48 + k % 10) = ch at he ⊢
  obtain ⟨u, hu⟩ : ∃ u, Utf8.encode (48 + (k : Int) % 10) = u := ⟨_, rfl⟩
  rw [hu] at he
  have hsz : u.size = 1 := by rw [Lib.size_eq, he]; rfl
  have hlt : ¬ (9223372036854775807 : Int) < 1 + (l.length : Int) := by omega
  have hlt2 : ¬ (9223372036854775807 : Int) < (l.length : Int) + 1 + 1 := by omega
  refine A9 Tryz.func38 Sv rfl fun n H hH => ?_
  repeat' (first | (simp -implicitDefEqProofs [Gs, Gw, Gu, Gx, c38, -getElem?_pos, A8, hq, hmm, hw, hw3, hu, he, hsz, hlt, hlt2, h1, h2]) | (simp (disch := omega) only [AE]) | ((with_reducible refine AH 38 ?_); (refine' CallP.sf ?_ (hr) ?_); (focus first | (with_reducible exact A0 _) | (simp [AA, A8, A1, A0]; done))) | (with_reducible first | refine A5 ?_ ?_ ?_ | exact AB | refine SameB.upd ?_ ?_ _ | assumption | refine A2 ?_ | refine KM.of ?_ | refine AD ?_ | intro _g _hg | refine AC ?_ ?_ | intro _hc) | omega)
theorem Ib (n : Int) (h : -1000000000 ≤ n ∧ n ≤ 1000000000) : APure Tryz.prog 38 [aI n] (.str (Lib.itoa n)) := by
  by_cases c : n < 0
  · obtain ⟨u, rfl⟩ : ∃ u : Nat, n = -(u : Int) := ⟨n.natAbs, by omega⟩
    rw [Lib.itoa_neg u (by omega)]
    by_cases c2 : u < 10
    · rw [Lib.decDigits_one c2]; exact RJ u c2 (by omega)
    · have hd : Lib.decDigits u = Lib.decDigits (u / 10) ++ [UInt8.ofNat (48 + u % 10)] := by rw [Lib.decDigits, dif_neg c2]
      have hr := OJ (u / 10) (by omega)
      have e1 : ((u / 10 : Nat) : Int) = (u : Int) / 10 := by omega
      rw [e1] at hr
      rw [hd]
      exact RC u c2 (by omega) _ (by have := HG (u / 10); omega) hr
  · obtain ⟨u, rfl⟩ : ∃ u : Nat, n = (u : Int) := ⟨n.toNat, by omega⟩
    rw [Lib.itoa_nonneg]
    exact OJ u (by omega)
theorem Kp (sep : AP) : ∀ (l : List AP) (k : Nat) (x : AP), l[k]? = some x → Lib.join (l.take (k + 1)) sep = (if 0 < k then Lib.join (l.take k) sep ++ sep else Lib.join (l.take k) sep) ++ x
  | [], k, x, h => by simp at h
  | y :: l, 0, x, h => by
    simp at h; subst h
    simp [Lib.join_one, Lib.join]
  | y :: l, k + 1, x, h => by
    have h' : l[k]? = some x := by simpa using h
    have ih := Kp sep l k x h'
    rw [List.take_succ_cons, List.take_succ_cons, if_pos (by omega)]
    rw [Lib.join_cons, Lib.join_cons]
    have : ∀ m : List AP, m ≠ [] → Lib.joinTail sep m = sep ++ Lib.join m sep := by
      intro m hm
      obtain ⟨a, b, rfl⟩ := List.exists_cons_of_ne_nil hm
      rw [Lib.join_cons]; simp [Lib.joinTail]
    have hne : l.take (k + 1) ≠ [] := by
      intro e
      have : l = [] := by cases l with | nil => rfl | cons a b => simp at e
      rw [this] at h'; simp at h'
    rw [this _ hne, ih]
    by_cases hk : 0 < k
    · rw [if_pos hk]
      have hne2 : l.take k ≠ [] := by
        intro e
        have : l = [] := by
          cases l with
          | nil => rfl
          | cons a b => cases k with | zero => omega | succ k => simp at e
        rw [this] at h'; simp at h'
      rw [this _ hne2]; simp
    · have : k = 0 := by omega
      subst this
      rw [if_neg hk]; simp [Lib.joinTail, Lib.join]
theorem TS (sep : AP) (l : List AP) : ∀ k, (Lib.join (l.take k) sep).length ≤ (Lib.join l sep).length := by
  have step : ∀ k, (Lib.join (l.take k) sep).length ≤ (Lib.join (l.take (k + 1)) sep).length := by
    intro k
    by_cases hk : k < l.length
    · rw [Kp sep l k l[k] (List.getElem?_eq_getElem hk)]
      split <;> simp <;> omega
    · rw [List.take_of_length_le (by omega), List.take_of_length_le (by omega)]; exact Nat.le_refl _
  have up : ∀ k j, (Lib.join (l.take k) sep).length ≤ (Lib.join (l.take (k + j)) sep).length := by
    intro k j
    induction j with
    | zero => exact Nat.le_refl _
    | succ j ih => exact Nat.le_trans ih (step (k + j))
  intro k
  have h := up k l.length
  have e : l.take (k + l.length) = l := List.take_of_length_le (by omega)
  rw [e] at h
  exact h
theorem St (l : List AP) (sep : AP) (hl : l.length ≤ 2000000) (hs : sep.length ≤ 2000000) (hb : (Lib.join l sep).length ≤ 2000000) (hx : ∀ x ∈ l, x.length ≤ 2000000) : APure Tryz.prog 36 [Ci l, .str sep] (.str (Lib.join l sep)) := by
  have hmono := TS sep l
  refine A9 Tryz.func36 Z8 rfl fun n H hH => ?_
  repeat' (first | (simp -implicitDefEqProofs [HA, Gr, Gz, Gy, H8, c36, -getElem?_pos, A8]) | (simp (disch := omega) only [AE]) | (with_reducible first | refine A5 ?_ ?_ ?_ | exact AB | refine SameB.upd ?_ ?_ _ | assumption | refine A2 ?_ | refine KM.of ?_ | refine AD ?_ | intro _g _hg | refine AC ?_ ?_ | intro _hc) | omega)
  refine LoopK.go (fun q st => ∃ (k : Nat), k + q = l.length ∧ st = ⟨[(0, Ci l), (1, .str sep), (5, .str (Lib.join (l.take k) sep)), (6, aI k)], n, H⟩) l.length ⟨0, by omega, rfl⟩ ?_
  rintro q st ⟨k, hkq, rfl⟩ J hJ
  by_cases hk : k < l.length
  · obtain ⟨y, hy⟩ : ∃ y, l[k]? = some y := ⟨_, List.getElem?_eq_getElem hk⟩
    have hy2 : (UG l)[k]? = some (.str y) := by rw [List.getElem?_map, hy]; rfl
    have hyl := hx y (List.mem_of_getElem? hy)
    have e := Kp sep l k y hy
    have hm := hmono k
    by_cases h0 : 0 < k
    · rw [if_pos h0] at e
      generalize Lib.join (l.take k) sep = acc at *
      have a1 : ¬ (9223372036854775807 : Int) < (acc.length : Int) + sep.length := by omega
      have a2 : ¬ (9223372036854775807 : Int) < (acc.length : Int) + sep.length + y.length := by omega
      have a3 : ¬ (9223372036854775807 : Int) < (acc.length : Int) + (sep.length + y.length) := by omega
      have h0' : (0 : Int) < k := by omega
      repeat' (first | (simp -implicitDefEqProofs [HA, Gr, Gz, Gy, H8, c36, -getElem?_pos, A8, hy, hy2, h0, h0', a1, a2, a3]) | (simp (disch := omega) only [AE]) | (with_reducible first | refine A5 ?_ ?_ ?_ | exact AB | refine SameB.upd ?_ ?_ _ | assumption | refine A2 ?_ | refine KM.of ?_ | refine AD ?_ | intro _g _hg | refine AC ?_ ?_ | intro _hc) | omega)
      exact hJ (q - 1) _ (by omega) ⟨k + 1, by omega, by rw [e]; simp⟩
    · have : k = 0 := by omega
      subst this
      rw [if_neg h0] at e
      have hne : ¬ l = [] := fun e' => by rw [e'] at hk; simp at hk
      generalize Lib.join (l.take 0) sep = acc at *
      have a1 : ¬ (9223372036854775807 : Int) < (acc.length : Int) + y.length := by omega
      repeat' (first | (simp -implicitDefEqProofs [HA, Gr, Gz, Gy, H8, c36, -getElem?_pos, A8, hy, hy2, a1, hne]) | (simp (disch := omega) only [AE]) | (with_reducible first | refine A5 ?_ ?_ ?_ | exact AB | refine SameB.upd ?_ ?_ _ | assumption | refine A2 ?_ | refine KM.of ?_ | refine AD ?_ | intro _g _hg | refine AC ?_ ?_ | intro _hc) | omega)
      exact hJ (q - 1) _ (by omega) ⟨1, by omega, by rw [e]; simp⟩
  · have hk0 : k = l.length := by omega
    subst hk0
    rw [List.take_length]
    repeat' (first | (simp -implicitDefEqProofs [HA, Gr, Gz, Gy, H8, c36, -getElem?_pos, A8]) | (simp (disch := omega) only [AE]) | (with_reducible first | refine A5 ?_ ?_ ?_ | exact AB | refine SameB.upd ?_ ?_ _ | assumption | refine A2 ?_ | refine KM.of ?_ | refine AD ?_ | intro _g _hg | refine AC ?_ ?_ | intro _hc) | omega)
abbrev aB (c : UInt8) : AV := .int .u8 c.toNat
theorem Oq (c : UInt8) : APure Tryz.prog 154 [aB c] (.bool (BH c)) := by
  unfold BH
  by_cases h1 : 48 ≤ c.toNat
  · by_cases h2 : c.toNat ≤ 57
    · have h1' : (48 : Int) ≤ (c.toNat : Int) := by omega
      have h2' : (c.toNat : Int) ≤ 57 := by omega
      rw [decide_eq_true (⟨h1, h2⟩ : 48 ≤ c.toNat ∧ c.toNat ≤ 57)]
      refine A9 Tryz.func154 Rt rfl fun n H hH => ?_
      repeat' (first | (simp -implicitDefEqProofs [c154, -getElem?_pos, A8, h1', h2']) | (simp (disch := omega) only [AE]) | (with_reducible first | refine A5 ?_ ?_ ?_ | exact AB | refine SameB.upd ?_ ?_ _ | assumption | refine A2 ?_ | refine KM.of ?_ | refine AD ?_ | intro _g _hg | refine AC ?_ ?_ | intro _hc) | omega)
    · have h1' : (48 : Int) ≤ (c.toNat : Int) := by omega
      have h2' : ¬ (c.toNat : Int) ≤ 57 := by omega
      rw [decide_eq_false (fun h => h2 h.2 : ¬ (48 ≤ c.toNat ∧ c.toNat ≤ 57))]
      refine A9 Tryz.func154 Rt rfl fun n H hH => ?_
      repeat' (first | (simp -implicitDefEqProofs [c154, -getElem?_pos, A8, h1', h2']) | (simp (disch := omega) only [AE]) | (with_reducible first | refine A5 ?_ ?_ ?_ | exact AB | refine SameB.upd ?_ ?_ _ | assumption | refine A2 ?_ | refine KM.of ?_ | refine AD ?_ | intro _g _hg | refine AC ?_ ?_ | intro _hc) | omega)
  · have h1' : ¬ (48 : Int) ≤ (c.toNat : Int) := by omega
    rw [decide_eq_false (fun h => h1 h.1 : ¬ (48 ≤ c.toNat ∧ c.toNat ≤ 57))]
    refine A9 Tryz.func154 Rt rfl fun n H hH => ?_
    repeat' (first | (simp -implicitDefEqProofs [c154, -getElem?_pos, A8, h1']) | (simp (disch := omega) only [AE]) | (with_reducible first | refine A5 ?_ ?_ ?_ | exact AB | refine SameB.upd ?_ ?_ _ | assumption | refine A2 ?_ | refine KM.of ?_ | refine AD ?_ | intro _g _hg | refine AC ?_ ?_ | intro _hc) | omega)
theorem R7 {l : AP} (hl : ∀ c ∈ l, BH c = true) (h9 : l.length ≤ 9) : Ds 0 l ≤ 999999999 := by
  have h1 := HP l hl 0
  have h2 : 10 ^ l.length ≤ 10 ^ 9 := Nat.pow_le_pow_right (by omega) h9
  omega
theorem Tl {c : UInt8} (h : BH c = true) : 48 ≤ c.toNat ∧ c.toNat ≤ 57 := by unfold BH at h; simpa using h
theorem WP (s : AP) (f : Nat) (hf : f = if s.head? = some 45 then 1 else 0) : GS s = if (s.drop f).all BH = true ∧ (s.drop f).length ≤ 9 then ((if f = 1 then -(Ds 0 (s.drop f) : Int) else Ds 0 (s.drop f)), decide (f < s.length) && decide (Lib.itoa (if f = 1 then -(Ds 0 (s.drop f) : Int) else Ds 0 (s.drop f)) = s)) else (0, false) := by
  unfold GS; rw [hf]
theorem VL (c : UInt8) : c = 45 ↔ (c.toNat : Int) = 45 := by
  constructor
  · rintro rfl; decide
  · intro h
    have : c.toNat = (45 : UInt8).toNat := by have : (45 : UInt8).toNat = 45 := by decide
                                              omega
    exact UInt8.toNat_inj.1 this
theorem OD {l : AP} {i : Nat} {y : UInt8} (h : l[i]? = some y) : l.take (i + 1) = l.take i ++ [y] := by rw [List.take_add_one, h]; rfl
theorem UL (s : AP) (hs : s.length ≤ 2000000) : APure Tryz.prog 116 [.str s] (.tup [aI (GS s).1, .bool (GS s).2]) := by
  have hcase : (s.length = 0 ∧ s.head? ≠ some 45) ∨ (∃ c, 0 < s.length ∧ s[0]? = some c ∧ ¬ (c.toNat : Int) = 45 ∧ s.head? ≠ some 45) ∨ (∃ c, 0 < s.length ∧ s[0]? = some c ∧ (c.toNat : Int) = 45 ∧ s.head? = some 45) := by
    cases s with
    | nil => exact .inl ⟨rfl, by simp⟩
    | cons c r =>
      by_cases h : c = 45
      · exact .inr (.inr ⟨c, by simp, rfl, (VL c).1 h, by simp [h]⟩)
      · exact .inr (.inl ⟨c, by simp, rfl, fun e => h ((VL c).2 e), by simp [h]⟩)
  obtain ⟨f, hf⟩ : ∃ f : Nat, f = (if s.head? = some 45 then 1 else 0) := ⟨_, rfl⟩
  have hR := WP s f hf
  generalize GS s = R at *
  have hfl : f ≤ s.length := by
    rw [hf]; split
    · rename_i h; cases s with | nil => simp at h | cons a b => simp
    · omega
  have hf1 : f = 0 ∨ f = 1 := by rw [hf]; split <;> simp
  refine A9 Tryz.func116 Ya rfl fun n H hH => ?_
  have main : ∀ e, get e 0 = .str s → get e 4 = aI f → aw Tryz.prog c116_k7 (Kt (.tup [aI R.1, .bool R.2]) n H c116.res) ⟨e, n, H⟩ := by
    clear hcase hf
    intro e he0 he4
    repeat' (first | (simp -implicitDefEqProofs [CX, -getElem?_pos, A1, he0, he4]) | (simp (disch := omega) only [AE]) | (with_reducible first | refine A5 ?_ ?_ ?_ | exact AB | refine SameB.upd ?_ ?_ _ | assumption | refine A2 ?_ | refine KM.of ?_ | refine AD ?_ | intro _g _hg | refine AC ?_ ?_ | intro _hc) | omega)
    refine LoopK.go (fun q st => ∃ (i j : Nat), j = f + i ∧ j + q = s.length ∧ st = ⟨[(0, .str s), (4, aI f), (5, aI (Ds 0 ((s.drop f).take i) : Nat)), (6, aI j)], n, H⟩ ∧ (∀ c ∈ (s.drop f).take i, BH c = true) ∧ i ≤ 9) (s.length - f) ⟨0, f, rfl, by omega, rfl, by simp, by omega⟩ ?_
    rintro q st ⟨i, j, hj, hkq, rfl, hdg, hi9⟩ J hJ
    have hbd := R7 hdg (by rw [List.length_take]; omega)
    have hif : ((j : Int) - f) = i := by omega
    by_cases hlt : j < s.length
    · obtain ⟨y, hy⟩ : ∃ y, s[j]? = some y := ⟨_, List.getElem?_eq_getElem hlt⟩
      have hy2 : (s.drop f)[i]? = some y := by rw [List.getElem?_drop, ← hj]; exact hy
      have hdy := Oq y
      have hlt2 : (j : Int) < s.length := by omega
      cases hd : BH y with
      | false =>
        rw [hd] at hdy
        have hno : ¬ ((s.drop f).all BH = true ∧ (s.drop f).length ≤ 9) := by
          rintro ⟨h1, _⟩
          have := List.all_eq_true.1 h1 y (List.mem_of_getElem? hy2)
          rw [hd] at this; cases this
        rw [if_neg hno] at hR
        subst hR
        repeat' (first | (simp -implicitDefEqProofs [Cn, Cm, Cp, Cu, Co, Ck, CX, c116, -getElem?_pos, A1, hy, hlt2]) | (simp (disch := omega) only [AE]) | ((with_reducible refine AH 154 ?_); (refine' CallP.sf ?_ (hdy) ?_); (focus first | (with_reducible exact A0 _) | (simp [AA, A8, A1, A0]; done))) | (with_reducible first | refine A5 ?_ ?_ ?_ | exact AB | refine SameB.upd ?_ ?_ _ | assumption | refine A2 ?_ | refine KM.of ?_ | refine AD ?_ | intro _g _hg | refine AC ?_ ?_ | intro _hc) | omega)
      | true =>
        rw [hd] at hdy
        by_cases h8 : i ≤ 8
        · have h8' : ¬ (8 : Int) < (j : Int) - f := by omega
          have h8'' : ¬ (8 : Int) < i := by omega
          have hb := Tl hd
          have hbd2 : Ds 0 ((s.drop f).take i) ≤ 99999999 := by
            have h1 := HP _ hdg 0
            have h2 : 10 ^ ((s.drop f).take i).length ≤ 10 ^ 8 := Nat.pow_le_pow_right (by omega) (by rw [List.length_take]; omega)
            omega
          have hnx : Ds 0 ((s.drop f).take (i + 1)) = 10 * Ds 0 ((s.drop f).take i) + (y.toNat - 48) := by rw [OD hy2, OC]
          have hdg2 : ∀ c ∈ (s.drop f).take (i + 1), BH c = true := by
            rw [OD hy2]; intro c hc
            rcases List.mem_append.1 hc with h | h
            · exact hdg c h
            · rw [List.mem_singleton.1 h]; exact hd
          generalize Ds 0 ((s.drop f).take i) = v at *
          have hv2 : (10 : Int) * v + y.toNat - 48 = (Ds 0 ((s.drop f).take (i + 1)) : Nat) := by rw [hnx]; omega
          repeat' (first | (simp -implicitDefEqProofs [Cn, Cm, Cp, Cu, Co, Ck, CX, c116, -getElem?_pos, A1, hy, hlt2, hif, h8', h8'']) | (simp (disch := omega) only [AE]) | ((with_reducible refine AH 154 ?_); (refine' CallP.sf ?_ (hdy) ?_); (focus first | (with_reducible exact A0 _) | (simp [AA, A8, A1, A0]; done))) | (with_reducible first | refine A5 ?_ ?_ ?_ | exact AB | refine SameB.upd ?_ ?_ _ | assumption | refine A2 ?_ | refine KM.of ?_ | refine AD ?_ | intro _g _hg | refine AC ?_ ?_ | intro _hc) | omega)
          exact hJ (q - 1) _ (by omega) ⟨i + 1, j + 1, by omega, by omega, by rw [hv2]; rfl, hdg2, by omega⟩
        · have h8' : (8 : Int) < (j : Int) - f := by omega
          have h8'' : (8 : Int) < i := by omega
          have hno : ¬ ((s.drop f).all BH = true ∧ (s.drop f).length ≤ 9) := by
            rintro ⟨_, h2⟩
            rw [List.length_drop] at h2; omega
          rw [if_neg hno] at hR
          subst hR
          repeat' (first | (simp -implicitDefEqProofs [Cn, Cm, Cp, Cu, Co, Ck, CX, c116, -getElem?_pos, A1, hy, hlt2, hif, h8', h8'']) | (simp (disch := omega) only [AE]) | ((with_reducible refine AH 154 ?_); (refine' CallP.sf ?_ (hdy) ?_); (focus first | (with_reducible exact A0 _) | (simp [AA, A8, A1, A0]; done))) | (with_reducible first | refine A5 ?_ ?_ ?_ | exact AB | refine SameB.upd ?_ ?_ _ | assumption | refine A2 ?_ | refine KM.of ?_ | refine AD ?_ | intro _g _hg | refine AC ?_ ?_ | intro _hc) | omega)
    · have hall : (s.drop f).take i = s.drop f := List.take_of_length_le (by rw [List.length_drop]; omega)
      have hln : f + i = s.length := by omega
      rw [hall] at hdg hbd ⊢
      rw [if_pos ⟨List.all_eq_true.2 hdg, by rw [List.length_drop]; omega⟩] at hR
      have hnl : ¬ (j : Int) < s.length := by omega
      generalize Ds 0 (s.drop f) = v at *
      rcases hf1 with rfl | rfl
      · rw [if_neg (by omega)] at hR
        have hd := Ib v (by omega)
        generalize Lib.itoa (v : Int) = t at *
        subst hR
        dsimp only
        by_cases h0 : 0 < s.length
        · by_cases ht : t = s
          · repeat' (first | (simp -implicitDefEqProofs [Cn, Cm, Cp, Cu, Co, Ck, CX, c116, -getElem?_pos, A1, hnl, h0, ht]) | (simp (disch := omega) only [AE]) | ((with_reducible refine AH 38 ?_); (refine' CallP.sf ?_ (hd) ?_); (focus first | (with_reducible exact A0 _) | (simp [AA, A8, A1, A0]; done))) | (with_reducible first | refine A5 ?_ ?_ ?_ | exact AB | refine SameB.upd ?_ ?_ _ | assumption | refine A2 ?_ | refine KM.of ?_ | refine AD ?_ | intro _g _hg | refine AC ?_ ?_ | intro _hc) | omega)
          · have htb : (t == s) = false := by simp [ht]
            repeat' (first | (simp -implicitDefEqProofs [Cn, Cm, Cp, Cu, Co, Ck, CX, c116, -getElem?_pos, A1, hnl, h0, ht, htb]) | (simp (disch := omega) only [AE]) | ((with_reducible refine AH 38 ?_); (refine' CallP.sf ?_ (hd) ?_); (focus first | (with_reducible exact A0 _) | (simp [AA, A8, A1, A0]; done))) | (with_reducible first | refine A5 ?_ ?_ ?_ | exact AB | refine SameB.upd ?_ ?_ _ | assumption | refine A2 ?_ | refine KM.of ?_ | refine AD ?_ | intro _g _hg | refine AC ?_ ?_ | intro _hc) | omega)
        · repeat' (first | (simp -implicitDefEqProofs [Cn, Cm, Cp, Cu, Co, Ck, CX, c116, -getElem?_pos, A1, hnl, h0]) | (simp (disch := omega) only [AE]) | ((with_reducible refine AH 38 ?_); (refine' CallP.sf ?_ (hd) ?_); (focus first | (with_reducible exact A0 _) | (simp [AA, A8, A1, A0]; done))) | (with_reducible first | refine A5 ?_ ?_ ?_ | exact AB | refine SameB.upd ?_ ?_ _ | assumption | refine A2 ?_ | refine KM.of ?_ | refine AD ?_ | intro _g _hg | refine AC ?_ ?_ | intro _hc) | omega)
      · rw [if_pos rfl] at hR
        have hd := Ib (-(v : Int)) (by omega)
        generalize Lib.itoa (-(v : Int)) = t at *
        subst hR
        dsimp only
        by_cases h0 : 1 < s.length
        · have h0' : (1 : Int) < s.length := by omega
          by_cases ht : t = s
          · repeat' (first | (simp -implicitDefEqProofs [Cn, Cm, Cp, Cu, Co, Ck, CX, c116, -getElem?_pos, A1, hnl, h0, h0', ht]) | (simp (disch := omega) only [AE]) | ((with_reducible refine AH 38 ?_); (refine' CallP.sf ?_ (hd) ?_); (focus first | (with_reducible exact A0 _) | (simp [AA, A8, A1, A0]; done))) | (with_reducible first | refine A5 ?_ ?_ ?_ | exact AB | refine SameB.upd ?_ ?_ _ | assumption | refine A2 ?_ | refine KM.of ?_ | refine AD ?_ | intro _g _hg | refine AC ?_ ?_ | intro _hc) | omega)
          · have htb : (t == s) = false := by simp [ht]
            repeat' (first | (simp -implicitDefEqProofs [Cn, Cm, Cp, Cu, Co, Ck, CX, c116, -getElem?_pos, A1, hnl, h0, h0', ht, htb]) | (simp (disch := omega) only [AE]) | ((with_reducible refine AH 38 ?_); (refine' CallP.sf ?_ (hd) ?_); (focus first | (with_reducible exact A0 _) | (simp [AA, A8, A1, A0]; done))) | (with_reducible first | refine A5 ?_ ?_ ?_ | exact AB | refine SameB.upd ?_ ?_ _ | assumption | refine A2 ?_ | refine KM.of ?_ | refine AD ?_ | intro _g _hg | refine AC ?_ ?_ | intro _hc) | omega)
        · have h0' : ¬ (1 : Int) < s.length := by omega
          repeat' (first | (simp -implicitDefEqProofs [Cn, Cm, Cp, Cu, Co, Ck, CX, c116, -getElem?_pos, A1, hnl, h0, h0']) | (simp (disch := omega) only [AE]) | ((with_reducible refine AH 38 ?_); (refine' CallP.sf ?_ (hd) ?_); (focus first | (with_reducible exact A0 _) | (simp [AA, A8, A1, A0]; done))) | (with_reducible first | refine A5 ?_ ?_ ?_ | exact AB | refine SameB.upd ?_ ?_ _ | assumption | refine A2 ?_ | refine KM.of ?_ | refine AD ?_ | intro _g _hg | refine AC ?_ ?_ | intro _hc) | omega)
  rcases hcase with ⟨h0, hh⟩ | ⟨c, h0, hc, h45, hh⟩ | ⟨c, h0, hc, h45, hh⟩
  · rw [if_neg hh] at hf; subst hf
    repeat' (first | (simp -implicitDefEqProofs [c116, -getElem?_pos, A1, h0]) | (simp (disch := omega) only [AE]) | (with_reducible first | refine A5 ?_ ?_ ?_ | exact AB | refine SameB.upd ?_ ?_ _ | assumption | refine A2 ?_ | refine KM.of ?_ | refine AD ?_ | intro _g _hg | refine AC ?_ ?_ | intro _hc) | omega)
    all_goals exact main _ (by simp -implicitDefEqProofs [-getElem?_pos]) (by simp -implicitDefEqProofs [-getElem?_pos])
  · rw [if_neg hh] at hf; subst hf
    repeat' (first | (simp -implicitDefEqProofs [c116, -getElem?_pos, A1, h0, hc, h45]) | (simp (disch := omega) only [AE]) | (with_reducible first | refine A5 ?_ ?_ ?_ | exact AB | refine SameB.upd ?_ ?_ _ | assumption | refine A2 ?_ | refine KM.of ?_ | refine AD ?_ | intro _g _hg | refine AC ?_ ?_ | intro _hc) | omega)
    all_goals exact main _ (by simp -implicitDefEqProofs [-getElem?_pos]) (by simp -implicitDefEqProofs [-getElem?_pos])
  · rw [if_pos hh] at hf; subst hf
    repeat' (first | (simp -implicitDefEqProofs [c116, -getElem?_pos, A1, h0, hc, h45]) | (simp (disch := omega) only [AE]) | (with_reducible first | refine A5 ?_ ?_ ?_ | exact AB | refine SameB.upd ?_ ?_ _ | assumption | refine A2 ?_ | refine KM.of ?_ | refine AD ?_ | intro _g _hg | refine AC ?_ ?_ | intro _hc) | omega)
    all_goals exact main _ (by simp -implicitDefEqProofs [-getElem?_pos]) (by simp -implicitDefEqProofs [-getElem?_pos])
def G4 (p : AP) : AP → Option (AP × AP)
  | [] => if p = [] then some ([], []) else none
  | x :: r => if p.isPrefixOf (x :: r) then some ([], (x :: r).drop p.length) else (G4 p r).map fun c => (x :: c.1, c.2)
theorem PI {p : AP} : ∀ {s a b : AP}, G4 p s = some (a, b) → s = a ++ (p ++ b)
  | [], a, b, h => by
    unfold G4 at h
    split at h
    · rename_i e; subst e; simp at h; obtain ⟨rfl, rfl⟩ := h; rfl
    · cases h
  | x :: r, a, b, h => by
    unfold G4 at h
    split at h
    · rename_i hp
      simp only [Option.some.injEq, Prod.mk.injEq] at h
      obtain ⟨rfl, rfl⟩ := h
      have := List.prefix_iff_eq_append.1 (List.isPrefixOf_iff_prefix.1 hp)
      simpa using this.symm
    · obtain ⟨c, h1, h2⟩ := Option.map_eq_some_iff.1 h
      injection h2 with e1 e2
      subst e1; subst e2
      rw [List.cons_append, ← PI (s := r) (a := c.1) (b := c.2) h1]
theorem UD {p s a b : AP} (h : G4 p s = some (a, b)) : s.length = a.length + p.length + b.length := by
  have := PI h; subst this; simp; omega
inductive Dir where | bad | opn | els | fin | fld (p : Pt) | bgn (p : Pt)
def A01 (s : AP) : Option (AP × Int) :=
  if (HQ 32 s).2.2 = true then (if Hy (HQ 32 s).1 = 2 ∧ (E0 (HQ 32 s).2.1).2 = true ∧ 0 ≤ (E0 (HQ 32 s).2.1).1 then some ((HQ 32 s).1, (E0 (HQ 32 s).2.1).1) else none)
  else if Hy s = 1 then some (s, 0) else none
def Yk : List AP → Option (List (AP × Int))
  | [] => some []
  | s :: r => match A01 s with
    | none => none
    | some f => (Yk r).map (f :: ·)
def Yl (s : AP) : Dir := if Dl (MK 46 s) = true then .bgn (.mk 3 [] [] (MK 46 s) [] [] []) else .bad
def Vd (s : AP) : Dir := match G4 Vk s with
  | none => .bad
  | some (n, w) => if Hm n = true ∧ Dl (MK 46 w) = true then .bgn (.mk 4 [] n (MK 46 w) [] [] []) else .bad
def YN (s : AP) : Dir := match MK 124 s with
  | [] => .bad
  | h :: t => if Dl (MK 46 h) = true then (match Yk t with | some fs => .fld (.mk 2 [] [] (MK 46 h) fs [] []) | none => .bad) else .bad
def A00 (s : AP) : Dir :=
  if s = SU then .opn else if s = SY then .els else if s = Vt then .fin
  else if (HQ 32 s).2.2 = true ∧ (HQ 32 s).1 = Zm then Yl (HQ 32 s).2.1
  else if (HQ 32 s).2.2 = true ∧ (HQ 32 s).1 = Se then Vd (HQ 32 s).2.1
  else YN s
def A02 (p : Pt) (l : List Pt) : Pt := .mk p.k p.t p.n p.pa p.fs l p.e
def Zy (p : Pt) (l : List Pt) : Pt := .mk p.k p.t p.n p.pa p.fs p.b l
def tP (t : AP) : Pt := .mk 1 t [] [] [] [] []
def Ud (x : Pt) (l : List Pt) : List Pt := match l.getLast? with
  | some y => if x.k = 1 ∧ y.k = 1 then l.dropLast ++ [tP (y.t ++ x.t)] else l ++ [x]
  | none => [x]
abbrev R5 := List Pt × List (Pt × Bool)
def Zv : R5 → List Pt
  | (ps, []) => ps
  | (_, (o, b) :: _) => if b = true then o.e else o.b
def JL (l : List Pt) : R5 → R5
  | (_, []) => (l, [])
  | (ps, (o, b) :: k) => (ps, (if b = true then Zy o l else A02 o l, b) :: k)
def Vq (x : Pt) (st : R5) : R5 := JL (Ud x (Zv st)) st
def Wz (t : AP) (st : R5) : R5 := if t = [] then st else Vq (tP t) st
def Ul : Dir → R5 → Option R5
  | .bad, _ => none
  | .opn, st => some (Vq (tP opS) st)
  | .els, (ps, (o, false) :: k) => some (ps, (o, true) :: k)
  | .els, _ => none
  | .fin, (ps, (o, _) :: k) => some (Vq o (ps, k))
  | .fin, _ => none
  | .fld p, st => some (Vq p st)
  | .bgn p, (ps, k) => some (ps, (p, false) :: k)
def ZI : Nat → AP → Nat → R5 → Except Nat R5
  | 0, _, i, _ => .error i
  | n + 1, s, i, st => match G4 opS s with
    | none => .ok (Wz s st)
    | some (p, r) => match G4 ML r with
      | none => .error (i + p.length)
      | some (d, q) => match Ul (A00 d) (Wz p st) with
        | none => .error (i + p.length)
        | some st' => ZI n q (i + p.length + d.length + 4) st'
def PE (s : AP) (i : Nat) (st : R5) : Except Nat R5 := ZI (s.length + 1) s i st
structure RefOk (s : AP) (i : Nat) (st : R5) (x : List Pt × Nat × Nat × AP) : Prop where
  cs : x.2.2.1 = 0 ∨ x.2.2.1 = 1 ∨ x.2.2.1 = 5 ∨ x.2.2.1 = 6 ∨ x.2.2.1 = 7
  bad : x.2.2.1 = 1 → PE s i st = .error x.2.1
  fin0 : x.2.2.1 = 0 → x.2.1 = i + s.length ∧ PE s i st = .ok (JL x.1 st)
  opn : x.2.2.1 = 7 → x.2.1 = i + s.length ∧ ∃ st', PE s i st = .ok st' ∧ st.2.length < st'.2.length
  els : x.2.2.1 = 5 → i + s.length = x.2.1 + x.2.2.2.length ∧ i + 8 ≤ x.2.1 ∧ PE s i st = match Ul .els (JL x.1 st) with | none => .error (x.2.1 - 8) | some st' => PE x.2.2.2 x.2.1 st'
  fin : x.2.2.1 = 6 → i + s.length = x.2.1 + x.2.2.2.length ∧ i + 7 ≤ x.2.1 ∧ PE s i st = match Ul .fin (JL x.1 st) with | none => .error (x.2.1 - 7) | some st' => PE x.2.2.2 x.2.1 st'
theorem RefOk.move {s q : AP} {i j : Nat} {st st' : R5} {x : List Pt × Nat × Nat × AP} (h : RefOk q j st' x) (hr : PE s i st = PE q j st') (hl : i + s.length = j + q.length) (hij : i ≤ j) (hs : ∀ l, JL l st' = JL l st) (hn : st'.2.length = st.2.length) : RefOk s i st x :=
  ⟨h.cs, fun e => hr.trans (h.bad e), fun e => ⟨by have := (h.fin0 e).1; omega, by rw [hr, (h.fin0 e).2, hs]⟩, fun e => by
    obtain ⟨a, st2, b, c⟩ := h.opn e
    exact ⟨by omega, st2, hr.trans b, by omega⟩, fun e => by
    obtain ⟨a, b, c⟩ := h.els e
    exact ⟨by omega, by omega, by rw [hr, c, hs]⟩, fun e => by
    obtain ⟨a, b, c⟩ := h.fin e
    exact ⟨by omega, by omega, by rw [hr, c, hs]⟩⟩
/-! ### cutting -/
theorem TE (p : AP) (x : UInt8) (r : AP) : G4 p (x :: r) = if p.isPrefixOf (x :: r) then some ([], (x :: r).drop p.length) else (G4 p r).map fun c => (x :: c.1, c.2) := rfl
theorem QL : ∀ {t : AP}, G4 opS t = none → DN t = t
  | [], _ => rfl
  | [x], _ => rfl
  | x :: y :: r, h => by
    unfold G4 at h
    split at h
    · cases h
    · rename_i hp
      have h1 : G4 opS (y :: r) = none := by simpa using h
      rw [DN, if_neg, QL h1]
      rintro ⟨rfl, rfl⟩
      exact hp rfl
theorem QP : ∀ {t a b : AP}, G4 opS t = some (a, b) → DN t = a ++ (Lt ++ DN b)
  | [], a, b, h => by simp [G4, opS] at h
  | [x], a, b, h => by simp [G4, opS] at h
  | x :: y :: r, a, b, h => by
    unfold G4 at h
    split at h
    · rename_i hp
      simp only [Option.some.injEq, Prod.mk.injEq] at h
      obtain ⟨rfl, rfl⟩ := h
      simp [opS] at hp
      obtain ⟨rfl, rfl⟩ := hp
      rw [DN, if_pos ⟨rfl, rfl⟩]; rfl
    · rename_i hp
      obtain ⟨c, h1, h2⟩ := Option.map_eq_some_iff.1 h
      injection h2 with e1 e2
      subst e1; subst e2
      rw [DN, if_neg, QP (a := c.1) (b := c.2) h1]; rfl
      rintro ⟨rfl, rfl⟩
      exact hp rfl
/-! ### steps of reading -/
theorem add_add (a b : AP) (l : List Pt) : Ud (tP b) (Ud (tP a) l) = Ud (tP (a ++ b)) l := by
  unfold Ud
  cases h : l.getLast? with
  | none => simp [tP, Pt.k, Pt.t]
  | some y =>
    have hk : ∀ s, (tP s).k = 1 := fun _ => rfl
    have ht : ∀ s, (tP s).t = s := fun _ => rfl
    by_cases hy : y.k = 1
    · simp [hk, ht, hy]
    · simp [hk, ht, hy]
structure FltOk (f : AP × Int) : Prop where
  k : Hy f.1 ≠ 0
  lo : 0 ≤ f.2
  hi : f.2 ≤ 200
  z : Hy f.1 = 1 → f.2 = 0
theorem UW : ∀ {fs : List (AP × Int)} {i : Nat}, HW i fs = 0 → ∀ f ∈ fs, FltOk f
  | [], _, _, f, h => by simp at h
  | g :: r, i, h, f, hf => by
    unfold HW at h
    split at h
    · cases h
    · rename_i h1
      split at h
      · cases h
      · rename_i h2
        split at h
        · cases h
        · rcases List.mem_cons.1 hf with rfl | hf
          · simp only [not_or, not_and, Int.not_lt] at h2
            exact ⟨h1, h2.1.1, h2.1.2, fun h => Classical.not_not.1 (h2.2 h)⟩
          · exact UW h f hf
theorem U5 {s : AP} (h : Hy s ≠ 0) : s ∈ Yy ++ ZS := by
  unfold Hy at h
  split at h
  · exact List.mem_append_left _ (by assumption)
  · split at h
    · exact List.mem_append_right _ (by assumption)
    · exact absurd rfl h
structure ParOk (pv k : Int) (t n : AP) (pa : List AP) (fs : List (AP × Int)) (b e : List Pt) : Prop where
  k1 : 1 ≤ k
  k4 : k ≤ 4
  tx : k = 1 ↔ t ≠ []
  nm : k ≠ 4 → n = []
  pt : k = 1 → pa = []
  fl : k ≠ 2 → fs = []
  in_ : k < 3 → b = [] ∧ e = []
  pv : k = 1 → pv ≠ 1
  id_ : k = 4 → Hm n = true
  path : k ≠ 1 → Dl pa = true
  fo : ∀ f ∈ fs, FltOk f
theorem Up {pv k : Int} {i d : Nat} {t n : AP} {pa : List AP} {fs : List (AP × Int)} {b e : List Pt} (h : FI pv i d k t n pa fs b e = 0) : ParOk pv k t n pa fs b e := by
  unfold FI at h
  split at h
  · cases h
  · split at h
    · cases h
    · split at h
      · cases h
      · rename_i hk
        split at h
        · cases h
        · rename_i hf
          have hf : OU pv k t n pa fs b e = false := by simpa using hf
          unfold OU at hf
          simp only [Bool.or_eq_false_iff, Bool.and_eq_false_iff, decide_eq_false_iff_not, Classical.not_not] at hf
          obtain ⟨⟨⟨⟨⟨f1, f2⟩, f3⟩, f4⟩, f5⟩, f6⟩ := hf
          unfold Oj at h
          split at h
          · cases h
          · rename_i hn
            split at h
            · cases h
            · simp only [not_or, not_and, Bool.not_eq_false] at hn
              refine ⟨by omega, by omega, ?_, fun h => f2.resolve_left (fun e => h e), fun h => f3.resolve_left (fun e => e h), fun h => f4.resolve_left (fun e => h e), fun h => f5.resolve_left (by omega), fun h => f6.resolve_left (fun e => e h), hn.1, hn.2, UW h⟩
              by_cases h1 : k = 1 <;> by_cases h2 : t = [] <;> simp [h1, h2] at f1 ⊢
mutual
def Ia : Pt → Prop
  | .mk k t n pa fs b e => t.length ≤ 1048576 ∧ (k = 1 → t ≠ []) ∧ n.length ≤ 24 ∧ pa.length ≤ 8 ∧ (∀ s ∈ pa, s.length ≤ 24) ∧ fs.length ≤ 8 ∧ (∀ f ∈ fs, f.1.length ≤ 24 ∧ 0 ≤ f.2 ∧ f.2 ≤ 200) ∧ GM b ∧ GM e
def GM : List Pt → Prop
  | [] => True
  | x :: r => Ia x ∧ GM r
end
theorem D5 : ∀ {l : List Pt} {x : Pt}, GM l → x ∈ l → Ia x
  | y :: r, x, h, hx => by
    simp only [GM] at h
    rcases List.mem_cons.1 hx with rfl | hx
    · exact h.1
    · exact D5 h.2 hx
theorem Gl : ∀ t : AP, (DN t).length ≤ 4 * t.length
  | [] => by simp [DN]
  | [c] => by simp [DN]
  | a :: b :: r => by
    have h1 := Gl r
    have h2 := Gl (b :: r)
    unfold DN
    split
    · simp [Lt] at *; omega
    · simp at *; omega
theorem Wo : ∀ t : AP, t ≠ [] → DN t ≠ []
  | [], h => absurd rfl h
  | [c], _ => by simp [DN]
  | a :: b :: r, _ => by
    unfold DN
    split
    · simp [Lt]
    · simp
theorem Pk (sep : AP) (B : Nat) : ∀ l : List AP, (∀ x ∈ l, x.length ≤ B) → (Lib.join l sep).length ≤ l.length * (B + sep.length)
  | [], _ => by simp [Lib.join]
  | [x], h => by have := h x (by simp); simp [Lib.join]; omega
  | x :: y :: r, h => by
    have h1 := h x (by simp)
    have h2 := Pk sep B (y :: r) fun z hz => h z (List.mem_cons_of_mem _ hz)
    have e : Lib.join (x :: y :: r) sep = x ++ sep ++ Lib.join (y :: r) sep := by simp [Lib.join]
    rw [e]
    simp only [List.length_append, List.length_cons] at h2 ⊢
    rw [Nat.succ_mul]
    omega
theorem MD {n : Int} (h : 0 ≤ n ∧ n ≤ 200) : (Lib.itoa n).length ≤ 3 := by
  obtain ⟨u, rfl⟩ : ∃ u : Nat, n = (u : Int) := ⟨n.toNat, by omega⟩
  rw [Lib.itoa_nonneg, Lib.decDigits_length]
  exact Ej 2 u (by omega)
theorem G7 : ∀ fs : List (AP × Int), (∀ f ∈ fs, f.1.length ≤ 24 ∧ 0 ≤ f.2 ∧ f.2 ≤ 200) → (fs.flatMap Lp).length ≤ fs.length * 30
  | [], _ => by simp
  | f :: r, h => by
    have h1 := h f (by simp)
    have h2 := G7 r fun x hx => h x (List.mem_cons_of_mem _ hx)
    have h3 := MD h1.2
    have h4 : (Lp f).length ≤ 30 := by
      unfold Lp
      split <;> simp <;> omega
    simp only [List.flatMap_cons, List.length_append, List.length_cons, Nat.succ_mul]
    omega
theorem HU {pa : List AP} (h1 : pa.length ≤ 8) (h2 : ∀ s ∈ pa, s.length ≤ 24) : (GT pa).length ≤ 200 := by
  have := Pk [46] 24 pa h2
  have h3 : pa.length * (24 + 1) ≤ 8 * 25 := Nat.mul_le_mul_right _ h1
  unfold GT
  simp at this
  omega
theorem Ve (p : Pt) : Ia p → (VX p).length ≤ 4196000 * Ba p := by
  refine Pt.ind (Q := fun p => Ia p → (VX p).length ≤ 4196000 * Ba p) ?_ p
  intro k t n pa fs b e hb he h
  simp only [Ia] at h
  obtain ⟨h1, _, h3, h4, h5, h6, h7, h8, h9⟩ := h
  have hl : ∀ l : List Pt, (∀ x ∈ l, Ia x → (VX x).length ≤ 4196000 * Ba x) → GM l → (Cj l).length ≤ 4196000 * AU l := by
    intro l
    induction l with
    | nil => intro _ _; simp [Cj]
    | cons x r ih =>
      intro h ho
      simp only [GM] at ho
      have a := h x (by simp) ho.1
      have b := ih (fun y hy => h y (List.mem_cons_of_mem _ hy)) ho.2
      simp only [Cj, AU, List.length_append, Nat.mul_add]
      omega
  have lb := hl b hb h8
  have le := hl e he h9
  have hw := HU h4 h5
  have hf := G7 fs h7
  have hr := Gl t
  have hf2 : fs.length * 30 ≤ 8 * 30 := Nat.mul_le_mul_right _ h6
  unfold VX Ba
  simp only [Nat.mul_add]
  split
  · omega
  · split
    · simp only [List.length_append, opS, ML, List.length_cons, List.length_nil]; omega
    · split <;> split <;> simp [Wx, LB, Vk, LA, LI, ML] <;> omega
theorem Ew : ∀ l : List Pt, GM l → (Cj l).length ≤ 4196000 * AU l
  | [], _ => by simp [Cj]
  | x :: r, h => by
    simp only [GM] at h
    have a := Ve x h.1
    have b := Ew r h.2
    simp only [Cj, AU, List.length_append, Nat.mul_add]
    omega
theorem WR (p : Pt) : ∀ pv i d, (E1 pv i d p).2 = 0 → (E1 pv i d p).1 = i + Ba p ∧ Ba p + i ≤ 200 := by
  refine Pt.ind (Q := fun p => ∀ pv i d, (E1 pv i d p).2 = 0 → (E1 pv i d p).1 = i + Ba p ∧ Ba p + i ≤ 200) ?_ p
  intro k t n pa fs b e hb he pv i d h
  have hl : ∀ l : List Pt, (∀ x ∈ l, ∀ pv i d, (E1 pv i d x).2 = 0 → (E1 pv i d x).1 = i + Ba x ∧ Ba x + i ≤ 200) → ∀ pv i d, i ≤ 200 → (B6 pv i d l).2 = 0 → (B6 pv i d l).1 = i + AU l ∧ AU l + i ≤ 200 := by
    intro l
    induction l with
    | nil => intro _ pv i d hi _; simp [B6, AU]; exact hi
    | cons x r ih =>
      intro h pv i d hi h2
      unfold B6 at h2 ⊢
      by_cases hx : (E1 pv i d x).2 = 0
      · rw [if_neg (by simpa using hx)] at h2 ⊢
        obtain ⟨a1, a2⟩ := h x (by simp) pv i d hx
        obtain ⟨b1, b2⟩ := ih (fun y hy => h y (List.mem_cons_of_mem _ hy)) _ _ _ (by omega) h2
        simp only [AU]
        omega
      · rw [if_pos hx] at h2; exact absurd h2 hx
  have hi := Vh h
  unfold E1 at h ⊢
  split at h
  · rename_i hc; exact absurd h hc
  · rename_i hc
    rw [if_neg hc]
    split at h
    · rename_i hb2; exact absurd h hb2
    · rename_i hb2
      rw [if_neg hb2]
      obtain ⟨a1, a2⟩ := hl b hb 0 (i + 1) (d + 1) (by omega) (by simpa using hb2)
      obtain ⟨c1, c2⟩ := hl e he 0 _ (d + 1) (by omega) h
      unfold Ba
      omega
theorem Eb : ∀ (l : List Pt) (pv : Int) (i d : Nat), i ≤ 200 → (B6 pv i d l).2 = 0 → (B6 pv i d l).1 = i + AU l ∧ AU l + i ≤ 200
  | [], pv, i, d, hi, _ => by simp [B6, AU]; exact hi
  | x :: r, pv, i, d, hi, h2 => by
    unfold B6 at h2 ⊢
    by_cases hx : (E1 pv i d x).2 = 0
    · rw [if_neg (by simpa using hx)] at h2 ⊢
      obtain ⟨a1, a2⟩ := WR x pv i d hx
      obtain ⟨b1, b2⟩ := Eb r _ _ _ (by omega) h2
      simp only [AU]
      omega
    · rw [if_pos hx] at h2; exact absurd h2 hx
mutual
def PG : Pt → Prop
  | .mk _ t n pa fs b e => t.length ≤ 1048576 ∧ n.length ≤ 2000000 ∧ pa.length ≤ 2000000 ∧ (∀ s ∈ pa, s.length ≤ 2000000) ∧ fs.length ≤ 2000000 ∧ b.length ≤ 2000000 ∧ e.length ≤ 2000000 ∧ F5 b ∧ F5 e
def F5 : List Pt → Prop
  | [] => True
  | x :: r => PG x ∧ F5 r
end
theorem Dw : ∀ {l : List Pt} {x : Pt}, F5 l → x ∈ l → PG x
  | y :: r, x, h, hx => by
    simp only [F5] at h
    rcases List.mem_cons.1 hx with rfl | hx
    · exact h.1
    · exact Dw h.2 hx
theorem Ry {s : AP} (h : Hm s = true) : s.length ≤ 24 := by
  unfold Hm HF at h
  simp only [Bool.and_eq_true, decide_eq_true_eq] at h
  exact h.1.1.1.2
theorem YE {s : AP} (h : Rf s = true) : s.length ≤ 24 := by
  unfold Rf at h
  simp only [Bool.and_eq_true, decide_eq_true_eq] at h
  obtain ⟨⟨h1, h2⟩, h3⟩ := h
  have e := (Tu h1).1
  have hk : (E0 s).1 ≤ 999 := h3
  rw [← e]
  obtain ⟨u, hu⟩ : ∃ u : Nat, (E0 s).1 = (u : Int) := ⟨(E0 s).1.toNat, by omega⟩
  rw [hu, Lib.itoa_nonneg, Lib.decDigits_length]
  have := Ej 2 u (by omega)
  omega
theorem Qe {pa : List AP} (h : Dl pa = true) : pa.length ≤ 8 ∧ ∀ s ∈ pa, s.length ≤ 24 := by
  cases pa with
  | nil => cases h
  | cons x r =>
    simp only [Dl, Bool.and_eq_true, decide_eq_true_eq, List.all_eq_true, Bool.or_eq_true] at h
    obtain ⟨⟨h1, h2⟩, h3⟩ := h
    refine ⟨by simp; omega, fun s hs => ?_⟩
    rcases List.mem_cons.1 hs with rfl | hs
    · exact Ry h2
    · rcases h3 s hs with h | h
      · exact Ry h
      · exact YE h
theorem YV {s : AP} (h : Hy s ≠ 0) : s.length ≤ 24 := by
  have := U5 h
  simp only [Yy, ZS, MC, M7, QE, I9, UI, LY, U9, List.cons_append, List.nil_append, List.mem_cons, List.not_mem_nil, or_false] at this
  rcases this with rfl | rfl | rfl | rfl | rfl | rfl | rfl <;> decide
open Go.RowKit
theorem OO {p : AP} (hp : p ≠ []) : ∀ s : AP, (G4 p s = none ∧ Lib.index s p = -1) ∨ ∃ a b, G4 p s = some (a, b) ∧ Lib.index s p = (a.length : Int)
  | [] => .inl ⟨by unfold G4; rw [if_neg hp], by unfold Lib.index; cases p with | nil => exact absurd rfl hp | cons _ _ => rfl⟩
  | x :: r => by
    rw [TE, Lib.index]
    by_cases h : p.isPrefixOf (x :: r) = true
    · rw [if_pos h, if_pos h]; exact .inr ⟨_, _, rfl, rfl⟩
    · rw [if_neg h, if_neg h]
      rcases OO hp r with ⟨h1, h2⟩ | ⟨a, b, h1, h2⟩
      · left; rw [h1, h2]; exact ⟨rfl, rfl⟩
      · right
        rw [h1, h2]
        refine ⟨x :: a, b, rfl, ?_⟩
        have hn : ¬ ((a.length : Int) == -1) = true := fun e => by have := beq_iff_eq.1 e; omega
        rw [if_neg hn]; simp
theorem Pc : ∀ (n : Nat) (s : AP), s.length < n → Lib.replaceK opS Lt (Lib.countFrom opS n s) s = DN s
  | 0, _, h => by omega
  | n + 1, s, h => by
    have hp : opS ≠ [] := by decide
    unfold Lib.countFrom
    rcases OO hp s with ⟨h1, h2⟩ | ⟨a, b, h1, h2⟩
    · rw [h2]; simp only [BEq.rfl, if_true, Lib.replaceK]; exact (QL h1).symm
    · have hn : ¬ (Lib.index s opS == -1) = true := fun e => by have := beq_iff_eq.1 e; omega
      rw [if_neg hn, h2, Nat.add_comm 1, Lib.replaceK_hit _ _ _ _ _ h2]
      have e := PI h1
      have hd : s.drop ((a.length : Int).toNat + opS.length) = b := by
        subst e
        have e2 : ((a.length : Int).toNat + opS.length) = (a ++ opS).length := by simp
        rw [e2, ← List.append_assoc, List.drop_left]
      have ht : s.take a.length = a := by subst e; rw [List.take_left]
      have hd' : s.drop (a.length + opS.length) = b := by simpa using hd
      rw [hd, ht, hd', Pc n b (by have := UD h1; simp [opS] at this; omega), QP h1, List.append_assoc]
theorem WU (s : AP) : Lib.replaceAll s opS Lt = DN s := by
  unfold Lib.replaceAll Lib.replace
  rw [if_neg (by decide)]
  unfold Lib.replaceNum
  rw [if_pos (by omega)]
  exact Pc _ s (by omega)
theorem Wv (s : AP) (hs : s.length ≤ 2000000) : APure Tryz.prog 63 [.str s, .str opS, .str Lt] (.str (DN s)) := by
  refine Ef fun G vs hr => ⟨.string ⟨(DN s).toArray⟩, fun _ => .str (by simp), fun w hl => ?_⟩
  cases hr with | cons h1 h2 =>
  cases h2 with | cons h3 h4 =>
  cases h4 with | cons h5 h6 =>
  cases h6; cases h1; cases h3; cases h5
  rename_i s1 hs1 s2 hs2 s3 hs3
  obtain ⟨m, hm⟩ := hl.len
  have z2 : s2.size = 2 := by rw [Lib.size_eq, hs2]; rfl
  have z3 : s3.size = 8 := by rw [Lib.size_eq, hs3]; rfl
  have z1 : s1.size = s.length := by rw [Lib.size_eq, hs1]
  have hc := Lib.countB_mul_le s2 (by omega) s1.size s1 (Nat.le_refl _)
  have key := Any.strings_ReplaceAll Va Hv s1 s2 s3 m w (by omega) hm (by omega) (by rw [z3]; rw [z2] at hc; omega)
  rw [hs1, hs2, hs3, WU] at key
  refine key.mono ?_
  rintro e w' ⟨rfl, hb⟩
  exact ⟨rfl, hb⟩
theorem Vm (s : AP) (hs : s.length ≤ 2000000) (ha : ∀ b ∈ s, b.toNat < 128) : APure Tryz.prog 171 [.str s] (aI s.length) := by
  refine Ef fun G vs hr => ⟨.int .i64 s.length, fun _ => .int, fun w hl => ?_⟩
  cases hr with | cons h1 h2 =>
  cases h2; cases h1
  rename_i s1 hs1
  refine (Any.utf8_RuneCountInString_ascii Vw s1 w (by rw [Lib.size_eq, hs1]; omega) (fun j b hj => ha b (by rw [← hs1]; exact List.mem_of_getElem? hj))).mono ?_
  rintro e w' ⟨rfl, rfl⟩
  refine ⟨by rw [Lib.size_eq, hs1], ?_⟩
  have b := Below.refl w.heap.size w
  refine ⟨b.os, b.tape, b.output, ?_, fun j hj => ?_⟩
  · simp [World.iter]
  · simp only [World.iter]
    first | exact heap_alloc_old w _ hj | exact Go.heap_alloc_old w _ j hj
end Go.Proofs.YtnfjgphfaemjcaaGreatDoor
