/- What the library does with texts that are looked through, divided and read as numbers, brought to plain data; no condition. -/
import Derived.Test.YtnfjgphfaemjcaaGreatDoorMdL
import Derived.Test.YtnfjgphfaemjcaaGreatDoorMgH
import Derived.Test.YtnfjgphfaemjcaaGreatDoorMgI
import Derived.Test.YtnfjgphfaemjcaaGreatDoorAdE
set_option linter.all false
set_option linter.unusedSimpArgs false
set_option linter.unusedVariables false
set_option maxHeartbeats 2000000
namespace Go.Proofs.YtnfjgphfaemjcaaGreatDoor
open Go.RowKit
theorem L1 (x c : UInt8) (r : AM) : Lib.index (x :: r) [c] = if x = c then 0 else if Lib.index r [c] = -1 then -1 else Lib.index r [c] + 1 := by
  by_cases h : x = c
  · subst h; rw [Lib.index]; simp [List.isPrefixOf]
  · have hp : ([c] : List UInt8).isPrefixOf (x :: r) = false := by simp [List.isPrefixOf, Ne.symm h]
    rw [Lib.index, hp, if_neg h]; simp
theorem MS (c : UInt8) : ∀ s : AM, Lib.splitK [c] 0 (Lib.count s [c]) s = Lj c s ∧ Lib.count s [c] + 1 = (Lj c s).length
  | [] => by
    have e : Lib.count [] [c] = 0 := by rw [Lib.count_one]; rfl
    rw [e]; exact ⟨rfl, rfl⟩
  | x :: r => by
    obtain ⟨h1, h2⟩ := MS c r
    by_cases hx : x = c
    · subst hx
      have e : Lib.count (x :: r) [x] = Lib.count r [x] + 1 := by rw [Lib.count_cons_eq, Nat.add_comm]
      rw [e, Lj, if_pos rfl, Lib.splitK, L1, if_pos rfl]
      refine ⟨?_, by rw [List.length_cons, h2]⟩
      simpa using h1
    · have e : Lib.count (x :: r) [c] = Lib.count r [c] := Lib.count_cons_ne _ _ _ hx
      rw [e, Lj, if_neg hx]
      obtain ⟨h, t, e3⟩ := List.exists_cons_of_ne_nil (Wg c r)
      rw [e3] at h1 h2 ⊢
      refine ⟨?_, h2⟩
      have hge := Lib.index_ge r [c]
      cases hk : Lib.count r [c] with
      | zero =>
        rw [hk] at h1
        simp only [Lib.splitK] at h1 ⊢
        injection h1 with h1 h1'
        subst h1; subst h1'; rfl
      | succ k =>
        rw [hk] at h1
        simp only [Lib.splitK] at h1 ⊢
        rw [L1, if_neg hx]
        by_cases hi : Lib.index r [c] = -1
        · rw [hi] at h1 ⊢
          simp only [BEq.rfl, if_true] at h1 ⊢
          injection h1 with h1 h1'
          subst h1; subst h1'; rfl
        · have hn : ¬ (Lib.index r [c] == -1) = true := fun e => hi (beq_iff_eq.1 e)
          rw [if_neg hn] at h1
          rw [if_neg hi]
          have hn2 : ¬ (Lib.index r [c] + 1 == -1) = true := fun e => by have := beq_iff_eq.1 e; omega
          rw [if_neg hn2]
          have e1 : (Lib.index r [c] + 1).toNat = (Lib.index r [c]).toNat + 1 := by omega
          injection h1 with h1 h1'
          rw [e1, ← h1, ← h1']
          have e2 : (Lib.index r [c]).toNat + 1 + [c].length = (Lib.index r [c]).toNat + [c].length + 1 := by omega
          rw [e2]
          rfl
theorem SP (l : List ByteArray) : l.map Value.string = (l.map (·.data.toList)).map fun x => Value.string ⟨x.toArray⟩ := by
  rw [List.map_map]
  exact List.map_congr_left fun x _ => by simp
theorem NC (s : AM) (c : UInt8) (hs : s.length ≤ 2000000) : APure Tryz.prog 73 [.str s, .str [c]] (Gp (Lj c s)) := by
  intro n H hH w0 G w vs hl h0 hrep
  cases hrep with | cons h1 h2 =>
  cases h2 with | cons h3 h4 =>
  cases h4; cases h1; cases h3
  rename_i sb hsb cb hcb
  subst hsb
  obtain ⟨m, hm⟩ := (hl.ext h0.ext).len
  have hsz : cb.size = 1 := by rw [Lib.size_eq, hcb]; rfl
  refine (Any.strings_Split Un (by kernel_rfl) sb cb m w (by rw [Lib.size_eq]; omega) hm (by omega)).mono ?_
  have hcl := RT c sb.data.toList
  obtain ⟨k1, k2⟩ := MS c sb.data.toList
  have hd := Lib.splitB_data cb 0 (Lib.countB sb cb) sb
  have hcnt : Lib.countB sb cb + 1 = (Lj c sb.data.toList).length := by rw [← k2]; unfold Lib.countB; rw [hcb]
  rw [hcb] at hd
  have hcb2 : Lib.countB sb cb = Lib.count sb.data.toList [c] := by unfold Lib.countB; rw [hcb]
  rw [← hcb2] at k1
  rw [k1] at hd
  have hrow := SP (Lib.splitB cb 0 (Lib.countB sb cb) sb)
  rw [hd] at hrow
  rw [hcnt, hrow]
  generalize Lj c sb.data.toList = L at *
  rintro e w' ⟨rfl, rfl⟩
  have hrel := h0.newRow (w' := w.alloc (.cells (L.map fun l => Value.string ⟨l.toArray⟩).toArray 9)) (cur := (L.map fun l => Value.string ⟨l.toArray⟩).toArray) (e := 9) (fz := (0, 0)) (vs := L.map fun l => Value.string ⟨l.toArray⟩) (c := none) (ob := none) rfl rfl rfl rfl
    (fun j u hu => by simpa using hu) (fun e' c' hc => by cases hc) (.inl rfl)
  have hle := h0.addLe (L.map fun l => Value.string ⟨l.toArray⟩) none
  have hhi := h0.hi
  refine ⟨_, _, _, n, H, rfl, ⟨rfl, rfl, rfl⟩, .slro (vs := L.map fun l => Value.string ⟨l.toArray⟩) ?_ (Gh.add_sealed _ _ _) ?_ (by simp), hle, Nat.le_refl _, hrel.less h0.lo (by omega) hH ?_⟩
  · rw [FC]; exact MP _
  · refine ⟨by simp, by simp only [maxLen]; omega, by decide, fun x hx => ?_, fun x hx => ?_⟩
    · obtain ⟨y, _, rfl⟩ := List.mem_map.1 hx; rfl
    · rw [FC] at hx; obtain ⟨y, _, rfl⟩ := List.mem_map.1 hx; rfl
  · intro k hk'
    rw [upd_ne (by omega)]
theorem Hh (s p : AM) (hs : s.length ≤ 2000000) : APure Tryz.prog 41 [.str s, .str p] (.tup [.str (Lib.cut s p).1, .str (Lib.cut s p).2.1, .bool (Lib.cut s p).2.2]) := by
  refine ED fun G vs hr => ⟨.tuple #[.string ⟨(Lib.cut s p).1.toArray⟩, .string ⟨(Lib.cut s p).2.1.toArray⟩, .bool (Lib.cut s p).2.2], fun _ => .tup (.cons (.str (by simp)) (.cons (.str (by simp)) (.cons .bool .nil))), fun w hl => ?_⟩
  cases hr with | cons h1 h2 =>
  cases h2 with | cons h3 h4 =>
  cases h4; cases h1; cases h3
  rename_i s1 hs1 s2 hs2
  obtain ⟨m, hm⟩ := hl.len
  have key := Any.strings_Cut Uk s1 s2 m w (by rw [Lib.size_eq, hs1]; omega) hm
  rw [hs1, hs2] at key
  refine key.mono ?_
  rintro e w' ⟨rfl, k, rfl⟩
  have b := Below.refl w.heap.size w
  exact ⟨rfl, ⟨b.os, b.tape, b.output, b.size, b.block⟩⟩
theorem Kl (s p : AM) (hs : s.length ≤ 2000000) : APure Tryz.prog 39 [.str s, .str p] (aI (Lib.index s p)) := by
  refine ED fun G vs hr => ⟨.int .i64 (Lib.index s p), fun _ => .int, fun w hl => ?_⟩
  cases hr with | cons h1 h2 =>
  cases h2 with | cons h3 h4 =>
  cases h4; cases h1; cases h3
  rename_i s1 hs1 s2 hs2
  obtain ⟨m, hm⟩ := hl.len
  have key := Any.strings_Index VY s1 s2 m w (by rw [Lib.size_eq, hs1]; omega) hm
  rw [hs1, hs2] at key
  refine key.mono ?_
  rintro e w' ⟨rfl, rfl⟩
  exact ⟨rfl, Below.refl _ _⟩
theorem RM {s : AM} {v : Int} (h : Lib.atoiAll s = .ok v) (hs : s.length ≤ 2000000) : APure Tryz.prog 115 [.str s] (.tup [aI v, .nif]) := by
  refine ED fun G vs hr => ⟨.tuple #[.int .i64 v, .nilIface], fun _ => .tup (.cons .int (.cons .nif .nil)), fun w hl => ?_⟩
  cases hr with | cons h1 h2 =>
  cases h2; cases h1
  rename_i s1 hs1
  refine (Any.strconv_Atoi_ok Lb s1 (by rw [Lib.size_eq, hs1]; omega) v (by rw [hs1]; exact h) w).mono ?_
  rintro e w' ⟨rfl, h2⟩
  refine ⟨rfl, ?_⟩
  rcases h2 with rfl | ⟨t, rfl⟩
  · exact Below.refl _ _
  · exact Lib.bytesWorld_below _ _ _
theorem PY {P : Program} {f : Nat} {s : AM} {n : Int} {t : Nat} (h : ∀ (s1 : ByteArray) (w : World), s1.data.toList = s → Laid w → Calls P f #[.string s1] w fun e w' => ∃ N, e = .returned (.tuple #[.int .i64 n, .iface t (.pointer (some ⟨N, 0, none⟩))]) ∧ Below w.heap.size w w') : APure P f [.str s] (.tup [aI n, .ifc t .any]) := by
  intro n0 H hs w0 G w vs hl h0 hrep
  cases hrep with | cons h1 h2 =>
  cases h2; cases h1
  rename_i s1 hs1
  refine (h s1 w hs1 (hl.ext h0.ext)).mono ?_
  rintro e w' ⟨N, rfl, hb⟩
  exact ⟨_, _, G, n0, H, rfl, ⟨rfl, rfl, rfl⟩, .tup (.cons .int (.cons (.ifc .any) .nil)), Gh.Le.rfl_ _, Nat.le_refl _, IH h0 hb⟩
theorem Tr {s : AM} (h0 : ∀ v, Lib.atoiAll s ≠ .ok v) (h2 : Lib.atoiAll s ≠ .range) (hs : s.length ≤ 2000000) : APure Tryz.prog 115 [.str s] (.tup [aI 0, .ifc 207 .any]) := by
  refine PY fun s1 w hs1 hl => ?_
  obtain ⟨ev, hv, hev⟩ := hl.syn
  refine (Any.strconv_Atoi_syntax Lb s1 (by rw [Lib.size_eq, hs1]; omega) (by rw [hs1]; revert h0 h2; cases Lib.atoiAll s <;> simp) ev w hv hev).mono ?_
  rintro e w' ⟨k, rfl, _, _, hb⟩
  exact ⟨k, rfl, hb⟩
theorem U2 {s : AM} (h : Lib.atoiAll s = .range) (hs : s.length ≤ 2000000) : APure Tryz.prog 115 [.str s] (.tup [aI (Lib.atoiSat s), .ifc 207 .any]) := by
  refine PY fun s1 w hs1 hl => ?_
  obtain ⟨ev, hv, hev⟩ := hl.rng
  have key := Any.strconv_Atoi_range Lb s1 (by rw [Lib.size_eq, hs1]; omega) (by rw [hs1]; exact h) ev w hv hev
  rw [hs1] at key
  refine key.mono ?_
  rintro e w' ⟨k, rfl, _, _, hb⟩
  exact ⟨k, rfl, hb⟩
open Go.RowKit
theorem MI {p : AM} (hp : p ≠ []) : ∀ s : AM, (Ev p s = none ∧ Lib.index s p = -1) ∨ ∃ a b, Ev p s = some (a, b) ∧ Lib.index s p = (a.length : Int)
  | [] => .inl ⟨by unfold Ev; rw [if_neg hp], by unfold Lib.index; cases p with | nil => exact absurd rfl hp | cons _ _ => rfl⟩
  | x :: r => by
    rw [Se, Lib.index]
    by_cases h : p.isPrefixOf (x :: r) = true
    · rw [if_pos h, if_pos h]; exact .inr ⟨_, _, rfl, rfl⟩
    · rw [if_neg h, if_neg h]
      rcases MI hp r with ⟨h1, h2⟩ | ⟨a, b, h1, h2⟩
      · left; rw [h1, h2]; exact ⟨rfl, rfl⟩
      · right
        rw [h1, h2]
        refine ⟨x :: a, b, rfl, ?_⟩
        have hn : ¬ ((a.length : Int) == -1) = true := fun e => by have := beq_iff_eq.1 e; omega
        rw [if_neg hn]; simp
theorem Pv : ∀ (n : Nat) (s : AM), s.length < n → Lib.replaceK opS LW (Lib.countFrom opS n s) s = D5 s
  | 0, _, h => by omega
  | n + 1, s, h => by
    have hp : opS ≠ [] := by decide
    unfold Lib.countFrom
    rcases MI hp s with ⟨h1, h2⟩ | ⟨a, b, h1, h2⟩
    · rw [h2]; simp only [BEq.rfl, if_true, Lib.replaceK]; exact (Q6 h1).symm
    · have hn : ¬ (Lib.index s opS == -1) = true := fun e => by have := beq_iff_eq.1 e; omega
      rw [if_neg hn, h2, Nat.add_comm 1, Lib.replaceK_hit _ _ _ _ _ h2]
      have e := O1 h1
      have hd : s.drop ((a.length : Int).toNat + opS.length) = b := by
        subst e
        have e2 : ((a.length : Int).toNat + opS.length) = (a ++ opS).length := by simp
        rw [e2, ← List.append_assoc, List.drop_left]
      have ht : s.take a.length = a := by subst e; rw [List.take_left]
      have hd' : s.drop (a.length + opS.length) = b := by simpa using hd
      rw [hd, ht, hd', Pv n b (by have := U4 h1; simp [opS] at this; omega), Px h1, List.append_assoc]
theorem V5 (s : AM) : Lib.replaceAll s opS LW = D5 s := by
  unfold Lib.replaceAll Lib.replace
  rw [if_neg (by decide)]
  unfold Lib.replaceNum
  rw [if_pos (by omega)]
  exact Pv _ s (by omega)
theorem Vu (s : AM) (hs : s.length ≤ 2000000) : APure Tryz.prog 63 [.str s, .str opS, .str LW] (.str (D5 s)) := by
  refine ED fun G vs hr => ⟨.string ⟨(D5 s).toArray⟩, fun _ => .str (by simp), fun w hl => ?_⟩
  cases hr with | cons h1 h2 =>
  cases h2 with | cons h3 h4 =>
  cases h4 with | cons h5 h6 =>
  cases h6; cases h1; cases h3; cases h5
  rename_i s1 hs1 s2 hs2 s3 hs3
  obtain ⟨m, hm⟩ := hl.len
  have z2 : s2.size = 2 := by rw [Lib.size_eq, hs2]; rfl
  have z3 : s3.size = 8 := by rw [Lib.size_eq, hs3]; rfl
  have z1 : s1.size = s.length := by rw [Lib.size_eq, hs1]
  have hc := Lib.countB_mul_le s2 (by omega) s1.size s1 (Nat.le_refl _)
  have key := Any.strings_ReplaceAll Vb He s1 s2 s3 m w (by omega) hm (by omega) (by rw [z3]; rw [z2] at hc; omega)
  rw [hs1, hs2, hs3, V5] at key
  refine key.mono ?_
  rintro e w' ⟨rfl, hb⟩
  exact ⟨rfl, hb⟩
theorem VG (s : AM) (hs : s.length ≤ 2000000) (ha : ∀ b ∈ s, b.toNat < 128) : APure Tryz.prog 171 [.str s] (aI s.length) := by
  refine ED fun G vs hr => ⟨.int .i64 s.length, fun _ => .int, fun w hl => ?_⟩
  cases hr with | cons h1 h2 =>
  cases h2; cases h1
  rename_i s1 hs1
  refine (Any.utf8_RuneCountInString_ascii Uu s1 w (by rw [Lib.size_eq, hs1]; omega) (fun j b hj => ha b (by rw [← hs1]; exact List.mem_of_getElem? hj))).mono ?_
  rintro e w' ⟨rfl, rfl⟩
  refine ⟨by rw [Lib.size_eq, hs1], ?_⟩
  have b := Below.refl w.heap.size w
  refine ⟨b.os, b.tape, b.output, ?_, fun j hj => ?_⟩
  · simp [World.iter]
  · simp only [World.iter]
    first | exact heap_alloc_old w _ hj | exact Go.heap_alloc_old w _ j hj
abbrev UP (l : List AM) : List AV := l.map AV.str
theorem drop_at {α : Type} {l : List α} {k : Nat} {x : α} (h : l[k]? = some x) : l.drop k = x :: l.drop (k + 1) := by
  have hk := (List.getElem?_eq_some_iff.1 h).1
  rw [List.drop_eq_getElem_cons hk, (List.getElem?_eq_some_iff.1 h).2]
attribute [local simp] Jw E1 Dy JJ KF KK JB Dz E3 G3 Fv JL J3 JF Jr JK II Hu I5 JD K0 Jt JU KQ JC PM pe KD JH Iw Ka KN Jv K9 JQ JO KR Kc Jh KT Ft OG N9 OS NT Nu OV Na Mt OJ N3 O9 NV OF ND NN Mz MW OU NP OB N8 FZ Nn Fa Oh MY Mw N7 N4 Mv Oa OC OA O5 NH Nq OQ NG MU MX Md Oc Nz Ml Ns Mo Nf Mg Od Fj OX NI Nk Nh O3 NF OM Nm NU Nt MZ Mx Mq Ob Nj Mc Nw Of Mm JG Jz Je KU KA J9 Kf K8 Iy Ke Ix HO Jy List.mem_cons guardK DT Dv EA Fx Nc FQ FV Fo Fr Fh Fk Fd Ff FW NM Nx FX JS N2 Oe Oi Ng NY FM J0 Mi NS JE Ju Nd Hj FO FT FN Fb NW Nr Fq NE FP Jx FU FS Jo Fm Fu Ma NA OD KH Nb Mn Kh K7 Qs I7 IK GD I0 IT IF Dc FF Ep Jb Ei Ez Df DS Sq IV I6 FJ IW I8 DL D6 BU BR CJ D7 D4 ev get put Di AG DG JR KI JI KV IQ J2 Dr part Az G6 K6 FY isNil Ci Cw DK Cx CQ Jf K5 JY Kj KO KZ Jj Iz KB Ki KG KL JT Jp J8 JV AV.fits AV.cells ones AV.one DX Bm DZ D1 Dg Du KP EH EQ CM Bk Cn Fc DM Ay BG Sx G0 Jn Iu List.getElem?_cons_zero List.getElem?_cons_succ FL Fp Fg J6 K3 J4 G7 J5 Jl Jc Kb KE Ja KX Mr Jg Jd Jm Ji JA JP J7 Jk Kg J1 KY K4 Iv JM JZ Jq K2 KJ JX Kd
theorem SQ : ∀ d : Fin 10, (Utf8.encode (48 + (d.val : Int))).data.toList = [UInt8.ofNat (48 + d.val)] := by decide +kernel
theorem Fe {d : Nat} (h : d < 10) : (Utf8.encode (48 + (d : Int))).data.toList = [UInt8.ofNat (48 + d)] := by
  have e := SQ ⟨d, h⟩
  simp only at e
  exact e
theorem Gf (k : Nat) : (Lib.decDigits k).length ≤ k + 1 := by
  rw [Lib.decDigits_length]
  induction k using Nat.strongRecOn with
  | _ m ih =>
    by_cases c : m < 10
    · rw [Lib.nDigits_small c]; omega
    · rw [Lib.nDigits_big c]; have := ih (m / 10) (by omega); omega
theorem SH {a b : AM} (h : a.length + b.length ≤ 9000000000000000000) : CQ .add a b = some (.str (a ++ b)) := by
  simp only [CQ]
  rw [if_neg]
  have : IntKind.i64.max = 9223372036854775807 := by decide
  rw [this]; omega
theorem Ql (k : Nat) (c : k < 10) : APure Tryz.prog 38 [aI k] (.str [UInt8.ofNat (48 + k)]) := by
  have he := Fe c
  have hw : IntKind.i32.wrap (48 + (k : Int)) = 48 + (k : Int) := IntWalk.i32_in _ (by omega)
  refine A7 Tryz.func38 RU rfl fun n H hH => ?_
  repeat' (first | (simp -implicitDefEqProofs [GW, GQ, GR, GU, c38, -getElem?_pos, A9, hw, he]) | (simp (disch := omega) only [AF]) | (with_reducible first | refine A6 ?_ ?_ ?_ | exact AC | refine SameB.upd ?_ ?_ _ | assumption | refine A2 ?_ | refine KM.of ?_ | refine AE ?_ | intro _g _hg | refine AD ?_ ?_ | intro _hc) | omega)
theorem QZ (k : Nat) (c : ¬ k < 10) (hk : k ≤ 1000000000) (l : AM) (hl : l.length ≤ k) (hr : APure Tryz.prog 38 [aI ((k : Int) / 10)] (.str l)) : APure Tryz.prog 38 [aI k] (.str (l ++ [UInt8.ofNat (48 + k % 10)])) := by
  have hm : k % 10 < 10 := by omega
  have he := Fe hm
  have e2 : ((k % 10 : Nat) : Int) = (k : Int) % 10 := by omega
  rw [e2] at he
  have hw : IntKind.i32.wrap (48 + (k : Int) % 10) = 48 + (k : Int) % 10 := IntWalk.i32_in _ (by omega)
  generalize UInt8.ofNat (48 + k % 10) = ch at he ⊢
  have hadd : CQ .add l [ch] = some (.str (l ++ [ch])) := SH (by simp; omega)
  obtain ⟨u, hu⟩ : ∃ u, Utf8.encode (48 + (k : Int) % 10) = u := ⟨_, rfl⟩
  rw [hu] at he
  have hsz : u.size = 1 := by rw [Lib.size_eq, he]; rfl
  have hlt : ¬ (9223372036854775807 : Int) < (l.length : Int) + 1 := by omega
  refine A7 Tryz.func38 RU rfl fun n H hH => ?_
  repeat' (first | (simp -implicitDefEqProofs [GW, GQ, GR, GU, c38, -getElem?_pos, A9, hw, hu, he, hsz, hlt]) | (simp (disch := omega) only [AF]) | ((with_reducible refine AH 38 ?_); (refine' CallP.sf ?_ (hr) ?_); (focus first | (with_reducible exact A0 _) | (simp [AA, A9, A1, A0]; done))) | (with_reducible first | refine A6 ?_ ?_ ?_ | exact AC | refine SameB.upd ?_ ?_ _ | assumption | refine A2 ?_ | refine KM.of ?_ | refine AE ?_ | intro _g _hg | refine AD ?_ ?_ | intro _hc) | omega)
theorem ME (k : Nat) : k ≤ 1000000000 → APure Tryz.prog 38 [aI k] (.str (Lib.decDigits k)) := by
  induction k using Nat.strongRecOn with
  | _ k ih =>
    intro hk
    by_cases c : k < 10
    · rw [Lib.decDigits_one c]
      exact Ql k c
    · have hd : Lib.decDigits k = Lib.decDigits (k / 10) ++ [UInt8.ofNat (48 + k % 10)] := by rw [Lib.decDigits, dif_neg c]
      have hr := ih (k / 10) (by omega) (by omega)
      have e1 : ((k / 10 : Nat) : Int) = (k : Int) / 10 := by omega
      rw [e1] at hr
      rw [hd]
      exact QZ k c hk _ (by have := Gf (k / 10); omega) hr
theorem Qz (k : Nat) (c : k < 10) (h0 : 0 < k) : APure Tryz.prog 38 [aI (-(k : Int))] (.str (45 :: [UInt8.ofNat (48 + k)])) := by
  have he := Fe c
  have hw : IntKind.i32.wrap (48 - -(k : Int)) = 48 + (k : Int) := by
    have e : 48 - -(k : Int) = 48 + k := by omega
    rw [e]; exact IntWalk.i32_in _ (by omega)
  have hw2 : IntKind.i32.wrap (48 + (k : Int)) = 48 + (k : Int) := IntWalk.i32_in _ (by omega)
  have h1 : (-(k : Int)) < 0 := by omega
  have h2 : ¬ (-(k : Int)) < -9 := by omega
  generalize UInt8.ofNat (48 + k) = ch at he ⊢
  obtain ⟨u, hu⟩ : ∃ u, Utf8.encode (48 + (k : Int)) = u := ⟨_, rfl⟩
  rw [hu] at he
  have hsz : u.size = 1 := by rw [Lib.size_eq, he]; rfl
  refine A7 Tryz.func38 RU rfl fun n H hH => ?_
  repeat' (first | (simp -implicitDefEqProofs [GW, GQ, GR, GU, c38, -getElem?_pos, A9, hw, hw2, hu, he, hsz, h1, h2]) | (simp (disch := omega) only [AF]) | (with_reducible first | refine A6 ?_ ?_ ?_ | exact AC | refine SameB.upd ?_ ?_ _ | assumption | refine A2 ?_ | refine KM.of ?_ | refine AE ?_ | intro _g _hg | refine AD ?_ ?_ | intro _hc) | omega)
theorem RF (k : Nat) (c : ¬ k < 10) (hk : k ≤ 1000000000) (l : AM) (hl : l.length ≤ k) (hr : APure Tryz.prog 38 [aI ((k : Int) / 10)] (.str l)) : APure Tryz.prog 38 [aI (-(k : Int))] (.str (45 :: (l ++ [UInt8.ofNat (48 + k % 10)]))) := by
  have hm : k % 10 < 10 := by omega
  have he := Fe hm
  have e2 : ((k % 10 : Nat) : Int) = (k : Int) % 10 := by omega
  rw [e2] at he
  have hq : Int.tdiv (-(k : Int)) 10 = -((k : Int) / 10) := by rw [Int.neg_tdiv, Int.tdiv_eq_ediv_of_nonneg (by omega)]
  have hmm : Int.tmod (-(k : Int)) 10 = -((k : Int) % 10) := by rw [Int.neg_tmod, Int.tmod_eq_emod_of_nonneg (by omega)]
  have hw : IntKind.i32.wrap (48 + (k : Int) % 10) = 48 + (k : Int) % 10 := IntWalk.i32_in _ (by omega)
  have hw3 : IntKind.i32.wrap (48 - -((k : Int) % 10)) = 48 + (k : Int) % 10 := by
    have e : 48 - -((k : Int) % 10) = 48 + (k : Int) % 10 := by omega
    rw [e]; exact hw
  have h1 : (-(k : Int)) < 0 := by omega
  have h2 : (-(k : Int)) < -9 := by omega
  generalize UInt8.ofNat (48 + k % 10) = ch at he ⊢
  obtain ⟨u, hu⟩ : ∃ u, Utf8.encode (48 + (k : Int) % 10) = u := ⟨_, rfl⟩
  rw [hu] at he
  have hsz : u.size = 1 := by rw [Lib.size_eq, he]; rfl
  have hlt : ¬ (9223372036854775807 : Int) < 1 + (l.length : Int) := by omega
  have hlt2 : ¬ (9223372036854775807 : Int) < (l.length : Int) + 1 + 1 := by omega
  refine A7 Tryz.func38 RU rfl fun n H hH => ?_
  repeat' (first | (simp -implicitDefEqProofs [GW, GQ, GR, GU, c38, -getElem?_pos, A9, hq, hmm, hw, hw3, hu, he, hsz, hlt, hlt2, h1, h2]) | (simp (disch := omega) only [AF]) | ((with_reducible refine AH 38 ?_); (refine' CallP.sf ?_ (hr) ?_); (focus first | (with_reducible exact A0 _) | (simp [AA, A9, A1, A0]; done))) | (with_reducible first | refine A6 ?_ ?_ ?_ | exact AC | refine SameB.upd ?_ ?_ _ | assumption | refine A2 ?_ | refine KM.of ?_ | refine AE ?_ | intro _g _hg | refine AD ?_ ?_ | intro _hc) | omega)
theorem IL (n : Int) (h : -1000000000 ≤ n ∧ n ≤ 1000000000) : APure Tryz.prog 38 [aI n] (.str (Lib.itoa n)) := by
  by_cases c : n < 0
  · obtain ⟨u, rfl⟩ : ∃ u : Nat, n = -(u : Int) := ⟨n.natAbs, by omega⟩
    rw [Lib.itoa_neg u (by omega)]
    by_cases c2 : u < 10
    · rw [Lib.decDigits_one c2]; exact Qz u c2 (by omega)
    · have hd : Lib.decDigits u = Lib.decDigits (u / 10) ++ [UInt8.ofNat (48 + u % 10)] := by rw [Lib.decDigits, dif_neg c2]
      have hr := ME (u / 10) (by omega)
      have e1 : ((u / 10 : Nat) : Int) = (u : Int) / 10 := by omega
      rw [e1] at hr
      rw [hd]
      exact RF u c2 (by omega) _ (by have := Gf (u / 10); omega) hr
  · obtain ⟨u, rfl⟩ : ∃ u : Nat, n = (u : Int) := ⟨n.toNat, by omega⟩
    rw [Lib.itoa_nonneg]
    exact ME u (by omega)
theorem IU (sep : AM) : ∀ (l : List AM) (k : Nat) (x : AM), l[k]? = some x → Lib.join (l.take (k + 1)) sep = (if 0 < k then Lib.join (l.take k) sep ++ sep else Lib.join (l.take k) sep) ++ x
  | [], k, x, h => by simp at h
  | y :: l, 0, x, h => by
    simp at h; subst h
    simp [Lib.join_one, Lib.join]
  | y :: l, k + 1, x, h => by
    have h' : l[k]? = some x := by simpa using h
    have ih := IU sep l k x h'
    rw [List.take_succ_cons, List.take_succ_cons, if_pos (by omega)]
    rw [Lib.join_cons, Lib.join_cons]
    have : ∀ m : List AM, m ≠ [] → Lib.joinTail sep m = sep ++ Lib.join m sep := by
      intro m hm
      obtain ⟨a, b, rfl⟩ := List.exists_cons_of_ne_nil hm
      rw [Lib.join_cons]; simp [Lib.joinTail]
    have hne : l.take (k + 1) ≠ [] := by
      intro e
      have : l = [] := by cases l with | nil => rfl | cons a b => simp at e
      rw [this] at h'; simp at h'
    rw [this _ hne, ih]
    by_cases hk : 0 < k
    · rw [if_pos hk]
      have hne2 : l.take k ≠ [] := by
        intro e
        have : l = [] := by
          cases l with
          | nil => rfl
          | cons a b => cases k with | zero => omega | succ k => simp at e
        rw [this] at h'; simp at h'
      rw [this _ hne2]; simp
    · have : k = 0 := by omega
      subst this
      rw [if_neg hk]; simp [Lib.joinTail, Lib.join]
theorem Sj (sep : AM) (l : List AM) : ∀ k, (Lib.join (l.take k) sep).length ≤ (Lib.join l sep).length := by
  have step : ∀ k, (Lib.join (l.take k) sep).length ≤ (Lib.join (l.take (k + 1)) sep).length := by
    intro k
    by_cases hk : k < l.length
    · rw [IU sep l k l[k] (List.getElem?_eq_getElem hk)]
      split <;> simp <;> omega
    · rw [List.take_of_length_le (by omega), List.take_of_length_le (by omega)]; exact Nat.le_refl _
  have up : ∀ k j, (Lib.join (l.take k) sep).length ≤ (Lib.join (l.take (k + j)) sep).length := by
    intro k j
    induction j with
    | zero => exact Nat.le_refl _
    | succ j ih => exact Nat.le_trans ih (step (k + j))
  intro k
  have h := up k l.length
  have e : l.take (k + l.length) = l := List.take_of_length_le (by omega)
  rw [e] at h
  exact h
theorem Uy (l : List AM) (sep : AM) (hl : l.length ≤ 2000000) (hs : sep.length ≤ 2000000) (hb : (Lib.join l sep).length ≤ 2000000) (hx : ∀ x ∈ l, x.length ≤ 2000000) : APure Tryz.prog 36 [Gp l, .str sep] (.str (Lib.join l sep)) := by
  have hmono := Sj sep l
  refine A7 Tryz.func36 Xq rfl fun n H hH => ?_
  repeat' (first | (simp -implicitDefEqProofs [GX, GV, GS, GT, GZ, c36, -getElem?_pos, A9]) | (simp (disch := omega) only [AF]) | (with_reducible first | refine A6 ?_ ?_ ?_ | exact AC | refine SameB.upd ?_ ?_ _ | assumption | refine A2 ?_ | refine KM.of ?_ | refine AE ?_ | intro _g _hg | refine AD ?_ ?_ | intro _hc) | omega)
  refine LoopK.go (fun q st => ∃ (k : Nat), k + q = l.length ∧ st = ⟨[(0, Gp l), (1, .str sep), (5, .str (Lib.join (l.take k) sep)), (6, aI k)], n, H⟩) l.length ⟨0, by omega, rfl⟩ ?_
  rintro q st ⟨k, hkq, rfl⟩ J hJ
  by_cases hk : k < l.length
  · obtain ⟨y, hy⟩ : ∃ y, l[k]? = some y := ⟨_, List.getElem?_eq_getElem hk⟩
    have hy2 : (UP l)[k]? = some (.str y) := by rw [List.getElem?_map, hy]; rfl
    have hyl := hx y (List.mem_of_getElem? hy)
    have e := IU sep l k y hy
    have hm := hmono k
    by_cases h0 : 0 < k
    · rw [if_pos h0] at e
      generalize Lib.join (l.take k) sep = acc at *
      have a1 : ¬ (9223372036854775807 : Int) < (acc.length : Int) + sep.length := by omega
      have a2 : ¬ (9223372036854775807 : Int) < (acc.length : Int) + sep.length + y.length := by omega
      have a3 : ¬ (9223372036854775807 : Int) < (acc.length : Int) + (sep.length + y.length) := by omega
      have h0' : (0 : Int) < k := by omega
      repeat' (first | (simp -implicitDefEqProofs [GX, GV, GS, GT, GZ, c36, -getElem?_pos, A9, hy, hy2, h0, h0', a1, a2, a3]) | (simp (disch := omega) only [AF]) | (with_reducible first | refine A6 ?_ ?_ ?_ | exact AC | refine SameB.upd ?_ ?_ _ | assumption | refine A2 ?_ | refine KM.of ?_ | refine AE ?_ | intro _g _hg | refine AD ?_ ?_ | intro _hc) | omega)
      exact hJ (q - 1) _ (by omega) ⟨k + 1, by omega, by rw [e]; simp⟩
    · have : k = 0 := by omega
      subst this
      rw [if_neg h0] at e
      have hne : ¬ l = [] := fun e' => by rw [e'] at hk; simp at hk
      generalize Lib.join (l.take 0) sep = acc at *
      have a1 : ¬ (9223372036854775807 : Int) < (acc.length : Int) + y.length := by omega
      repeat' (first | (simp -implicitDefEqProofs [GX, GV, GS, GT, GZ, c36, -getElem?_pos, A9, hy, hy2, a1, hne]) | (simp (disch := omega) only [AF]) | (with_reducible first | refine A6 ?_ ?_ ?_ | exact AC | refine SameB.upd ?_ ?_ _ | assumption | refine A2 ?_ | refine KM.of ?_ | refine AE ?_ | intro _g _hg | refine AD ?_ ?_ | intro _hc) | omega)
      exact hJ (q - 1) _ (by omega) ⟨1, by omega, by rw [e]; simp⟩
  · have hk0 : k = l.length := by omega
    subst hk0
    rw [List.take_length]
    repeat' (first | (simp -implicitDefEqProofs [GX, GV, GS, GT, GZ, c36, -getElem?_pos, A9]) | (simp (disch := omega) only [AF]) | (with_reducible first | refine A6 ?_ ?_ ?_ | exact AC | refine SameB.upd ?_ ?_ _ | assumption | refine A2 ?_ | refine KM.of ?_ | refine AE ?_ | intro _g _hg | refine AD ?_ ?_ | intro _hc) | omega)
abbrev aB (c : UInt8) : AV := .int .u8 c.toNat
theorem NB (c : UInt8) : APure Tryz.prog 154 [aB c] (.bool (BE c)) := by
  unfold BE
  by_cases h1 : 48 ≤ c.toNat
  · by_cases h2 : c.toNat ≤ 57
    · have h1' : (48 : Int) ≤ (c.toNat : Int) := by omega
      have h2' : (c.toNat : Int) ≤ 57 := by omega
      rw [decide_eq_true (⟨h1, h2⟩ : 48 ≤ c.toNat ∧ c.toNat ≤ 57)]
      refine A7 Tryz.func154 QG rfl fun n H hH => ?_
      repeat' (first | (simp -implicitDefEqProofs [c154, -getElem?_pos, A9, h1', h2']) | (simp (disch := omega) only [AF]) | (with_reducible first | refine A6 ?_ ?_ ?_ | exact AC | refine SameB.upd ?_ ?_ _ | assumption | refine A2 ?_ | refine KM.of ?_ | refine AE ?_ | intro _g _hg | refine AD ?_ ?_ | intro _hc) | omega)
    · have h1' : (48 : Int) ≤ (c.toNat : Int) := by omega
      have h2' : ¬ (c.toNat : Int) ≤ 57 := by omega
      rw [decide_eq_false (fun h => h2 h.2 : ¬ (48 ≤ c.toNat ∧ c.toNat ≤ 57))]
      refine A7 Tryz.func154 QG rfl fun n H hH => ?_
      repeat' (first | (simp -implicitDefEqProofs [c154, -getElem?_pos, A9, h1', h2']) | (simp (disch := omega) only [AF]) | (with_reducible first | refine A6 ?_ ?_ ?_ | exact AC | refine SameB.upd ?_ ?_ _ | assumption | refine A2 ?_ | refine KM.of ?_ | refine AE ?_ | intro _g _hg | refine AD ?_ ?_ | intro _hc) | omega)
  · have h1' : ¬ (48 : Int) ≤ (c.toNat : Int) := by omega
    rw [decide_eq_false (fun h => h1 h.1 : ¬ (48 ≤ c.toNat ∧ c.toNat ≤ 57))]
    refine A7 Tryz.func154 QG rfl fun n H hH => ?_
    repeat' (first | (simp -implicitDefEqProofs [c154, -getElem?_pos, A9, h1']) | (simp (disch := omega) only [AF]) | (with_reducible first | refine A6 ?_ ?_ ?_ | exact AC | refine SameB.upd ?_ ?_ _ | assumption | refine A2 ?_ | refine KM.of ?_ | refine AE ?_ | intro _g _hg | refine AD ?_ ?_ | intro _hc) | omega)
theorem QP {l : AM} (hl : ∀ c ∈ l, BE c = true) (h9 : l.length ≤ 9) : DU 0 l ≤ 999999999 := by
  have h1 := H5 l hl 0
  have h2 : 10 ^ l.length ≤ 10 ^ 9 := Nat.pow_le_pow_right (by omega) h9
  omega
theorem Sn {c : UInt8} (h : BE c = true) : 48 ≤ c.toNat ∧ c.toNat ≤ 57 := by unfold BE at h; simpa using h
theorem Ut (s : AM) (f : Nat) (hf : f = if s.head? = some 45 then 1 else 0) : G5 s = if (s.drop f).all BE = true ∧ (s.drop f).length ≤ 9 then ((if f = 1 then -(DU 0 (s.drop f) : Int) else DU 0 (s.drop f)), decide (f < s.length) && decide (Lib.itoa (if f = 1 then -(DU 0 (s.drop f) : Int) else DU 0 (s.drop f)) = s)) else (0, false) := by
  unfold G5; rw [hf]
theorem UO (c : UInt8) : c = 45 ↔ (c.toNat : Int) = 45 := by
  constructor
  · rintro rfl; decide
  · intro h
    have : c.toNat = (45 : UInt8).toNat := by have : (45 : UInt8).toNat = 45 := by decide
                                              omega
    exact UInt8.toNat_inj.1 this
theorem M8 {l : AM} {i : Nat} {y : UInt8} (h : l[i]? = some y) : l.take (i + 1) = l.take i ++ [y] := by rw [List.take_add_one, h]; rfl
theorem TY (s : AM) (hs : s.length ≤ 2000000) : APure Tryz.prog 116 [.str s] (.tup [aI (G5 s).1, .bool (G5 s).2]) := by
  have hcase : (s.length = 0 ∧ s.head? ≠ some 45) ∨ (∃ c, 0 < s.length ∧ s[0]? = some c ∧ ¬ (c.toNat : Int) = 45 ∧ s.head? ≠ some 45) ∨ (∃ c, 0 < s.length ∧ s[0]? = some c ∧ (c.toNat : Int) = 45 ∧ s.head? = some 45) := by
    cases s with
    | nil => exact .inl ⟨rfl, by simp⟩
    | cons c r =>
      by_cases h : c = 45
      · exact .inr (.inr ⟨c, by simp, rfl, (UO c).1 h, by simp [h]⟩)
      · exact .inr (.inl ⟨c, by simp, rfl, fun e => h ((UO c).2 e), by simp [h]⟩)
  obtain ⟨f, hf⟩ : ∃ f : Nat, f = (if s.head? = some 45 then 1 else 0) := ⟨_, rfl⟩
  have hR := Ut s f hf
  generalize G5 s = R at *
  have hfl : f ≤ s.length := by
    rw [hf]; split
    · rename_i h; cases s with | nil => simp at h | cons a b => simp
    · omega
  have hf1 : f = 0 ∨ f = 1 := by rw [hf]; split <;> simp
  refine A7 Tryz.func116 X4 rfl fun n H hH => ?_
  have main : ∀ e, get e 0 = .str s → get e 4 = aI f → aw Tryz.prog c116_k7 (ID (.tup [aI R.1, .bool R.2]) n H c116.res) ⟨e, n, H⟩ := by
    clear hcase hf
    intro e he0 he4
    repeat' (first | (simp -implicitDefEqProofs [CK, -getElem?_pos, A1, he0, he4]) | (simp (disch := omega) only [AF]) | (with_reducible first | refine A6 ?_ ?_ ?_ | exact AC | refine SameB.upd ?_ ?_ _ | assumption | refine A2 ?_ | refine KM.of ?_ | refine AE ?_ | intro _g _hg | refine AD ?_ ?_ | intro _hc) | omega)
    refine LoopK.go (fun q st => ∃ (i j : Nat), j = f + i ∧ j + q = s.length ∧ st = ⟨[(0, .str s), (4, aI f), (5, aI (DU 0 ((s.drop f).take i) : Nat)), (6, aI j)], n, H⟩ ∧ (∀ c ∈ (s.drop f).take i, BE c = true) ∧ i ≤ 9) (s.length - f) ⟨0, f, rfl, by omega, rfl, by simp, by omega⟩ ?_
    rintro q st ⟨i, j, hj, hkq, rfl, hdg, hi9⟩ J hJ
    have hbd := QP hdg (by rw [List.length_take]; omega)
    have hif : ((j : Int) - f) = i := by omega
    by_cases hlt : j < s.length
    · obtain ⟨y, hy⟩ : ∃ y, s[j]? = some y := ⟨_, List.getElem?_eq_getElem hlt⟩
      have hy2 : (s.drop f)[i]? = some y := by rw [List.getElem?_drop, ← hj]; exact hy
      have hdy := NB y
      have hlt2 : (j : Int) < s.length := by omega
      cases hd : BE y with
      | false =>
        rw [hd] at hdy
        have hno : ¬ ((s.drop f).all BE = true ∧ (s.drop f).length ≤ 9) := by
          rintro ⟨h1, _⟩
          have := List.all_eq_true.1 h1 y (List.mem_of_getElem? hy2)
          rw [hd] at this; cases this
        rw [if_neg hno] at hR
        subst hR
        repeat' (first | (simp -implicitDefEqProofs [CZ, CY, CV, CX, Cd, Cb, CK, c116, -getElem?_pos, A1, hy, hlt2]) | (simp (disch := omega) only [AF]) | ((with_reducible refine AH 154 ?_); (refine' CallP.sf ?_ (hdy) ?_); (focus first | (with_reducible exact A0 _) | (simp [AA, A9, A1, A0]; done))) | (with_reducible first | refine A6 ?_ ?_ ?_ | exact AC | refine SameB.upd ?_ ?_ _ | assumption | refine A2 ?_ | refine KM.of ?_ | refine AE ?_ | intro _g _hg | refine AD ?_ ?_ | intro _hc) | omega)
      | true =>
        rw [hd] at hdy
        by_cases h8 : i ≤ 8
        · have h8' : ¬ (8 : Int) < (j : Int) - f := by omega
          have h8'' : ¬ (8 : Int) < i := by omega
          have hb := Sn hd
          have hbd2 : DU 0 ((s.drop f).take i) ≤ 99999999 := by
            have h1 := H5 _ hdg 0
            have h2 : 10 ^ ((s.drop f).take i).length ≤ 10 ^ 8 := Nat.pow_le_pow_right (by omega) (by rw [List.length_take]; omega)
            omega
          have hnx : DU 0 ((s.drop f).take (i + 1)) = 10 * DU 0 ((s.drop f).take i) + (y.toNat - 48) := by rw [M8 hy2, MM]
          have hdg2 : ∀ c ∈ (s.drop f).take (i + 1), BE c = true := by
            rw [M8 hy2]; intro c hc
            rcases List.mem_append.1 hc with h | h
            · exact hdg c h
            · rw [List.mem_singleton.1 h]; exact hd
          generalize DU 0 ((s.drop f).take i) = v at *
          have hv2 : (10 : Int) * v + y.toNat - 48 = (DU 0 ((s.drop f).take (i + 1)) : Nat) := by rw [hnx]; omega
          repeat' (first | (simp -implicitDefEqProofs [CZ, CY, CV, CX, Cd, Cb, CK, c116, -getElem?_pos, A1, hy, hlt2, hif, h8', h8'']) | (simp (disch := omega) only [AF]) | ((with_reducible refine AH 154 ?_); (refine' CallP.sf ?_ (hdy) ?_); (focus first | (with_reducible exact A0 _) | (simp [AA, A9, A1, A0]; done))) | (with_reducible first | refine A6 ?_ ?_ ?_ | exact AC | refine SameB.upd ?_ ?_ _ | assumption | refine A2 ?_ | refine KM.of ?_ | refine AE ?_ | intro _g _hg | refine AD ?_ ?_ | intro _hc) | omega)
          exact hJ (q - 1) _ (by omega) ⟨i + 1, j + 1, by omega, by omega, by rw [hv2]; rfl, hdg2, by omega⟩
        · have h8' : (8 : Int) < (j : Int) - f := by omega
          have h8'' : (8 : Int) < i := by omega
          have hno : ¬ ((s.drop f).all BE = true ∧ (s.drop f).length ≤ 9) := by
            rintro ⟨_, h2⟩
            rw [List.length_drop] at h2; omega
          rw [if_neg hno] at hR
          subst hR
          repeat' (first | (simp -implicitDefEqProofs [CZ, CY, CV, CX, Cd, Cb, CK, c116, -getElem?_pos, A1, hy, hlt2, hif, h8', h8'']) | (simp (disch := omega) only [AF]) | ((with_reducible refine AH 154 ?_); (refine' CallP.sf ?_ (hdy) ?_); (focus first | (with_reducible exact A0 _) | (simp [AA, A9, A1, A0]; done))) | (with_reducible first | refine A6 ?_ ?_ ?_ | exact AC | refine SameB.upd ?_ ?_ _ | assumption | refine A2 ?_ | refine KM.of ?_ | refine AE ?_ | intro _g _hg | refine AD ?_ ?_ | intro _hc) | omega)
    · have hall : (s.drop f).take i = s.drop f := List.take_of_length_le (by rw [List.length_drop]; omega)
      have hln : f + i = s.length := by omega
      rw [hall] at hdg hbd ⊢
      rw [if_pos ⟨List.all_eq_true.2 hdg, by rw [List.length_drop]; omega⟩] at hR
      have hnl : ¬ (j : Int) < s.length := by omega
      generalize DU 0 (s.drop f) = v at *
      rcases hf1 with rfl | rfl
      · rw [if_neg (by omega)] at hR
        have hd := IL v (by omega)
        generalize Lib.itoa (v : Int) = t at *
        subst hR
        dsimp only
        by_cases h0 : 0 < s.length
        · by_cases ht : t = s
          · repeat' (first | (simp -implicitDefEqProofs [CZ, CY, CV, CX, Cd, Cb, CK, c116, -getElem?_pos, A1, hnl, h0, ht]) | (simp (disch := omega) only [AF]) | ((with_reducible refine AH 38 ?_); (refine' CallP.sf ?_ (hd) ?_); (focus first | (with_reducible exact A0 _) | (simp [AA, A9, A1, A0]; done))) | (with_reducible first | refine A6 ?_ ?_ ?_ | exact AC | refine SameB.upd ?_ ?_ _ | assumption | refine A2 ?_ | refine KM.of ?_ | refine AE ?_ | intro _g _hg | refine AD ?_ ?_ | intro _hc) | omega)
          · have htb : (t == s) = false := by simp [ht]
            repeat' (first | (simp -implicitDefEqProofs [CZ, CY, CV, CX, Cd, Cb, CK, c116, -getElem?_pos, A1, hnl, h0, ht, htb]) | (simp (disch := omega) only [AF]) | ((with_reducible refine AH 38 ?_); (refine' CallP.sf ?_ (hd) ?_); (focus first | (with_reducible exact A0 _) | (simp [AA, A9, A1, A0]; done))) | (with_reducible first | refine A6 ?_ ?_ ?_ | exact AC | refine SameB.upd ?_ ?_ _ | assumption | refine A2 ?_ | refine KM.of ?_ | refine AE ?_ | intro _g _hg | refine AD ?_ ?_ | intro _hc) | omega)
        · repeat' (first | (simp -implicitDefEqProofs [CZ, CY, CV, CX, Cd, Cb, CK, c116, -getElem?_pos, A1, hnl, h0]) | (simp (disch := omega) only [AF]) | ((with_reducible refine AH 38 ?_); (refine' CallP.sf ?_ (hd) ?_); (focus first | (with_reducible exact A0 _) | (simp [AA, A9, A1, A0]; done))) | (with_reducible first | refine A6 ?_ ?_ ?_ | exact AC | refine SameB.upd ?_ ?_ _ | assumption | refine A2 ?_ | refine KM.of ?_ | refine AE ?_ | intro _g _hg | refine AD ?_ ?_ | intro _hc) | omega)
      · rw [if_pos rfl] at hR
        have hd := IL (-(v : Int)) (by omega)
        generalize Lib.itoa (-(v : Int)) = t at *
        subst hR
        dsimp only
        by_cases h0 : 1 < s.length
        · have h0' : (1 : Int) < s.length := by omega
          by_cases ht : t = s
          · repeat' (first | (simp -implicitDefEqProofs [CZ, CY, CV, CX, Cd, Cb, CK, c116, -getElem?_pos, A1, hnl, h0, h0', ht]) | (simp (disch := omega) only [AF]) | ((with_reducible refine AH 38 ?_); (refine' CallP.sf ?_ (hd) ?_); (focus first | (with_reducible exact A0 _) | (simp [AA, A9, A1, A0]; done))) | (with_reducible first | refine A6 ?_ ?_ ?_ | exact AC | refine SameB.upd ?_ ?_ _ | assumption | refine A2 ?_ | refine KM.of ?_ | refine AE ?_ | intro _g _hg | refine AD ?_ ?_ | intro _hc) | omega)
          · have htb : (t == s) = false := by simp [ht]
            repeat' (first | (simp -implicitDefEqProofs [CZ, CY, CV, CX, Cd, Cb, CK, c116, -getElem?_pos, A1, hnl, h0, h0', ht, htb]) | (simp (disch := omega) only [AF]) | ((with_reducible refine AH 38 ?_); (refine' CallP.sf ?_ (hd) ?_); (focus first | (with_reducible exact A0 _) | (simp [AA, A9, A1, A0]; done))) | (with_reducible first | refine A6 ?_ ?_ ?_ | exact AC | refine SameB.upd ?_ ?_ _ | assumption | refine A2 ?_ | refine KM.of ?_ | refine AE ?_ | intro _g _hg | refine AD ?_ ?_ | intro _hc) | omega)
        · have h0' : ¬ (1 : Int) < s.length := by omega
          repeat' (first | (simp -implicitDefEqProofs [CZ, CY, CV, CX, Cd, Cb, CK, c116, -getElem?_pos, A1, hnl, h0, h0']) | (simp (disch := omega) only [AF]) | ((with_reducible refine AH 38 ?_); (refine' CallP.sf ?_ (hd) ?_); (focus first | (with_reducible exact A0 _) | (simp [AA, A9, A1, A0]; done))) | (with_reducible first | refine A6 ?_ ?_ ?_ | exact AC | refine SameB.upd ?_ ?_ _ | assumption | refine A2 ?_ | refine KM.of ?_ | refine AE ?_ | intro _g _hg | refine AD ?_ ?_ | intro _hc) | omega)
  rcases hcase with ⟨h0, hh⟩ | ⟨c, h0, hc, h45, hh⟩ | ⟨c, h0, hc, h45, hh⟩
  · rw [if_neg hh] at hf; subst hf
    repeat' (first | (simp -implicitDefEqProofs [c116, -getElem?_pos, A1, h0]) | (simp (disch := omega) only [AF]) | (with_reducible first | refine A6 ?_ ?_ ?_ | exact AC | refine SameB.upd ?_ ?_ _ | assumption | refine A2 ?_ | refine KM.of ?_ | refine AE ?_ | intro _g _hg | refine AD ?_ ?_ | intro _hc) | omega)
    all_goals exact main _ (by simp -implicitDefEqProofs [-getElem?_pos]) (by simp -implicitDefEqProofs [-getElem?_pos])
  · rw [if_neg hh] at hf; subst hf
    repeat' (first | (simp -implicitDefEqProofs [c116, -getElem?_pos, A1, h0, hc, h45]) | (simp (disch := omega) only [AF]) | (with_reducible first | refine A6 ?_ ?_ ?_ | exact AC | refine SameB.upd ?_ ?_ _ | assumption | refine A2 ?_ | refine KM.of ?_ | refine AE ?_ | intro _g _hg | refine AD ?_ ?_ | intro _hc) | omega)
    all_goals exact main _ (by simp -implicitDefEqProofs [-getElem?_pos]) (by simp -implicitDefEqProofs [-getElem?_pos])
  · rw [if_pos hh] at hf; subst hf
    repeat' (first | (simp -implicitDefEqProofs [c116, -getElem?_pos, A1, h0, hc, h45]) | (simp (disch := omega) only [AF]) | (with_reducible first | refine A6 ?_ ?_ ?_ | exact AC | refine SameB.upd ?_ ?_ _ | assumption | refine A2 ?_ | refine KM.of ?_ | refine AE ?_ | intro _g _hg | refine AD ?_ ?_ | intro _hc) | omega)
    all_goals exact main _ (by simp -implicitDefEqProofs [-getElem?_pos]) (by simp -implicitDefEqProofs [-getElem?_pos])
theorem AY {x y : AV} (h : x = y) : A9 x y := h ▸ A1 x
theorem WG (c i : Int) : APure Tryz.prog 27 [aI c, aI i] (aF (c, i)) := by
  refine A7 Tryz.func27 Y4 rfl fun n H hH => ?_
  repeat' (first | (simp -implicitDefEqProofs [c27, -getElem?_pos, aF, splice, A9, AA]) | (simp (disch := omega) only [AF]) | (with_reducible first | refine A6 ?_ ?_ ?_ | exact AC | refine SameB.upd ?_ ?_ _ | assumption | refine A2 ?_ | refine KM.of ?_ | refine AE ?_ | refine A5 ?_ | refine A8 ?_ | intro _g _hg | refine AD ?_ ?_ | intro _hc) | omega)
theorem YC (x a b : Int) : APure Tryz.prog 104 [aI x, aI a, aI b] (.bool (decide (a ≤ x) && decide (x ≤ b))) := by
  refine A7 Tryz.func104 Ww rfl fun n H hH => ?_
  repeat' (first | (simp -implicitDefEqProofs [c104, -getElem?_pos, A9]) | (simp (disch := omega) only [AF]) | (with_reducible first | refine A6 ?_ ?_ ?_ | exact AC | refine SameB.upd ?_ ?_ _ | assumption | refine A2 ?_ | refine KM.of ?_ | refine AE ?_ | intro _g _hg | refine AD ?_ ?_ | intro _hc) | omega)
theorem U1 (c : UInt8) : APure Tryz.prog 144 [aB c] (.bool (Hd c)) := by
  have hl : Hd c = ((decide ((97 : Int) ≤ c.toNat) && decide ((c.toNat : Int) ≤ 122)) || (decide ((65 : Int) ≤ c.toNat) && decide ((c.toNat : Int) ≤ 90)) || decide ((c.toNat : Int) = 95)) := by
    unfold Hd
    congr 1
    · congr 1
      · congr 1 <;> (apply decide_eq_decide.2; omega)
      · congr 1 <;> (apply decide_eq_decide.2; omega)
    · apply decide_eq_decide.2; omega
  obtain ⟨z, hz⟩ : ∃ z, Hd c = z := ⟨_, rfl⟩
  rw [hz] at hl ⊢
  refine A7 Tryz.func144 Wc rfl fun n H hH => ?_
  repeat' (first | (simp -implicitDefEqProofs [c144, -getElem?_pos]) | (simp (disch := omega) only [AF]) | (with_reducible first | refine A6 ?_ ?_ ?_ | exact AC | refine SameB.upd ?_ ?_ _ | assumption | refine A2 ?_ | refine KM.of ?_ | refine AE ?_ | intro _g _hg | refine AD ?_ ?_ | intro _hc) | omega)
  all_goals (refine AY ?_; rw [hl]; grind)
theorem Tu (c : UInt8) : APure Tryz.prog 145 [aB c] (.bool (BE c)) := by
  have hl : BE c = (decide ((48 : Int) ≤ c.toNat) && decide ((c.toNat : Int) ≤ 57)) := by
    unfold BE
    rw [← Bool.decide_and]; apply decide_eq_decide.2; omega
  obtain ⟨z, hz⟩ : ∃ z, BE c = z := ⟨_, rfl⟩
  rw [hz] at hl ⊢
  refine A7 Tryz.func145 X9 rfl fun n H hH => ?_
  repeat' (first | (simp -implicitDefEqProofs [c145, -getElem?_pos]) | (simp (disch := omega) only [AF]) | (with_reducible first | refine A6 ?_ ?_ ?_ | exact AC | refine SameB.upd ?_ ?_ _ | assumption | refine A2 ?_ | refine KM.of ?_ | refine AE ?_ | intro _g _hg | refine AD ?_ ?_ | intro _hc) | omega)
  all_goals first | (refine AY ?_; rw [hl]; done) | (refine AY ?_; rw [hl]; grind)
def Qq : AM := [105, 102, 32, 101, 97, 99, 104, 32, 105, 110, 32, 101, 108, 115, 101, 32, 101, 110, 100, 32, 111, 112, 101, 110]
theorem Ve : APure Tryz.prog 146 [] (Gp UW) := by
  have h := Ph Qq (by decide) (by decide) (by decide +kernel)
  have e : Lib.fields Qq = UW := by decide +kernel
  rw [e] at h
  have hw : Qq = [105, 102, 32, 101, 97, 99, 104, 32, 105, 110, 32, 101, 108, 115, 101, 32, 101, 110, 100, 32, 111, 112, 101, 110] := rfl
  rw [hw] at h
  generalize UW = K at *
  refine A7 Tryz.func146 Wn rfl fun n H hH => ?_
  repeat' (first | (simp -implicitDefEqProofs [c146, -getElem?_pos]) | (simp (disch := omega) only [AF]) | ((with_reducible refine AH 178 ?_); (refine' CallP.sf ?_ (h) ?_); (focus first | (with_reducible exact A0 _) | (simp [AA, A9, A1, A0]; done))) | (with_reducible first | refine A6 ?_ ?_ ?_ | exact AC | refine SameB.upd ?_ ?_ _ | assumption | refine A2 ?_ | refine KM.of ?_ | refine AE ?_ | intro _g _hg | refine AD ?_ ?_ | intro _hc) | omega)
  all_goals exact A1 _
def Dp (s : AM) : List AM → Nat → Int
  | [], _ => -1
  | x :: xs, k => if x = s then (k : Int) else Dp s xs (k + 1)
theorem IZ (s : AM) : ∀ (l : List AM) (k : Nat), 0 ≤ Dp s l k ↔ s ∈ l
  | [], _ => by simp [Dp]
  | x :: l, k => by
    unfold Dp
    split
    · rename_i h; simp [h]
    · rename_i h; rw [IZ s l (k + 1)]; simp [Ne.symm h]
theorem TN (l : List AM) (x : AM) (hmx : l.length ≤ 140737488355328) : APure Tryz.prog 91 [Gp l, .str x] (.int .i64 (Dp x l 0)) := by
  refine A7 Tryz.func91 YI rfl fun n H hH => ?_
  repeat' (first | (simp -implicitDefEqProofs [c91, -getElem?_pos, A9]) | (simp (disch := omega) only [AF]) | (with_reducible first | refine A6 ?_ ?_ ?_ | exact AC | refine SameB.upd ?_ ?_ _ | assumption | refine A2 ?_ | refine KM.of ?_ | refine AE ?_ | intro _g _hg | refine AD ?_ ?_ | intro _hc) | omega)
  refine LoopK.go (fun m s => ∃ (k : Nat), k + m = l.length ∧ s = ⟨[(0, Gp l), (1, .str x), (7, .int .i64 l.length), (8, .int .i64 k)], n, H⟩ ∧ Dp x l 0 = Dp x (l.drop k) k) l.length ⟨0, by omega, rfl, by simp⟩ ?_
  rintro m s ⟨k, hkm, rfl, hE⟩ J hJ
  by_cases hk : k < l.length
  · obtain ⟨y, hy⟩ : ∃ y, l[k]? = some y := ⟨_, List.getElem?_eq_getElem hk⟩
    rw [drop_at hy, Dp] at hE
    repeat' (first | (simp -implicitDefEqProofs [MK, MA, MC, M4, c91, -getElem?_pos, A9, hy]) | (simp (disch := omega) only [AF]) | (with_reducible first | refine A6 ?_ ?_ ?_ | exact AC | refine SameB.upd ?_ ?_ _ | assumption | refine A2 ?_ | refine KM.of ?_ | refine AE ?_ | intro _g _hg | refine AD ?_ ?_ | intro _hc) | omega)
    · rw [hE, if_pos (by simp_all)]
    · exact hJ (m - 1) _ (by omega) ⟨k + 1, by omega, rfl, by rw [hE, if_neg (fun h => ?_)]; simp_all⟩
  · have hk0 : k = l.length := by omega
    subst hk0
    simp [Dp] at hE
    repeat' (first | (simp -implicitDefEqProofs [MK, MA, MC, M4, c91, -getElem?_pos, A9, hE]) | (simp (disch := omega) only [AF]) | (with_reducible first | refine A6 ?_ ?_ ?_ | exact AC | refine SameB.upd ?_ ?_ _ | assumption | refine A2 ?_ | refine KM.of ?_ | refine AE ?_ | intro _g _hg | refine AD ?_ ?_ | intro _hc) | omega)
theorem Q3 (l : List AM) (x : AM) (hmx : l.length ≤ 140737488355328) : APure Tryz.prog 53 [Gp l, .str x] (.bool (decide (x ∈ l))) := by
  have h : decide (x ∈ l) = decide (0 ≤ Dp x l 0) := decide_eq_decide.2 (IZ x l 0).symm
  rw [h]
  refine A7 Tryz.func53 Xz rfl fun n H hH => ?_
  repeat' (first | (simp -implicitDefEqProofs [c53, -getElem?_pos, A9]) | (simp (disch := omega) only [AF]) | ((with_reducible refine AH 91 ?_); (refine' CallP.sf ?_ (TN l x hmx) ?_); (focus first | (with_reducible exact A0 _) | (simp [AA, A9, A1, A0]; done))) | (with_reducible first | refine A6 ?_ ?_ ?_ | exact AC | refine SameB.upd ?_ ?_ _ | assumption | refine A2 ?_ | refine KM.of ?_ | refine AE ?_ | intro _g _hg | refine AD ?_ ?_ | intro _hc) | omega)
def Ua (i : Nat) (c : UInt8) : Bool := Hd c || (decide (i ≠ 0) && BE c)
def Lp : Nat → AM → Bool
  | _, [] => true
  | i, c :: r => Ua i c && Lp (i + 1) r
theorem RV : ∀ (r : AM) (i : Nat), 0 < i → Lp i r = r.all fun c => Hd c || BE c
  | [], _, _ => rfl
  | c :: r, i, h => by
    have : decide (i ≠ 0) = true := decide_eq_true (by omega)
    simp only [Lp, List.all_cons, Ua, this, Bool.true_and, RV r (i + 1) (by omega)]
theorem UZ {c : UInt8} (h : BE c = true) : Hd c = false := by
  unfold BE at h
  simp only [decide_eq_true_eq] at h
  unfold Hd
  simp only [Bool.or_eq_false_iff, Bool.and_eq_false_iff, decide_eq_false_iff_not]
  exact ⟨⟨by omega, by omega⟩, by omega⟩
theorem TG {s : AM} : Gn s = (decide (s ≠ []) && decide (s.length ≤ 24) && Lp 0 s) := by
  unfold Gn
  cases s with
  | nil => rfl
  | cons c r =>
    simp only [List.headD_cons, Lp, List.all_cons, Ua, RV r 1 (by omega), ne_eq, not_true, decide_false, Bool.false_and, Bool.or_false]
    cases h : BE c with
    | true => rw [UZ h]; simp
    | false => simp [Bool.and_assoc]
theorem OR (s : AM) (hs : s.length ≤ 2000000) : APure Tryz.prog 107 [.str s] (.bool (HS s)) := by
  have hw := Ve
  have hcon := Q3 UW s (by decide)
  have hid : HS s = (decide (s ≠ []) && decide (s.length ≤ 24) && Lp 0 s && !decide (s ∈ UW)) := by unfold HS; rw [TG]
  rw [hid]
  generalize UW = K at *
  refine A7 Tryz.func107 WZ rfl fun n H hH => ?_
  repeat' (first | (simp -implicitDefEqProofs [c107, -getElem?_pos, A9]) | (simp (disch := omega) only [AF]) | (with_reducible first | refine A6 ?_ ?_ ?_ | exact AC | refine SameB.upd ?_ ?_ _ | assumption | refine A2 ?_ | refine KM.of ?_ | refine AE ?_ | intro _g _hg | refine AD ?_ ?_ | intro _hc) | omega)
  refine LoopK.go (fun m st => ∃ (k : Nat), k + m = s.length ∧ st = ⟨[(0, .str s), (5, aI s.length), (6, aI k)], n, H⟩ ∧ Lp 0 s = Lp k (s.drop k)) s.length ⟨0, by omega, rfl, by simp⟩ ?_
  rintro m st ⟨k, hkm, rfl, hE⟩ J hJ
  by_cases hk : k < s.length
  · obtain ⟨y, hy⟩ : ∃ y, s[k]? = some y := ⟨_, List.getElem?_eq_getElem hk⟩
    rw [drop_at hy, Lp] at hE
    have hl := U1 y
    have hd := Tu y
    have hk' : (k : Int) < s.length := by omega
    unfold Ua at hE
    generalize Hd y = bl at *
    generalize BE y = bd at *
    by_cases h0 : k = 0
    · subst h0
      have hk0 : (0 : Int) < s.length := hk'
      have hne : ¬ s = [] := fun e => by rw [e] at hk; simp at hk
      cases bl
      · repeat' (first | (simp -implicitDefEqProofs [DA, DD, DB, DC, c107, -getElem?_pos, hy, hk, hk0, hne]) | (simp (disch := omega) only [AF]) | ((with_reducible refine AH 144 ?_); (refine' CallP.sf ?_ (hl) ?_); (focus first | (with_reducible exact A0 _) | (simp [AA, A9, A1, A0]; done))) | ((with_reducible refine AH 145 ?_); (refine' CallP.sf ?_ (hd) ?_); (focus first | (with_reducible exact A0 _) | (simp [AA, A9, A1, A0]; done))) | (with_reducible first | refine A6 ?_ ?_ ?_ | exact AC | refine SameB.upd ?_ ?_ _ | assumption | refine A2 ?_ | refine KM.of ?_ | refine AE ?_ | intro _g _hg | refine AD ?_ ?_ | intro _hc) | omega)
        all_goals (refine AY ?_; rw [hE]; simp)
      · repeat' (first | (simp -implicitDefEqProofs [DA, DD, DB, DC, c107, -getElem?_pos, hy, hk, hk0, hne]) | (simp (disch := omega) only [AF]) | ((with_reducible refine AH 144 ?_); (refine' CallP.sf ?_ (hl) ?_); (focus first | (with_reducible exact A0 _) | (simp [AA, A9, A1, A0]; done))) | ((with_reducible refine AH 145 ?_); (refine' CallP.sf ?_ (hd) ?_); (focus first | (with_reducible exact A0 _) | (simp [AA, A9, A1, A0]; done))) | (with_reducible first | refine A6 ?_ ?_ ?_ | exact AC | refine SameB.upd ?_ ?_ _ | assumption | refine A2 ?_ | refine KM.of ?_ | refine AE ?_ | intro _g _hg | refine AD ?_ ?_ | intro _hc) | omega)
        exact hJ (m - 1) _ (by omega) ⟨1, by omega, rfl, by rw [hE]; simp⟩
    · have h0' : ¬ (k : Int) = 0 := by omega
      cases bl <;> cases bd
      · repeat' (first | (simp -implicitDefEqProofs [DA, DD, DB, DC, c107, -getElem?_pos, hy, hk', h0']) | (simp (disch := omega) only [AF]) | ((with_reducible refine AH 144 ?_); (refine' CallP.sf ?_ (hl) ?_); (focus first | (with_reducible exact A0 _) | (simp [AA, A9, A1, A0]; done))) | ((with_reducible refine AH 145 ?_); (refine' CallP.sf ?_ (hd) ?_); (focus first | (with_reducible exact A0 _) | (simp [AA, A9, A1, A0]; done))) | (with_reducible first | refine A6 ?_ ?_ ?_ | exact AC | refine SameB.upd ?_ ?_ _ | assumption | refine A2 ?_ | refine KM.of ?_ | refine AE ?_ | intro _g _hg | refine AD ?_ ?_ | intro _hc) | omega)
        all_goals (refine AY ?_; rw [hE]; simp)
      · repeat' (first | (simp -implicitDefEqProofs [DA, DD, DB, DC, c107, -getElem?_pos, hy, hk', h0']) | (simp (disch := omega) only [AF]) | ((with_reducible refine AH 144 ?_); (refine' CallP.sf ?_ (hl) ?_); (focus first | (with_reducible exact A0 _) | (simp [AA, A9, A1, A0]; done))) | ((with_reducible refine AH 145 ?_); (refine' CallP.sf ?_ (hd) ?_); (focus first | (with_reducible exact A0 _) | (simp [AA, A9, A1, A0]; done))) | (with_reducible first | refine A6 ?_ ?_ ?_ | exact AC | refine SameB.upd ?_ ?_ _ | assumption | refine A2 ?_ | refine KM.of ?_ | refine AE ?_ | intro _g _hg | refine AD ?_ ?_ | intro _hc) | omega)
        exact hJ (m - 1) _ (by omega) ⟨k + 1, by omega, rfl, by rw [hE]; simp [h0]⟩
      · repeat' (first | (simp -implicitDefEqProofs [DA, DD, DB, DC, c107, -getElem?_pos, hy, hk', h0']) | (simp (disch := omega) only [AF]) | ((with_reducible refine AH 144 ?_); (refine' CallP.sf ?_ (hl) ?_); (focus first | (with_reducible exact A0 _) | (simp [AA, A9, A1, A0]; done))) | ((with_reducible refine AH 145 ?_); (refine' CallP.sf ?_ (hd) ?_); (focus first | (with_reducible exact A0 _) | (simp [AA, A9, A1, A0]; done))) | (with_reducible first | refine A6 ?_ ?_ ?_ | exact AC | refine SameB.upd ?_ ?_ _ | assumption | refine A2 ?_ | refine KM.of ?_ | refine AE ?_ | intro _g _hg | refine AD ?_ ?_ | intro _hc) | omega)
        exact hJ (m - 1) _ (by omega) ⟨k + 1, by omega, rfl, by rw [hE]; simp⟩
      · repeat' (first | (simp -implicitDefEqProofs [DA, DD, DB, DC, c107, -getElem?_pos, hy, hk', h0']) | (simp (disch := omega) only [AF]) | ((with_reducible refine AH 144 ?_); (refine' CallP.sf ?_ (hl) ?_); (focus first | (with_reducible exact A0 _) | (simp [AA, A9, A1, A0]; done))) | ((with_reducible refine AH 145 ?_); (refine' CallP.sf ?_ (hd) ?_); (focus first | (with_reducible exact A0 _) | (simp [AA, A9, A1, A0]; done))) | (with_reducible first | refine A6 ?_ ?_ ?_ | exact AC | refine SameB.upd ?_ ?_ _ | assumption | refine A2 ?_ | refine KM.of ?_ | refine AE ?_ | intro _g _hg | refine AD ?_ ?_ | intro _hc) | omega)
        exact hJ (m - 1) _ (by omega) ⟨k + 1, by omega, rfl, by rw [hE]; simp⟩
  · have hk0 : k = s.length := by omega
    subst hk0
    have hk' : ¬ (s.length : Int) < s.length := by omega
    rw [List.drop_length] at hE
    simp only [Lp] at hE
    rw [hE]
    repeat' (first | (simp -implicitDefEqProofs [DA, DD, DB, DC, c107, -getElem?_pos, hk']) | (simp (disch := omega) only [AF]) | ((with_reducible refine AH 146 ?_); (refine' CallP.sf ?_ (hw) ?_); (focus first | (with_reducible exact A0 _) | (simp [AA, A9, A1, A0]; done))) | ((with_reducible refine AH 53 ?_); (refine' CallP.sf ?_ (hcon) ?_); (focus first | (with_reducible exact A0 _) | (simp [AA, A9, A1, A0]; done))) | (with_reducible first | refine A6 ?_ ?_ ?_ | exact AC | refine SameB.upd ?_ ?_ _ | assumption | refine A2 ?_ | refine KM.of ?_ | refine AE ?_ | intro _g _hg | refine AD ?_ ?_ | intro _hc) | omega)
    all_goals (refine AY ?_; grind)
theorem S9 (u : Nat) : (Lib.decDigits u).length ≤ 3 ↔ u ≤ 999 := by
  rw [Lib.decDigits_length]
  constructor
  · intro h
    have h1 := Lib.lt_pow_nDigits u
    have h2 : 10 ^ Lib.nDigits u ≤ 10 ^ 3 := Nat.pow_le_pow_right (by omega) h
    omega
  · intro h
    exact EK 2 u (by omega)
def LD (s : AM) (m : Int) : Bool := match Lib.atoiAll s with
  | .ok v => decide ((s.length : Int) ≤ m) && decide (0 ≤ v) && decide (Lib.itoa v = s)
  | _ => false
theorem Tg {s : AM} {m : Nat} (hm : m = 3 ∨ m = 9) : LD s m = ((DW s).2 && decide (0 ≤ (DW s).1) && decide ((DW s).1 < 10 ^ m)) := by
  unfold LD DW
  split
  · rename_i v hv
    by_cases h : Lib.itoa v = s
    · by_cases h0 : 0 ≤ v
      · obtain ⟨u, rfl⟩ : ∃ u : Nat, v = (u : Int) := ⟨v.toNat, by omega⟩
        have ht := IB (u : Int)
        rw [h] at ht
        simp only [hv, h, decide_true, Bool.true_and, Bool.and_true, ht]
        have hs : s = Lib.decDigits u := by rw [← h, Lib.itoa_nonneg]
        have e2 : ((u : Int).natAbs) = u := by omega
        rw [e2, hs]
        have h3 := S9 u
        have h9 := HL u
        rcases hm with rfl | rfl
        · have : decide ((Lib.decDigits u).length ≤ 9) = true ∨ ¬ (u ≤ 999) := by
            by_cases hu : u ≤ 999
            · exact .inl (decide_eq_true (by omega))
            · exact .inr hu
          rcases this with h4 | h4
          · rw [h4]; simp only [Bool.true_and]
            by_cases hu : u ≤ 999
            · rw [decide_eq_true (by omega), decide_eq_true (by omega), decide_eq_true (by omega)]
              all_goals rfl
            · rw [decide_eq_false (by omega), decide_eq_false (p := _ < _) (by omega)]; simp
          · rw [decide_eq_false (p := (((Lib.decDigits u).length : Nat) : Int) ≤ _) (by omega), decide_eq_false (p := (u : Int) < _) (by omega)]; simp
        · by_cases hu : u ≤ 999999999
          · rw [decide_eq_true (by omega), decide_eq_true (by omega), decide_eq_true (by omega), decide_eq_true (by omega)]
            all_goals rfl
          · rw [decide_eq_false (p := (((Lib.decDigits u).length : Nat) : Int) ≤ _) (by omega), decide_eq_false (p := (u : Int) < _) (by omega)]; simp
      · simp only [hv, h0, decide_false, Bool.and_false, Bool.false_and]
    · simp only [hv, h, decide_false, Bool.and_false, Bool.false_and]
  · rename_i h
    split
    · rename_i v hv; exact absurd hv (h v)
    · rfl
    · rfl
theorem V8 (s : AM) : LD s 3 = R5 s := by
  have h := Tg (s := s) (m := 3) (.inl rfl)
  have e : LD s 3 = LD s ((3 : Nat) : Int) := rfl
  rw [e, h]
  unfold R5
  congr 1
  apply decide_eq_decide.2; omega
theorem SZ (s : AM) (m : Int) (hs : s.length ≤ 2000000) : APure Tryz.prog 114 [.str s, aI m] (.bool (LD s m)) := by
  cases h : Lib.atoiAll s with
  | ok v =>
    have ha := RM h hs
    have hb := Lib.atoiAll_bounds h
    have hi := QX v hb
    unfold LD
    rw [h]
    simp only
    generalize Lib.itoa v = iv at *
    refine A7 Tryz.func114 QT rfl fun n H hH => ?_
    repeat' (first | (simp -implicitDefEqProofs [c114, -getElem?_pos]) | (simp (disch := omega) only [AF]) | ((with_reducible refine AH 115 ?_); (refine' CallP.sf ?_ (ha) ?_); (focus first | (with_reducible exact A0 _) | (simp [AA, A9, A1, A0]; done))) | ((with_reducible refine AH 65 ?_); (refine' CallP.sf ?_ (hi) ?_); (focus first | (with_reducible exact A0 _) | (simp [AA, A9, A1, A0]; done))) | (with_reducible first | refine A6 ?_ ?_ ?_ | exact AC | refine SameB.upd ?_ ?_ _ | assumption | refine A2 ?_ | refine KM.of ?_ | refine AE ?_ | intro _g _hg | refine AD ?_ ?_ | intro _hc) | omega)
    all_goals (refine AY ?_; grind)
  | range =>
    have ha := U2 h hs
    generalize Lib.atoiSat s = z at *
    have hd : LD s m = false := by unfold LD; rw [h]
    rw [hd]
    refine A7 Tryz.func114 QT rfl fun n H hH => ?_
    repeat' (first | (simp -implicitDefEqProofs [c114, -getElem?_pos]) | (simp (disch := omega) only [AF]) | ((with_reducible refine AH 115 ?_); (refine' CallP.sf ?_ (ha) ?_); (focus first | (with_reducible exact A0 _) | (simp [AA, A9, A1, A0]; done))) | (with_reducible first | refine A6 ?_ ?_ ?_ | exact AC | refine SameB.upd ?_ ?_ _ | assumption | refine A2 ?_ | refine KM.of ?_ | refine AE ?_ | intro _g _hg | refine AD ?_ ?_ | intro _hc) | omega)
    all_goals exact A1 _
  | _ =>
    have ha := Tr (s := s) (by rw [h]; intro v e; cases e) (by rw [h]; intro e; cases e) hs
    have hd : LD s m = false := by unfold LD; rw [h]
    rw [hd]
    refine A7 Tryz.func114 QT rfl fun n H hH => ?_
    repeat' (first | (simp -implicitDefEqProofs [c114, -getElem?_pos]) | (simp (disch := omega) only [AF]) | ((with_reducible refine AH 115 ?_); (refine' CallP.sf ?_ (ha) ?_); (focus first | (with_reducible exact A0 _) | (simp [AA, A9, A1, A0]; done))) | (with_reducible first | refine A6 ?_ ?_ ?_ | exact AC | refine SameB.upd ?_ ?_ _ | assumption | refine A2 ?_ | refine KM.of ?_ | refine AE ?_ | intro _g _hg | refine AD ?_ ?_ | intro _hc) | omega)
    all_goals exact A1 _
def Ig (s : AM) : Bool := !HS s && !R5 s
theorem WT (s : AM) (hs : s.length ≤ 2000000) : APure Tryz.prog 148 [.str s] (.bool (Ig s)) := by
  show APure Tryz.prog 148 [.str s] (.bool (!HS s && !R5 s))
  have h1 := OR s hs
  have h2 := SZ s 3 hs
  rw [V8] at h2
  generalize HS s = a at *
  generalize R5 s = b at *
  refine A7 Tryz.func148 WX rfl fun n H hH => ?_
  cases a
  · repeat' (first | (simp -implicitDefEqProofs [c148, -getElem?_pos]) | (simp (disch := omega) only [AF]) | ((with_reducible refine AH 107 ?_); (refine' CallP.sf ?_ (h1) ?_); (focus first | (with_reducible exact A0 _) | (simp [AA, A9, A1, A0]; done))) | ((with_reducible refine AH 114 ?_); (refine' CallP.sf ?_ (h2) ?_); (focus first | (with_reducible exact A0 _) | (simp [AA, A9, A1, A0]; done))) | (with_reducible first | refine A6 ?_ ?_ ?_ | exact AC | refine SameB.upd ?_ ?_ _ | assumption | refine A2 ?_ | refine KM.of ?_ | refine AE ?_ | intro _g _hg | refine AD ?_ ?_ | intro _hc) | omega)
    all_goals exact A1 _
  · repeat' (first | (simp -implicitDefEqProofs [c148, -getElem?_pos]) | (simp (disch := omega) only [AF]) | ((with_reducible refine AH 107 ?_); (refine' CallP.sf ?_ (h1) ?_); (focus first | (with_reducible exact A0 _) | (simp [AA, A9, A1, A0]; done))) | ((with_reducible refine AH 114 ?_); (refine' CallP.sf ?_ (h2) ?_); (focus first | (with_reducible exact A0 _) | (simp [AA, A9, A1, A0]; done))) | (with_reducible first | refine A6 ?_ ?_ ?_ | exact AC | refine SameB.upd ?_ ?_ _ | assumption | refine A2 ?_ | refine KM.of ?_ | refine AE ?_ | intro _g _hg | refine AD ?_ ?_ | intro _hc) | omega)
    all_goals exact A1 _
theorem Ok {d : Option Nat} {K : AS → Prop} {en : AK} {n : Nat} {H : A3} {xs a b : List AV} {f : Nat} (hc : DQ Tryz.prog f = true) : D4 Tryz.prog d K en n H xs (.fn f a b) = CallK Tryz.prog f (a ++ xs ++ b) d K ⟨en, n, H⟩ := propext ⟨fun h => h.2, fun h => ⟨hc, h⟩⟩
theorem step_ok : DQ Tryz.prog 148 = true := by kernel_rfl
def VP : List AM → Int → Int
  | [], _ => -1
  | s :: r, i => if Ig s = true then i else VP r (i + 1)
theorem Rt : ∀ (p : List AM) (i : Int), 0 ≤ i → (decide (0 ≤ VP p i) = p.any Ig)
  | [], i, _ => rfl
  | s :: r, i, hi => by
    simp only [VP, List.any_cons]
    split
    · rename_i h; simp [h, hi]
    · rename_i h; rw [Rt r (i + 1) (by omega)]; simp [h]
theorem T5 (p : List AM) (hl : p.length ≤ 140737488355328) (hb : ∀ s ∈ p, s.length ≤ 2000000) : APure Tryz.prog 179 [Gp p, .fn 148 [] []] (aI (VP p 0)) := by
  
  refine A7 Tryz.func179 Wk rfl fun n H hH => ?_
  repeat' (first | (simp -implicitDefEqProofs [c179, -getElem?_pos]) | (simp (disch := omega) only [AF]) | (with_reducible first | refine A6 ?_ ?_ ?_ | exact AC | refine SameB.upd ?_ ?_ _ | assumption | refine A2 ?_ | refine KM.of ?_ | refine AE ?_ | intro _g _hg | refine AD ?_ ?_ | intro _hc) | omega)
  refine LoopK.go (fun r st => ∃ j : Nat, j + r = p.length ∧ st = ⟨[(0, Gp p), (1, .fn 148 [] []), (7, aI p.length), (8, aI j)], n, H⟩ ∧ VP p 0 = VP (p.drop j) j) p.length ⟨0, by omega, by simp, rfl⟩ ?_
  rintro r st ⟨j, hj, rfl, hE⟩ J hJ
  by_cases hjl : j < p.length
  · obtain ⟨x, hx⟩ : ∃ x, p[j]? = some x := ⟨_, List.getElem?_eq_getElem hjl⟩
    have hjl' : (j : Int) < p.length := by omega
    have hch := WT x (hb x (List.mem_of_getElem? hx))
    rw [drop_at hx] at hE
    simp only [VP] at hE
    generalize Ig x = bb at *
    cases bb
    · 
      repeat' (first | (simp -implicitDefEqProofs [HC, Gx, Gv, HD, c179, -getElem?_pos, hx, hjl', Ok step_ok, -D4]) | (simp (disch := omega) only [AF]) | ((with_reducible refine Bj 148 ?_); (refine' CallK.sfAt ?_ (hch.at_ _ _) ?_); (focus first | (with_reducible exact A0 _) | (simp [AA, A9, A1, A0]; done))) | (with_reducible first | refine A6 ?_ ?_ ?_ | exact AC | refine SameB.upd ?_ ?_ _ | assumption | refine A2 ?_ | refine KM.of ?_ | refine AE ?_ | intro _g _hg | refine AD ?_ ?_ | intro _hc) | omega)
      exact hJ (r - 1) _ (by omega) ⟨j + 1, by omega, rfl, by rw [hE]; rfl⟩
    · rw [hE]
      
      repeat' (first | (simp -implicitDefEqProofs [HC, Gx, Gv, HD, c179, -getElem?_pos, hx, hjl', Ok step_ok, -D4]) | (simp (disch := omega) only [AF]) | ((with_reducible refine Bj 148 ?_); (refine' CallK.sfAt ?_ (hch.at_ _ _) ?_); (focus first | (with_reducible exact A0 _) | (simp [AA, A9, A1, A0]; done))) | (with_reducible first | refine A6 ?_ ?_ ?_ | exact AC | refine SameB.upd ?_ ?_ _ | assumption | refine A2 ?_ | refine KM.of ?_ | refine AE ?_ | intro _g _hg | refine AD ?_ ?_ | intro _hc) | omega)
      all_goals exact A1 _
  · have hjl' : ¬ (j : Int) < p.length := by omega
    rw [List.drop_eq_nil_of_le (by omega)] at hE
    rw [hE]
    
    repeat' (first | (simp -implicitDefEqProofs [HC, Gx, Gv, HD, c179, -getElem?_pos, hjl', VP]) | (simp (disch := omega) only [AF]) | (with_reducible first | refine A6 ?_ ?_ ?_ | exact AC | refine SameB.upd ?_ ?_ _ | assumption | refine A2 ?_ | refine KM.of ?_ | refine AE ?_ | intro _g _hg | refine AD ?_ ?_ | intro _hc) | omega)
    all_goals exact A1 _
theorem Pm (p : List AM) (hl : p.length ≤ 140737488355328) (hb : ∀ s ∈ p, s.length ≤ 2000000) : APure Tryz.prog 147 [Gp p, .fn 148 [] []] (.bool (p.any Ig)) := by
  have h := T5 p hl hb
  rw [← Rt p 0 (by omega)]
  generalize VP p 0 = i at *
  
  refine A7 Tryz.func147 WL rfl fun n H hH => ?_
  repeat' (first | (simp -implicitDefEqProofs [c147, -getElem?_pos]) | (simp (disch := omega) only [AF]) | ((with_reducible refine Bj 179 ?_); (refine' CallK.sfAt ?_ (h.at_ _ _) ?_); (focus first | (with_reducible exact A0 _) | (simp [AA, A9, A1, A0]; done))) | (with_reducible first | refine A6 ?_ ?_ ?_ | exact AC | refine SameB.upd ?_ ?_ _ | assumption | refine A2 ?_ | refine KM.of ?_ | refine AE ?_ | intro _g _hg | refine AD ?_ ?_ | intro _hc) | omega)
  all_goals exact A1 _
theorem WE (p : List AM) (hb : ∀ s ∈ p, s.length ≤ 2000000) (hl : p.length ≤ 140737488355328) : APure Tryz.prog 108 [Gp p] (.bool (DN p)) := by
  cases p with
  | nil =>
    have e : DN [] = false := rfl
    rw [e]
    refine A7 Tryz.func108 TS rfl fun n H hH => ?_
    repeat' (first | (simp -implicitDefEqProofs [EI, c108, -getElem?_pos]) | (simp (disch := omega) only [AF]) | (with_reducible first | refine A6 ?_ ?_ ?_ | exact AC | refine SameB.upd ?_ ?_ _ | assumption | refine A2 ?_ | refine KM.of ?_ | refine AE ?_ | intro _g _hg | refine AD ?_ ?_ | intro _hc) | omega)
    all_goals exact A1 _
  | cons h t =>
    have h1 := OR h (hb h List.mem_cons_self)
    have hc := (Pm (h :: t) hl hb).at_
    have e : DN (h :: t) = (decide ((t.length : Int) + 1 ≤ 8) && HS h && !(h :: t).any Ig) := by
      have : (decide (t.length ≤ 7)) = decide ((t.length : Int) + 1 ≤ 8) := decide_eq_decide.2 (by omega)
      simp only [DN, this, List.any_cons, Ig]
      cases HS h <;> simp [List.all_eq_not_any_not]
      rfl
    rw [e]
    generalize (h :: t).any Ig = bb at *
    generalize HS h = ba at *
    have hg : (UP (h :: t))[0]? = some (.str h) := rfl
    refine A7 Tryz.func108 TS rfl fun n H hH => ?_
    cases ba <;> cases bb
    · repeat' (first | (simp -implicitDefEqProofs [EI, c108, -getElem?_pos]) | (simp (disch := omega) only [AF]) | ((with_reducible refine AH 107 ?_); (refine' CallP.sf ?_ (h1) ?_); (focus first | (with_reducible exact A0 _) | (simp [AA, A9, A1, A0]; done))) | ((with_reducible refine Bj 147 ?_); (refine' CallK.sfAt ?_ (hc _ _) ?_); (focus first | (with_reducible exact A0 _) | (simp [AA, A9, A1, A0]; done))) | (with_reducible first | refine A6 ?_ ?_ ?_ | exact AC | refine SameB.upd ?_ ?_ _ | assumption | refine A2 ?_ | refine KM.of ?_ | refine AE ?_ | intro _g _hg | refine AD ?_ ?_ | intro _hc) | omega)
      all_goals (refine AY ?_; grind)
    · repeat' (first | (simp -implicitDefEqProofs [EI, c108, -getElem?_pos]) | (simp (disch := omega) only [AF]) | ((with_reducible refine AH 107 ?_); (refine' CallP.sf ?_ (h1) ?_); (focus first | (with_reducible exact A0 _) | (simp [AA, A9, A1, A0]; done))) | ((with_reducible refine Bj 147 ?_); (refine' CallK.sfAt ?_ (hc _ _) ?_); (focus first | (with_reducible exact A0 _) | (simp [AA, A9, A1, A0]; done))) | (with_reducible first | refine A6 ?_ ?_ ?_ | exact AC | refine SameB.upd ?_ ?_ _ | assumption | refine A2 ?_ | refine KM.of ?_ | refine AE ?_ | intro _g _hg | refine AD ?_ ?_ | intro _hc) | omega)
      all_goals (refine AY ?_; grind)
    · repeat' (first | (simp -implicitDefEqProofs [EI, c108, -getElem?_pos]) | (simp (disch := omega) only [AF]) | ((with_reducible refine AH 107 ?_); (refine' CallP.sf ?_ (h1) ?_); (focus first | (with_reducible exact A0 _) | (simp [AA, A9, A1, A0]; done))) | ((with_reducible refine Bj 147 ?_); (refine' CallK.sfAt ?_ (hc _ _) ?_); (focus first | (with_reducible exact A0 _) | (simp [AA, A9, A1, A0]; done))) | (with_reducible first | refine A6 ?_ ?_ ?_ | exact AC | refine SameB.upd ?_ ?_ _ | assumption | refine A2 ?_ | refine KM.of ?_ | refine AE ?_ | intro _g _hg | refine AD ?_ ?_ | intro _hc) | omega)
      all_goals (refine AY ?_; grind)
    · repeat' (first | (simp -implicitDefEqProofs [EI, c108, -getElem?_pos]) | (simp (disch := omega) only [AF]) | ((with_reducible refine AH 107 ?_); (refine' CallP.sf ?_ (h1) ?_); (focus first | (with_reducible exact A0 _) | (simp [AA, A9, A1, A0]; done))) | ((with_reducible refine Bj 147 ?_); (refine' CallK.sfAt ?_ (hc _ _) ?_); (focus first | (with_reducible exact A0 _) | (simp [AA, A9, A1, A0]; done))) | (with_reducible first | refine A6 ?_ ?_ ?_ | exact AC | refine SameB.upd ?_ ?_ _ | assumption | refine A2 ?_ | refine KM.of ?_ | refine AE ?_ | intro _g _hg | refine AD ?_ ?_ | intro _hc) | omega)
      all_goals (refine AY ?_; grind)
end Go.Proofs.YtnfjgphfaemjcaaGreatDoor
