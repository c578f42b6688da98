/- Streams: the words ahead of the parts; no condition. -/
import Derived.Test.YtjdccdelcnmocaaGreatDoorMgJ
import Derived.Test.YtjdccdelcnmocaaGreatDoorMdQ
import Derived.Test.YtjdccdelcnmocaaGreatDoorMdK
import Derived.Test.YtjdccdelcnmocaaGreatDoorMdL
import Derived.Test.YtjdccdelcnmocaaGreatDoorMdP
import Derived.Test.YtjdccdelcnmocaaGreatDoorMdO
import Derived.Test.YtjdccdelcnmocaaGreatDoorAdG
set_option linter.all false
set_option linter.unusedSimpArgs false
set_option linter.unusedVariables false
set_option maxHeartbeats 2000000
namespace Go.Proofs.YtjdccdelcnmocaaGreatDoor
def TokT (t : Tok) (k : Nat) (H : A4) (n : Nat) : Prop := match t with
  | .own g => H g = some (.row 9 k) ∧ g < n
  | .nil => k = 0
  | .ro => False
theorem Rx {t t2 : Tok} {xs : List AV} {x : AV} {z : Nat} {d : Option Nat} {K : AS → Prop} {en : AT} {n : Nat} {H : A4} (h : TokT t xs.length H n) (hz : t ≠ .nil → z = 1) (hl : xs.length ≤ 1000000) (hs : ∀ g, n ≤ g → H g = none)
    (hk : ∀ g' n' H', (CT t g' ∨ n ≤ g') → n ≤ n' → g' < n' → (∀ k, k < n → ¬ CT t k → H' k = H k) → H' g' = some (.row 9 (xs.length + 1)) → (∀ k, n' ≤ k → H' k = none) → K ⟨AP en d (.sl 1 (xs ++ [x]) (.own g')), n', H'⟩) :
    appKS 9 1 16 d K ⟨en, n, H⟩ (.sl z xs t) (.sl 1 [x] t2) := by
  match t, h with
  | .nil, h =>
    have h0 : xs = [] := List.length_eq_zero_iff.1 h
    subst h0
    refine Qw (by simp) (by simp) (by simp [maxLen]) fun g hg => ?_
    exact hk g (g + 1) _ (.inr hg) (by omega) (by omega) (fun k h1 _ => by rw [upd_ne (by omega)]) (AX _ _ _) (fun k h1 => by rw [upd_ne (by omega)]; exact hs k (by omega))
  | .own g0, h =>
    obtain ⟨h1, h2⟩ := h
    have hz := hz (by simp)
    subst hz
    refine Qh h1 (by simp; omega) (by simp [maxLen]; omega) fun g n' h3 h4 h5 => ?_
    refine hk g n' _ (h3.elim (fun h => .inl h) .inr) h4 h5 (fun k k1 k2 => ?_) (AX _ _ _) (fun k k1 => ?_)
    · have : k ≠ g0 := k2
      rw [upd_ne (by rcases h3 with h3 | h3 <;> omega), upd_ne this]
    · rw [upd_ne (by omega), upd_ne (by omega)]; exact hs k (by omega)
theorem TokT.at_ {t : Tok} {k n n1 : Nat} {H H1 : A4} (h : TokT t k H n) (hH : ∀ g, CT t g → H1 g = H g) (hn : n ≤ n1) : TokT t k H1 n1 := by
  match t, h with
  | .nil, h => exact h
  | .own g, h => exact ⟨(hH g rfl).trans h.1, by have := h.2; omega⟩
theorem TokT.lt {t : Tok} {k n : Nat} {H : A4} (h : TokT t k H n) : ∀ g, CT t g → g < n := by
  match t, h with
  | .nil, h => exact fun g hg => hg.elim
  | .own k, h => intro g hg; have e : g = k := hg; subst e; exact h.2
def Mr (x : Shq) (o : Int) : AW := if x.fn = true then fnW.getD (o - 1).toNat [] else if x.cd = true then cdW.getD (o - 1).toNat [] else []
theorem Ub (x : Shq) (o : Int) : (Mr x o).length ≤ 9 := by
  have key : ∀ (l : List AW), (∀ y ∈ l, y.length ≤ 9) → ∀ i : Nat, (l.getD i []).length ≤ 9 := fun l h i => by
    rw [List.getD_eq_getElem?_getD]
    cases hi : l[i]? with
    | none => simp
    | some y => exact h y (List.mem_of_getElem? hi)
  unfold Mr
  split
  · exact key _ (by decide) _
  · split
    · exact key _ (by decide) _
    · simp
def Aq (k o m : Int) (v : List Int) (x : Shq) : List AW := if k = 15 then [Mr x o] else if Mr x o ≠ [] then [Mr x o ++ [32] ++ Lib.itoa m] else if 0 < x.n1 then [Lib.itoa m] else v.map Lib.itoa
def A1n (n : Nat) (H : A4) (l : List AW) : Bi := fun r n' H' => n ≤ n' ∧ (∀ g, n' ≤ g → H' g = none) ∧ SameB n H H' ∧ ∃ z t, r = .sl z (l.map AV.str) t ∧ TokT t l.length H' n' ∧ (t ≠ .nil → z = 1) ∧ ∀ g, CT t g → n ≤ g
theorem Wd {n g n' : Nat} {H : A4} {w : AW} {e : AT} (hs : ∀ g, n ≤ g → H g = none) (H1 : A4) (h1 : ∀ k, k < n → H1 k = H k) (hs1 : ∀ k, n' ≤ k → H1 k = none) (hg : n ≤ g) (hgn : g < n') (hr : H1 g = some (.row 9 1)) (he : get e 4 = .sl 1 [.str w] (.own g)) : fin (A1n n H [w]) n [.tmp 4] .ret ⟨e, n', H1⟩ :=
  Ax (x := .sl 1 [.str w] (.own g)) (by simp [Br, F3, C5, he]) (A1 _) (by omega) hs1 ⟨by omega, hs1, h1, 1, .own g, rfl, ⟨hr, hgn⟩, fun _ => rfl, fun g' hg' => by have e : g' = g := hg'; omega⟩
attribute [local simp] Kz De DC Kv Lp Je Jw Dj DK Fe Fi KJ JN LL KL Ig JX Ix L9 Kn K6 Kk LJ K3 Ji RM pe KK Io Iu JW JI Kf Ir L7 Jx LH J5 L8 Is DT J0 Ju Jg Ih Li Lf K5 KN Js LO Ks LC La Im Ip Ln JQ Kt Jt JF L4 DG Lv DY Kq JZ Ky LB LG Lk KH JM LE Jr LF KA JU L0 JY JB Lo JJ Ly Jl Lm Ik Jm Jf Kw DJ KO Lj JG Ld Jn Lh Kj J9 Kp Kb Lc K2 KE LR Il Lq JC L3 Km JR Lz Jd LN L2 M1 LM Lr KG Iv JO L1 LK List.mem_cons guardK CR Ez F6 Fa Lx DX DF DL Dd DP DM DN Dh D9 M0 Ki Dg KF LP JV Jp Kc K8 DR KX LV J1 JA LW LQ Fj DQ DS DH DA Lw Ja DW Ii DD L6 Db DE Ku DO DU LZ LD KR Lg Kl J7 L5 J4 RL IR IV Gt IN IS IL Cx FB FA KV FC F8 Cv CY Sc IH II F9 IK IT D0 D4 Bg BG C3 CK Ar ev get put GQ AP Cr Jc K4 Kd LI JT Jh EF part BZ HA Jy Gx isNil CA CG EL CQ C1 Kx JP J3 KI Iq IF Ij JE Jo LU Jq Jv K7 Jz KZ Iz AV.fits AV.cells ones AV.one EK CD EE E2 FV ES Ll GB Fy CH Br C5 F3 Gg AX BY TO Fc Ko Ie List.getElem?_cons_zero List.getElem?_cons_succ Dc Df Di J8 Kg Ls H9 It Kh JK KD Ke LT JH Lu Iw LY JD
theorem YX (k o m : Int) (v : List Int) (p : List St) (x : Shq) (n : Nat) (H : A4) (hfn : x.fn = true → 1 ≤ o ∧ o ≤ 6) (hcd : x.fn = false → x.cd = true → 1 ≤ o ∧ o ≤ 3) (hm : 0 ≤ m ∧ m ≤ 10000) (hv : ∀ y ∈ v, 0 ≤ y ∧ y ≤ 10000) (hvl : v.length ≤ 5000) : ACalls Tryz.prog 82 [encS (.mk k o m v p), RK x] n H (A1n n H (Aq k o m v x)) := by
  have hfa := PV
  have hca := Py
  have him := TZ m (by omega)
  have hil := Lib.itoa_length_le m (by omega) (by omega)
  obtain ⟨xw, P, fn, cd, n0, n1, vs⟩ := x
  dsimp only at hfn hcd
  unfold Aq
  rw [AQ]
  generalize hW : A1n n H _ = R
  refine Ab Tryz.func82 A2z rfl fun hs => ?_
  have hk8 : ∀ (g2 g3 : Nat) (e : AT) (w : AW), n ≤ g2 → g2 < g3 → w = Mr ⟨xw, P, fn, cd, n0, n1, vs⟩ o → get e 2 = .ptr g2 0 → get e 3 = .ptr g3 0 → get e 5 = .str w → aw Tryz.prog c82_k8 (fin R n [.tmp 4]) ⟨e, g3 + 1, upd (upd H g2 (some (Aj k o m (P3 v) (.sl 5 (Ae p) .ro)))) g3 (some (PB ⟨xw, P, fn, cd, n0, n1, vs⟩))⟩ := by
    intro g2 g3 e w o1 o2 hw e2 e3 e5
    have hwl := Ub ⟨xw, P, fn, cd, n0, n1, vs⟩ o
    rw [← hw] at hW hwl
    have hs1 : ∀ k', g3 + 1 ≤ k' → upd (upd H g2 (some (Aj k o m (P3 v) (.sl 5 (Ae p) .ro)))) g3 (some (PB ⟨xw, P, fn, cd, n0, n1, vs⟩)) k' = none := fun k' hk => by simp (disch := omega) only [upd_ne]; exact hs k' (by omega)
    have hf1 : ∀ k', k' < n → upd (upd H g2 (some (Aj k o m (P3 v) (.sl 5 (Ae p) .ro)))) g3 (some (PB ⟨xw, P, fn, cd, n0, n1, vs⟩)) k' = H k' := fun k' hk => by simp (disch := omega) only [upd_ne]
    by_cases k15 : k = 15
    · rw [if_pos k15] at hW
      subst hW k15
      repeat' (first | (simp -implicitDefEqProofs [GE, GY, Gp, FJ, Hw, Hx, Hb, IB, FP, c82, -getElem?_pos, e2, e3, e5]) | (simp (disch := omega) only [AF]) | ((with_reducible refine AJ 120 ?_); refine' AZ (him) ?_) | (with_reducible first | refine A7 ?_ ?_ ?_ | exact AB | assumption | refine A3 ?_ | refine KM.of ?_ | refine AG ?_ | refine A2 ?_ | refine A6 ?_ | refine A5 ?_ | refine AH ?_ | refine AA ?_ | intro _g _hg | refine AE ?_ ?_ | intro _hc) | omega)
      exact Wd hs _ (fun k' hk => by rw [upd_ne (by omega)]; exact hf1 k' hk) (fun k' hk => by rw [upd_ne (by omega)]; exact hs1 k' (by omega)) (by omega) (by omega) (AX _ _ _) rfl
    · rw [if_neg k15] at hW
      by_cases w0 : w = []
      · rw [if_neg (by simpa using w0)] at hW
        subst w0
        by_cases h1 : 0 < n1
        · rw [if_pos h1] at hW
          subst hW
          repeat' (first | (simp -implicitDefEqProofs [GE, GY, Gp, FJ, Hw, Hx, Hb, IB, FP, c82, -getElem?_pos, e2, e3, e5, k15, h1]) | (simp (disch := omega) only [AF]) | ((with_reducible refine AJ 120 ?_); refine' AZ (him) ?_) | (with_reducible first | refine A7 ?_ ?_ ?_ | exact AB | assumption | refine A3 ?_ | refine KM.of ?_ | refine AG ?_ | refine A2 ?_ | refine A6 ?_ | refine A5 ?_ | refine AH ?_ | refine AA ?_ | intro _g _hg | refine AE ?_ ?_ | intro _hc) | omega)
          exact Wd hs _ (fun k' hk => by rw [upd_ne (by omega)]; exact hf1 k' hk) (fun k' hk => by rw [upd_ne (by omega)]; exact hs1 k' (by omega)) (by omega) (by omega) (AX _ _ _) rfl
        · rw [if_neg h1] at hW
          subst hW
          repeat' (first | (simp -implicitDefEqProofs [GE, GY, Gp, FJ, Hw, Hx, Hb, IB, FP, c82, -getElem?_pos, e2, e3, e5, k15, h1]) | (simp (disch := omega) only [AF]) | ((with_reducible refine AJ 120 ?_); refine' AZ (him) ?_) | (with_reducible first | refine A7 ?_ ?_ ?_ | exact AB | assumption | refine A3 ?_ | refine KM.of ?_ | refine AG ?_ | refine A2 ?_ | refine A6 ?_ | refine A5 ?_ | refine AH ?_ | refine AA ?_ | intro _g _hg | refine AE ?_ ?_ | intro _hc) | omega)
          refine LoopK.go (fun q st => ∃ (j : Nat) (xs : List AV) (z : Nat) (t : Tok) (n2 : Nat) (H2 : A4), j + q = v.length ∧ xs = ((v.take j).map Lib.itoa).map AV.str ∧ st = ⟨[(6, .sl z xs t), (53, P3 v), (54, aI v.length), (55, aI j)], n2, H2⟩ ∧ n ≤ n2 ∧ (∀ k', n2 ≤ k' → H2 k' = none) ∧ SameB n H H2 ∧ TokT t j H2 n2 ∧ (t ≠ .nil → z = 1) ∧ ∀ g, CT t g → n ≤ g) v.length ⟨0, [], 0, .nil, g3 + 1, _, by omega, rfl, rfl, by omega, hs1, hf1, rfl, fun h => absurd rfl h, fun g h => h.elim⟩ ?_
          rintro q st ⟨j, xs, z, t, n2, H2, hj, hxs, rfl, hn2, hs2, hf2, hT, hz, hTn⟩ J hJ
          have hjl2 : xs.length = j := by rw [hxs]; simp; omega
          by_cases hjl : j < v.length
          · obtain ⟨y, hy⟩ : ∃ y, v[j]? = some y := ⟨_, List.getElem?_eq_getElem hjl⟩
            have hyr := hv y (List.mem_of_getElem? hy)
            have hya := JL (f := aI) hy
            have hiy := TZ y (by omega)
            have hjl' : (j : Int) < v.length := by omega
            have hvm : (v.map aI).length = v.length := by simp
            
            repeat' (first | (simp -implicitDefEqProofs [FJ, Gp, GY, -getElem?_pos, hjl', hya, hvm]) | (simp (disch := omega) only [AF]) | (refine Rx (by rw [hjl2]; exact hT.at_ (fun k hk => by have := hT.lt k hk; have := hTn k hk; simp (disch := omega) only [upd_ne]) (by omega)) hz (by rw [hjl2]; omega) (fun k hk => by simp (disch := omega) only [upd_ne]; exact hs2 k (by omega)) (fun g' n3 H3 a1 a2 a3 a4 a5 a6 => ?_)) | ((with_reducible refine AJ 120 ?_); refine' AZ (hiy) ?_) | (with_reducible first | refine A7 ?_ ?_ ?_ | exact AB | assumption | refine A3 ?_ | refine KM.of ?_ | refine AG ?_ | refine A2 ?_ | refine A6 ?_ | refine A5 ?_ | refine AH ?_ | refine AA ?_ | intro _g _hg | refine AE ?_ ?_ | intro _hc) | omega)
            refine hJ (q - 1) _ (by omega) ⟨j + 1, xs ++ [.str (Lib.itoa y)], 1, .own g', n3, H3, by omega, by rw [hxs, List.take_add_one, hy]; simp, rfl, by omega, a6, fun k' hk => ?_, ⟨by rw [← hjl2]; exact a5, a3⟩, fun _ => rfl, fun g hg => ?_⟩
            · rw [a4 k' (by omega) (fun h => by have := hTn k' h; omega), upd_ne (by omega)]; exact hf2 k' hk
            · have e : g = g' := hg
              rcases a1 with h | h
              · have := hTn g' h; omega
              · omega
          · have hjl' : ¬ (j : Int) < v.length := by omega
            have htk : v.take j = v := List.take_of_length_le (by omega)
            rw [htk] at hxs
            have hjv : j = v.length := by omega
            subst hjv
            
            repeat' (first | (simp -implicitDefEqProofs [FJ, GE, -getElem?_pos, hjl']) | (simp (disch := omega) only [AF]) | (with_reducible first | refine A7 ?_ ?_ ?_ | exact AB | assumption | refine A3 ?_ | refine KM.of ?_ | refine AG ?_ | refine A2 ?_ | refine A6 ?_ | refine A5 ?_ | refine AH ?_ | refine AA ?_ | intro _g _hg | refine AE ?_ ?_ | intro _hc) | omega)
            subst hxs
            refine Ax (x := .sl z ((v.map Lib.itoa).map AV.str) t) (by simp -implicitDefEqProofs [-getElem?_pos]) (A1 _) (by omega) hs2 ⟨by omega, hs2, hf2, z, t, rfl, by simpa using hT, hz, hTn⟩
      · rw [if_pos w0] at hW
        subst hW
        repeat' (first | (simp -implicitDefEqProofs [GE, GY, Gp, FJ, Hw, Hx, Hb, IB, FP, c82, -getElem?_pos, e2, e3, e5, k15, w0]) | (simp (disch := omega) only [AF]) | ((with_reducible refine AJ 120 ?_); refine' AZ (him) ?_) | (with_reducible first | refine A7 ?_ ?_ ?_ | exact AB | assumption | refine A3 ?_ | refine KM.of ?_ | refine AG ?_ | refine A2 ?_ | refine A6 ?_ | refine A5 ?_ | refine AH ?_ | refine AA ?_ | intro _g _hg | refine AE ?_ ?_ | intro _hc) | omega)
        exact Wd hs _ (fun k' hk => by rw [upd_ne (by omega)]; exact hf1 k' hk) (fun k' hk => by rw [upd_ne (by omega)]; exact hs1 k' (by omega)) (by omega) (by omega) (AX _ _ _) rfl
  have hget : ∀ (l : List AW) (i : Int), 1 ≤ i → i ≤ l.length → l[i.toNat - 1]? = some (l.getD (i - 1).toNat []) := fun l i h1 h2 => by
    have e : (i - 1).toNat = i.toNat - 1 := by omega
    rw [e]
    obtain ⟨y, hy⟩ : ∃ y, l[i.toNat - 1]? = some y := ⟨_, List.getElem?_eq_getElem (by omega)⟩
    rw [hy, List.getD_eq_getElem?_getD, hy]; rfl
  by_cases f1 : fn = true
  · subst f1
    obtain ⟨h1, h2⟩ := hfn rfl
    have hg := hget fnW o h1 (by simp [fnW]; omega)
    have hop : Mr ⟨xw, P, true, cd, n0, n1, vs⟩ o = fnW.getD (o - 1).toNat [] := rfl
    have hl6 : fnW.length = 6 := rfl
    have h3 : ¬ o - 1 < 0 := by omega
    have h3' : (0 : Int) ≤ o - 1 := by omega
    have h4 : o - 1 < 6 := by omega
    generalize fnW.getD (o - 1).toNat [] = w at *
    repeat' (first | (simp -implicitDefEqProofs [c82, -getElem?_pos, hg, hl6, h3, h3', h4]) | (simp (disch := omega) only [AF]) | ((with_reducible refine AJ 118 ?_); refine' AZ (hfa) ?_) | ((with_reducible refine AJ 119 ?_); refine' AZ (hca) ?_) | (with_reducible first | refine A7 ?_ ?_ ?_ | exact AB | assumption | refine A3 ?_ | refine KM.of ?_ | refine AG ?_ | refine A2 ?_ | refine A6 ?_ | refine A5 ?_ | refine AH ?_ | refine AA ?_ | intro _g _hg | refine AE ?_ ?_ | intro _hc) | omega)
    exact hk8 _ _ _ w (by omega) (by omega) hop.symm rfl rfl rfl
  · rw [Bool.not_eq_true] at f1
    subst f1
    by_cases c1 : cd = true
    · subst c1
      obtain ⟨h1, h2⟩ := hcd rfl rfl
      have hg := hget cdW o h1 (by simp [cdW]; omega)
      have hop : Mr ⟨xw, P, false, true, n0, n1, vs⟩ o = cdW.getD (o - 1).toNat [] := rfl
      have hl6 : cdW.length = 3 := rfl
      have h3 : ¬ o - 1 < 0 := by omega
      have h3' : (0 : Int) ≤ o - 1 := by omega
      have h4 : o - 1 < 3 := by omega
      generalize cdW.getD (o - 1).toNat [] = w at *
      repeat' (first | (simp -implicitDefEqProofs [c82, FP, -getElem?_pos, hg, hl6, h3, h3', h4]) | (simp (disch := omega) only [AF]) | ((with_reducible refine AJ 118 ?_); refine' AZ (hfa) ?_) | ((with_reducible refine AJ 119 ?_); refine' AZ (hca) ?_) | (with_reducible first | refine A7 ?_ ?_ ?_ | exact AB | assumption | refine A3 ?_ | refine KM.of ?_ | refine AG ?_ | refine A2 ?_ | refine A6 ?_ | refine A5 ?_ | refine AH ?_ | refine AA ?_ | intro _g _hg | refine AE ?_ ?_ | intro _hc) | omega)
      exact hk8 _ _ _ w (by omega) (by omega) hop.symm rfl rfl rfl
    · rw [Bool.not_eq_true] at c1
      subst c1
      repeat' (first | (simp -implicitDefEqProofs [c82, FP, -getElem?_pos]) | (simp (disch := omega) only [AF]) | ((with_reducible refine AJ 118 ?_); refine' AZ (hfa) ?_) | ((with_reducible refine AJ 119 ?_); refine' AZ (hca) ?_) | (with_reducible first | refine A7 ?_ ?_ ?_ | exact AB | assumption | refine A3 ?_ | refine KM.of ?_ | refine AG ?_ | refine A2 ?_ | refine A6 ?_ | refine A5 ?_ | refine AH ?_ | refine AA ?_ | intro _g _hg | refine AE ?_ ?_ | intro _hc) | omega)
      exact hk8 _ _ _ [] (by omega) (by omega) rfl rfl rfl rfl
def Ad (k : Int) : Shq := shqs.getD (k.toNat - 1) UP
mutual
def B0 : St → AW
  | .mk k o m v p => (Ad k).w ++ [40] ++ Lib.join (Aq k o m v (Ad k) ++ Ag p) [44] ++ [41]
def Ag : List St → List AW
  | [] => []
  | s :: r => B0 s :: Ag r
end
theorem FL : ∀ p : List St, Ag p = p.map B0
  | [] => by simp [Ag]
  | s :: r => by simp [Ag, FL r]
theorem Yl {k : Int} (h1 : 1 ≤ k) (h2 : k ≤ 16) : BG (aI k) shpMap = some (RK (Ad k)) := by
  have key : ∀ j : Nat, j < 16 → BG (aI ((j : Int) + 1)) shpMap = some (RK (Ad ((j : Int) + 1))) := by
    intro j hj
    iterate 16 (rcases j with _ | j; · rfl)
    omega
  have := key (k.toNat - 1) (by omega)
  have e : (((k.toNat - 1 : Nat) : Int) + 1) = k := by omega
  rwa [e] at this
theorem Ma {k : Int} (h1 : 1 ≤ k) (h2 : k ≤ 16) : (Ad k).fn = IG k ∧ (Ad k).cd = CP k ∧ (Ad k).w.length ≤ 6 := by
  have key : ∀ j : Nat, j < 16 → (Ad ((j : Int) + 1)).fn = IG ((j : Int) + 1) ∧ (Ad ((j : Int) + 1)).cd = CP ((j : Int) + 1) ∧ (Ad ((j : Int) + 1)).w.length ≤ 6 := by
    intro j hj
    iterate 16 (rcases j with _ | j; · exact ⟨rfl, rfl, by decide⟩)
    omega
  have := key (k.toNat - 1) (by omega)
  have e : (((k.toNat - 1 : Nat) : Int) + 1) = k := by omega
  rwa [e] at this
theorem Rh (sep : AW) : ∀ l : List AW, (Lib.join l sep).length ≤ (l.map fun x => x.length + sep.length).sum
  | [] => by simp [Lib.join_nil]
  | [x] => by simp [Lib.join_one]
  | x :: y :: r => by
    have := Rh sep (y :: r)
    have e : Lib.join (x :: y :: r) sep = x ++ sep ++ Lib.join (y :: r) sep := by simp [Lib.join, List.intercalate]
    rw [e]
    simp only [List.length_append, List.map_cons, List.sum_cons] at this ⊢
    omega
theorem Vt (f : AW → Nat) (B : Nat) : ∀ l : List AW, (∀ x ∈ l, f x ≤ B) → (l.map f).sum ≤ l.length * B
  | [], _ => by simp
  | x :: r, h => by
    have h1 := h x List.mem_cons_self
    have h2 := Vt f B r fun y hy => h y (List.mem_cons_of_mem _ hy)
    simp only [List.map_cons, List.sum_cons, List.length_cons, Nat.succ_mul]; omega
theorem Vl {k o m : Int} {v : List Int} {x : Shq} (hm : 0 ≤ m ∧ m ≤ 10000) (hv : ∀ y ∈ v, 0 ≤ y ∧ y ≤ 10000) (hvl : v.length ≤ 5000) : ∀ {y : AW}, y ∈ Aq k o m v x → y.length ≤ 31 := by
  intro y hy
  have h1 := Ub x o
  have h2 := Lib.itoa_length_le m (by omega) (by omega)
  unfold Aq at hy
  split at hy
  · simp at hy; subst hy; omega
  · split at hy
    · simp at hy; subst hy; simp; omega
    · split at hy
      · simp at hy; subst hy; omega
      · obtain ⟨z, hz, rfl⟩ := List.mem_map.1 hy
        have := hv z hz
        have := Lib.itoa_length_le z (by omega) (by omega)
        omega
theorem Q5 {k o m : Int} {v : List Int} {x : Shq} (hvl : v.length ≤ 5000) : (Aq k o m v x).length ≤ 5000 := by
  unfold Aq
  split
  · simp
  · split
    · simp
    · split
      · simp
      · simpa using hvl
structure TxtOk (k o m : Int) (v : List Int) : Prop where
  k1 : 1 ≤ k
  k2 : k ≤ 16
  fn : (Ad k).fn = true → 1 ≤ o ∧ o ≤ 6
  cd : (Ad k).fn = false → (Ad k).cd = true → 1 ≤ o ∧ o ≤ 3
  mb : 0 ≤ m ∧ m ≤ 10000
  vb : ∀ y ∈ v, 0 ≤ y ∧ y ≤ 10000
  vl : v.length ≤ 5000
theorem Tk (k : Int) : ∀ (i : Nat) (v : List Int), BE k i v = true → ∀ y ∈ v, 0 ≤ y ∧ y ≤ 10000
  | _, [], _, y, h => by cases h
  | i, x :: r, h, y, hy => by
    rw [BE, Bool.and_eq_true] at h
    rcases List.mem_cons.1 hy with rfl | hy
    · have := h.1
      unfold Fg at this
      simp only [Bool.and_eq_true, decide_eq_true_eq] at this
      obtain ⟨h1, h2⟩ := this
      split at h1 <;> split at h2 <;> omega
    · exact Tk k (i + 1) r h.2 y hy
theorem X8 {k o m : Int} {v : List Int} {p : List St} (hok : PD (.mk k o m v p)) (hsm : Vo (.mk k o m v p)) : TxtOk k o m v := by
  obtain ⟨h1, _⟩ := hok
  have N := HK h1
  obtain ⟨f1, f2, _⟩ := Ma N.k1 N.k2
  refine ⟨N.k1, N.k2, fun h => ?_, fun _ h => N.cnd (by rw [← f2]; exact h), ?_, Tk k 0 v N.vals, ?_⟩
  · rcases N.fn (by rw [← f1]; exact h) with h | h <;> omega
  · by_cases hn : O6 k = true
    · have := N.num hn
      unfold TI TU at this
      obtain ⟨h3, h4⟩ := this
      refine ⟨?_, ?_⟩
      · split at h3
        · omega
        · split at h3 <;> omega
      · split at h4
        · omega
        · split at h4
          · omega
          · split at h4 <;> omega
    · have := N.non (by simpa using hn)
      omega
  · by_cases hk1 : k = 1
    · have := hsm.1
      rw [Ac, Ct, if_pos hk1] at this
      exact this
    · by_cases hk2 : k = 2
      · have := N.rng hk2; omega
      · rw [N.nov hk1 hk2]; simp
theorem Wo : ∀ s : St, PD s → Vo s → (B0 s).length + 1 ≤ 300000 * Bh s := by
  intro s
  refine St.ind (Q := fun s => PD s → Vo s → (B0 s).length + 1 ≤ 300000 * Bh s) ?_ s
  intro k o m v p ih hok hsm
  have T := X8 hok hsm
  obtain ⟨_, _, hw⟩ := Ma T.k1 T.k2
  have hp : ∀ q : List St, (∀ s ∈ q, s ∈ p) → okP q → Zf q → ((Ag q).map fun x => x.length + 1).sum ≤ 300000 * C2 q := by
    intro q
    induction q with
    | nil => intro _ _ _; simp [Ag]
    | cons s r ihr =>
      intro h h1 h2
      have a1 := ih s (h s List.mem_cons_self) h1.1 h2.1
      have a2 := ihr (fun x hx => h x (List.mem_cons_of_mem _ hx)) h1.2 h2.2
      simp only [Ag, List.map_cons, List.sum_cons, C2]
      omega
  have h1 := hp p (fun _ h => h) hok.2 hsm.2
  have h2 := Rh [44] (Aq k o m v (Ad k) ++ Ag p)
  have h3 := Vt (fun x => x.length + 1) 32 (Aq k o m v (Ad k)) fun y hy => by have := Vl T.mb T.vb T.vl hy; omega
  have h4 := Q5 (k := k) (o := o) (m := m) (x := Ad k) T.vl
  rw [List.map_append, List.sum_append] at h2
  simp only [B0, List.length_append, Bh, List.length_cons, List.length_nil, Nat.zero_add] at h2 ⊢
  omega
theorem FT : ∀ p : List St, (Ag p).length = p.length
  | [] => rfl
  | s :: r => by simp [Ag, FT r]
theorem WA {p : List St} {j : Nat} {s : St} (h : p[j]? = some s) : (Ag p).take (j + 1) = (Ag p).take j ++ [B0 s] := by
  have : (Ag p)[j]? = some (B0 s) := by rw [FL, List.getElem?_map, h]; rfl
  rw [List.take_add_one, this]; rfl
theorem ZW (s : St) : EN s → PD s → Vo s → Bh s ≤ 60 → ∀ (gm n : Nat) (H : A4), H gm = some (.map (some .i64) shpMap) → APureAt Tryz.prog 52 [encS s, .mp gm] n H (.str (B0 s)) := by
  refine St.ind (Q := fun s => EN s → PD s → Vo s → Bh s ≤ 60 → ∀ (gm n : Nat) (H : A4), H gm = some (.map (some .i64) shpMap) → APureAt Tryz.prog 52 [encS s, .mp gm] n H (.str (B0 s))) ?_ s
  intro k o m v p ih hfit hok hsm hsz gm n H hgm
  have T := X8 hok hsm
  obtain ⟨_, _, hw⟩ := Ma T.k1 T.k2
  have htl := Wo (.mk k o m v p) hok hsm
  have hwc := fun n H => YX k o m v p (Ad k) n H T.fn T.cd T.mb T.vb T.vl
  have hcnt := Q5 (k := k) (o := o) (m := m) (x := Ad k) T.vl
  have hget := Yl T.k1 T.k2
  have hpl := BB p
  have hsz2 := F0 p
  have hszp : C2 p + 1 ≤ 60 := hsz
  have hjl : (Lib.join (Aq k o m v (Ad k) ++ Ag p) [44]).length ≤ 300000 * 60 := by
    simp only [B0, List.length_append] at htl; omega
  have hja := A1k (Aq k o m v (Ad k) ++ Ag p) [44] (by simp [FT]; omega) (by omega)
  rw [B0]
  rw [AQ] at hwc ⊢
  generalize hx : Ad k = x at *
  generalize Aq k o m v x = ws at *
  obtain ⟨xw, P, fn, cd, n0, n1, vs⟩ := x
  have hw' : xw.length ≤ 6 := hw
  generalize hsm' : shpMap = sm at *
  refine D2 Tryz.func52 A2a rfl fun hH => ?_
  have hgmn : gm < n := by
    rcases Nat.lt_or_ge gm n with h | h
    · exact h
    · rw [hH gm h] at hgm; cases hgm
  repeat' (first | (simp -implicitDefEqProofs [c52, -getElem?_pos, hgm, hget, splice]) | (simp (disch := omega) only [AF]) | ((with_reducible refine Ay 82 ?_); refine ⟨_, hwc _ _, ?_⟩; rintro rb n2 H2 hle2 hsup2 ⟨_, _, hfr2, z, t, rfl, hT, hz, hTn⟩) | (with_reducible first | refine A7 ?_ ?_ ?_ | exact AB | assumption | refine A3 ?_ | refine KM.of ?_ | refine AG ?_ | refine A2 ?_ | refine A6 ?_ | refine A5 ?_ | refine AH ?_ | refine AA ?_ | intro _g _hg | refine AE ?_ ?_ | intro _hc) | omega)
  rename_i g2 hg2 _ _
  have hle2' : _g + 1 ≤ n2 := hle2
  generalize hg5 : _g = g5 at *
  have q2 : H2 g2 = some (Aj k o m (P3 v) (.sl 5 (Ae p) .ro)) := (hfr2 g2 (show g2 < g5 + 1 by omega)).trans (by simp (disch := omega) only [upd_ne, AX])
  have q5 : H2 g5 = some (PB ⟨xw, P, fn, cd, n0, n1, vs⟩) := (hfr2 g5 (show g5 < g5 + 1 by omega)).trans (by simp (disch := omega) only [upd_ne, AX] <;> rfl)
  have hsame : SameB n H H2 := fun g hg => (hfr2 g (show g < g5 + 1 by omega)).trans (by simp (disch := omega) only [upd_ne])
  have hTn' : ∀ g, CT t g → g5 + 1 ≤ g := hTn
  repeat' (first | (simp -implicitDefEqProofs [c52, -getElem?_pos, q2, hpl, splice]) | (simp (disch := omega) only [AF]) | (with_reducible first | refine A7 ?_ ?_ ?_ | exact AB | assumption | refine A3 ?_ | refine KM.of ?_ | refine AG ?_ | refine A2 ?_ | refine A6 ?_ | refine A5 ?_ | refine AH ?_ | refine AA ?_ | intro _g _hg | refine AE ?_ ?_ | intro _hc) | omega)
  refine LoopK.go (fun q st => ∃ (j : Nat) (xs : List AV) (z : Nat) (t : Tok) (n3 : Nat) (H3 : A4), j + q = p.length ∧ xs = (ws ++ (Ag p).take j).map AV.str ∧ st = ⟨[(1, .mp gm), (5, .ptr g5 0), (6, .sl z xs t), (17, .sl 5 (Ae p) .ro), (18, aI p.length), (19, aI j)], n3, H3⟩ ∧ g5 + 1 ≤ n3 ∧ (∀ k', n3 ≤ k' → H3 k' = none) ∧ SameB n H H3 ∧ H3 g5 = some (PB ⟨xw, P, fn, cd, n0, n1, vs⟩) ∧ TokT t (ws.length + j) H3 n3 ∧ (t ≠ .nil → z = 1) ∧ ∀ g, CT t g → g5 + 1 ≤ g) p.length ⟨0, _, z, t, n2, H2, by omega, by simp, rfl, hle2', hsup2, hsame, q5, by simpa using hT, hz, hTn'⟩ ?_
  clear hT hz hTn hTn' q2 q5 hsame hfr2 hsup2 hle2 hle2'
  rintro q st ⟨j, xs, z, t, n2, H2, hj, hxs, rfl, hle2, hsup2, hsame, q5, hT, hz, hTn⟩ J hJ
  have hjl2 : xs.length = ws.length + j := by rw [hxs]; simp [FT]; omega
  have qm : H2 gm = some (.map (some .i64) sm) := by rw [hsame gm hgmn]; exact hgm
  by_cases hjp : j < p.length
  · obtain ⟨s, hs⟩ : ∃ s, p[j]? = some s := ⟨_, List.getElem?_eq_getElem hjp⟩
    have hsm2 := List.mem_of_getElem? hs
    have hst := ih s hsm2 (Cz hfit.2.2 s hsm2) (G6 hok.2 s hsm2) (No hsm.2 s hsm2) (by have := Fb s hsm2; omega) gm
    have hse := Er hs
    have hjp' : (j : Int) < p.length := by omega
    have htk := WA hs
    obtain ⟨k', o', m', v', p'⟩ := s
    rw [AQ] at hst hse
    generalize B0 _ = ts at hst htk
    
    repeat' (first | (simp -implicitDefEqProofs [Q3, Um, V7, -getElem?_pos, hjp', hpl, hse, splice]) | (simp (disch := omega) only [AF]) | (refine Rx (by rw [hjl2]; exact hT.at_ (fun k hk => by have := hT.lt k hk; have := hTn k hk; simp (disch := omega) only [upd_ne]) (by omega)) hz (by rw [hjl2]; omega) (fun k hk => by simp (disch := omega) only [upd_ne]; exact hsup2 k (by omega)) (fun g' n3 H3 a1 a2 a3 a4 a5 a6 => ?_)) | ((with_reducible refine Ay 52 ?_); (refine' CallK.sfAt ?_ ((hst _ _ (by simp (disch := omega) only [upd_ne]; exact qm))) ?_); (focus first | (with_reducible exact A0 _) | (simp [AC, A8, A1, A0]; done))) | (with_reducible first | refine A7 ?_ ?_ ?_ | exact AB | assumption | refine A3 ?_ | refine KM.of ?_ | refine AG ?_ | refine A2 ?_ | refine A6 ?_ | refine A5 ?_ | refine AH ?_ | refine AA ?_ | intro _g _hg | refine AE ?_ ?_ | intro _hc) | omega)
    refine hJ (q - 1) _ (by omega) ⟨j + 1, xs ++ [.str ts], 1, .own g', n3, H3, by omega, by rw [hxs, htk]; simp, by simp, by omega, a6, fun k' hk => ?_, ?_, ⟨by rw [a5, hjl2]; rfl, a3⟩, fun _ => rfl, fun g hg => ?_⟩
    · rw [a4 k' (by omega) (fun h => by have := hTn k' h; omega)]; simp (disch := omega) only [upd_ne]; exact hsame k' hk
    · rw [a4 g5 (by omega) (fun h => by have := hTn g5 h; omega)]; simp (disch := omega) only [upd_ne]; exact q5
    · have e : g = g' := hg
      rcases a1 with h | h
      · have := hTn g' h; omega
      · omega
  · have hjp' : ¬ (j : Int) < p.length := by omega
    have htk : (Ag p).take j = Ag p := List.take_of_length_le (by rw [FT]; omega)
    rw [htk] at hxs
    have hz1 : z = 1 ∨ xs = [] := by
      by_cases ht : t = .nil
      · subst ht
        refine .inr (List.length_eq_zero_iff.1 ?_)
        rw [hjl2]; exact hT
      · exact .inl (hz ht)
    unfold aSs at hja
    rw [← hxs] at hja
    
    repeat' (first | (simp -implicitDefEqProofs [Q3, VH, -getElem?_pos, hjp', q5]) | (simp (disch := omega) only [AF]) | ((with_reducible refine AJ 83 ?_); refine CallP.of hja (AL (EG hz1) (A0 _)) ?_) | (with_reducible first | refine A7 ?_ ?_ ?_ | exact AB | assumption | refine A3 ?_ | refine KM.of ?_ | refine AG ?_ | refine A2 ?_ | refine A6 ?_ | refine A5 ?_ | refine AH ?_ | refine AA ?_ | intro _g _hg | refine AE ?_ ?_ | intro _hc) | omega)
    all_goals exact A1 _
def YY (s : St) : AW × (Int × Int) := if (Cl s).1 ≠ 0 then ([], Cl s) else if 4000 < (B0 s).length then ([], (14, -1)) else (B0 s, (0, 0))
theorem Y7 (s : St) (hf : EN s) : APure Tryz.prog 23 [encS s] (.tup [.str (YY s).1, aF (YY s).2]) := by
  have hv := Fm s hf
  have hok := @Hg s
  have htx := fun (h : (Cl s).1 = 0) => ZW s hf (hok h).2.1 (hok h).2.2.1 (hok h).2.2.2
  unfold YY
  generalize Cl s = f at *
  generalize B0 s = tx at *
  obtain ⟨k, o, m, v, p⟩ := s
  rw [AQ] at *
  by_cases h0 : f.1 = 0
  · rw [if_neg (fun h => h h0)]
    have htx := htx h0
    have hf0 := (hok h0).1
    by_cases hl : 4000 < tx.length
    · rw [if_pos hl]
      have hl' : (4000 : Int) < tx.length := by omega
      
      refine A9 Tryz.func23 W4 rfl fun n H hH => ?_
      repeat' (first | (simp -implicitDefEqProofs [Ms, Md, c23, -getElem?_pos, h0, hl', splice]) | (simp (disch := omega) only [AF]) | ((with_reducible refine Ay 39 ?_); refine ⟨_, Ex _ _, ?_⟩; rintro r n' H' hle hsup ⟨gm, rfl, hg1, rfl, rfl⟩; dsimp only at hg1 hle) | ((with_reducible refine KC.of ?_ ?_); rotate_left 1) | ((with_reducible refine AJ 15 ?_); refine' AZ (hv) ?_) | ((with_reducible refine Ay 52 ?_); (refine' CallK.sfAt ?_ ((htx _ _ _ (AX _ _ _))) ?_); (focus first | (with_reducible exact A0 _) | (simp [AC, A8, A1, A0]; done))) | (with_reducible first | refine A7 ?_ ?_ ?_ | exact AB | assumption | refine A3 ?_ | refine KM.of ?_ | refine AG ?_ | refine A2 ?_ | refine A5 ?_ | intro _g _hg | refine AE ?_ ?_ | intro _hc) | omega)
      all_goals first | exact A1 _ | exact KeepM.rfl_ _ _ | exact KeepM.new (by simp (disch := omega) only [upd_ne]; exact hH _ (by omega)) | (intro g hg; simp (disch := omega) only [upd_ne])
    · rw [if_neg hl]
      have hl' : ¬ (4000 : Int) < tx.length := by omega
      
      refine A9 Tryz.func23 W4 rfl fun n H hH => ?_
      repeat' (first | (simp -implicitDefEqProofs [Ms, Md, c23, -getElem?_pos, h0, hl', splice]) | (simp (disch := omega) only [AF]) | ((with_reducible refine Ay 39 ?_); refine ⟨_, Ex _ _, ?_⟩; rintro r n' H' hle hsup ⟨gm, rfl, hg1, rfl, rfl⟩; dsimp only at hg1 hle) | ((with_reducible refine KC.of ?_ ?_); rotate_left 1) | ((with_reducible refine AJ 15 ?_); refine' AZ (hv) ?_) | ((with_reducible refine Ay 52 ?_); (refine' CallK.sfAt ?_ ((htx _ _ _ (AX _ _ _))) ?_); (focus first | (with_reducible exact A0 _) | (simp [AC, A8, A1, A0]; done))) | (with_reducible first | refine A7 ?_ ?_ ?_ | exact AB | assumption | refine A3 ?_ | refine KM.of ?_ | refine AG ?_ | refine A2 ?_ | refine A5 ?_ | intro _g _hg | refine AE ?_ ?_ | intro _hc) | omega)
      all_goals first | exact A1 _ | exact KeepM.rfl_ _ _ | exact KeepM.new (by simp (disch := omega) only [upd_ne]; exact hH _ (by omega)) | (intro g hg; simp (disch := omega) only [upd_ne])
  · rw [if_pos h0]
    
    refine A9 Tryz.func23 W4 rfl fun n H hH => ?_
    repeat' (first | (simp -implicitDefEqProofs [Ms, Md, c23, -getElem?_pos, h0, splice]) | (simp (disch := omega) only [AF]) | ((with_reducible refine AJ 15 ?_); refine' AZ (hv) ?_) | (with_reducible first | refine A7 ?_ ?_ ?_ | exact AB | assumption | refine A3 ?_ | refine KM.of ?_ | refine AG ?_ | refine A2 ?_ | refine A5 ?_ | intro _g _hg | refine AE ?_ ?_ | intro _hc) | omega)
    all_goals first | exact A1 _ | (intro g hg; simp (disch := omega) only [upd_ne])
def Uq (s : St) (m : Int) : AV :=
  if (Cl s).1 ≠ 0 then .tup [.sl 1 [] .ro, .sl 1 [] .ro, .bool false, aF (Cl s)]
  else if ¬ (0 ≤ m ∧ m ≤ 5000) then .tup [.sl 1 [] .ro, .sl 1 [] .ro, .bool false, aF (4, -2)]
  else .tup [.sl 1 ((((Av s).l.map (·.1)).take m.toNat).map aI) .ro, .sl 1 ((if m.toNat ≤ (Av s).l.length then IM (Av s) m.toNat else (Av s).fin).map aI) .ro, .bool (decide ((Av s).l.length < m.toNat)), aF (0, 0)]
theorem Mq {c d : AV} : A8 (.tup [.sl 0 [] .nil, .sl 0 [] .nil, c, d]) (.tup [.sl 1 [] .ro, .sl 1 [] .ro, c, d]) :=
  ⟨_, rfl, _, _, rfl, ⟨1, [], .ro, rfl, .inl rfl, .inr ⟨rfl, rfl⟩, rfl⟩, _, _, rfl, ⟨1, [], .ro, rfl, .inl rfl, .inr ⟨rfl, rfl⟩, rfl⟩, A0 _⟩
theorem Ym (s : St) (hf : EN s) (m : Int) (h : (Cl s).1 ≠ 0 ∨ ¬ (0 ≤ m ∧ m ≤ 5000)) : APure Tryz.prog 18 [encS s, aI m] (Uq s m) := by
  have hv := Fm s hf
  unfold Uq
  have h00 : (Cl s).1 = 0 → Cl s = (0, 0) := fun h => (Hg h).1
  generalize Av s = F
  generalize Cl s = f at *
  obtain ⟨k, o, m', v, p⟩ := s
  rw [AQ] at *
  generalize v.map aI = va at *
  generalize Ae p = ep at *
  
  refine A9 Tryz.func18 ZI rfl fun n H hH => ?_
  by_cases h0 : f.1 = 0
  · have h2 := h.resolve_left (by simpa using h0)
    have h01 := h00 h0
    rw [if_neg (by simpa using h0), if_pos h2]
    by_cases hm0 : m < 0
    · repeat' (first | (simp -implicitDefEqProofs [c18, Ej, -getElem?_pos, h0, hm0, splice, Mq]) | (simp (disch := omega) only [AF]) | ((with_reducible refine AJ 15 ?_); refine' AZ (hv) ?_) | (with_reducible first | refine A7 ?_ ?_ ?_ | exact AB | refine SameB.upd ?_ ?_ _ | assumption | refine A3 ?_ | refine KM.of ?_ | refine AG ?_ | refine A2 ?_ | refine A6 ?_ | refine A5 ?_ | refine AH ?_ | refine AA ?_ | intro _g _hg | refine AE ?_ ?_ | intro _hc) | omega)
      all_goals first | exact Mq | omega
    · have hm1 : (5000 : Int) < m := by omega
      repeat' (first | (simp -implicitDefEqProofs [c18, Ej, -getElem?_pos, h0, hm0, hm1, splice, Mq]) | (simp (disch := omega) only [AF]) | ((with_reducible refine AJ 15 ?_); refine' AZ (hv) ?_) | (with_reducible first | refine A7 ?_ ?_ ?_ | exact AB | refine SameB.upd ?_ ?_ _ | assumption | refine A3 ?_ | refine KM.of ?_ | refine AG ?_ | refine A2 ?_ | refine A6 ?_ | refine A5 ?_ | refine AH ?_ | refine AA ?_ | intro _g _hg | refine AE ?_ ?_ | intro _hc) | omega)
      all_goals first | exact Mq | omega
  · rw [if_pos h0]
    repeat' (first | (simp -implicitDefEqProofs [c18, Ej, -getElem?_pos, h0, splice, Mq]) | (simp (disch := omega) only [AF]) | ((with_reducible refine AJ 15 ?_); refine' AZ (hv) ?_) | (with_reducible first | refine A7 ?_ ?_ ?_ | exact AB | refine SameB.upd ?_ ?_ _ | assumption | refine A3 ?_ | refine KM.of ?_ | refine AG ?_ | refine A2 ?_ | refine A6 ?_ | refine A5 ?_ | refine AH ?_ | refine AA ?_ | intro _g _hg | refine AE ?_ ?_ | intro _hc) | omega)
    all_goals first | exact Mq | omega
theorem VO (l : List Int) : Aa (l.map aI) = l.map aI := by
  induction l with
  | nil => rfl
  | cons x l ih => simp only [Aa, List.map_cons, List.flatMap_cons] at ih ⊢; rw [ih]; rfl
theorem Vp (s : St) (hf : EN s) (hs0 : (Cl s).1 = 0) (hop : HU s) (m : Nat) (hm : m ≤ 5000) (n : Nat) (H : A4) : ACalls Tryz.prog 18 [encS s, aI m] n H (A13 n H (((Av s).l.map (·.1)).take m) (if m ≤ (Av s).l.length then IM (Av s) m else (Av s).fin) (decide ((Av s).l.length < m))) := by
  have hv := Fm s hf
  obtain ⟨h00, hok, hsm, hsz⟩ := Hg hs0
  have hmon := Ue s
  rw [h00] at hv
  unfold HU at hop
  generalize hR : A13 _ _ _ _ _ = R
  generalize Bh s = sz at *
  generalize Av s = F at *
  obtain ⟨k, o, m', v, p⟩ := s
  rw [AQ] at *
  generalize v.map aI = va at *
  generalize Ae p = ep at *
  have hm0 : ¬ (m : Int) < 0 := by omega
  have hm1 : ¬ (5000 : Int) < m := by omega
  refine Ab Tryz.func18 ZI rfl fun hs => ?_
  repeat' (first | (simp -implicitDefEqProofs [c18, Ej, ID, -getElem?_pos, hm0, hm1, splice]) | (simp (disch := omega) only [AF]) | ((with_reducible refine Ay 43 ?_); refine ⟨_, hop _g _ _ [] none (by simp; omega) ⟨rfl, by simp (disch := omega) only [upd_ne, AX] <;> rfl⟩, ?_⟩; rintro r n' H' hle hsup hpost) | ((with_reducible refine AJ 15 ?_); refine' AZ (hv) ?_) | (with_reducible first | refine A7 ?_ ?_ ?_ | exact AB | assumption | refine A3 ?_ | refine KM.of ?_ | refine AG ?_ | refine A2 ?_ | refine A6 ?_ | refine A5 ?_ | refine AH ?_ | refine AA ?_ | intro _g _hg | refine AE ?_ ?_ | intro _hc) | omega)
  rename_i ga hga g7 hg7 g8 hg8
  dsimp only at hpost
  obtain ⟨h1, h2, h3, gg, h4, h5, h6, h7, O', h8, h9, h10⟩ := hpost
  have hgg : _g + 1 ≤ gg := h5.resolve_left (fun e => by cases e)
  have hou : ∀ g, OU [⟨r, some F.l, F.cur, F.fin, O'⟩] g ↔ O' g := fun g => by simp [OU]
  have hlo : ∀ k, k < _g + 1 → k ≠ _g → H' k = _ := fun k a1 a2 => h7 k a1 a2 (by simp)
  refine Wl (n := n) hm h1 (O := O') ⟨⟨⟨h10, hmon.1⟩, fun g hg => (h8 g hg).2, fun g _ h => h, trivial⟩, ⟨by simpa using h4.1, by simpa using h4.2, by simp [Ap], by simp [Ap]⟩, fun h => h9 ((hou gg).1 h), fun h => by have := h8 _g ((hou _g).1 h); omega, h3⟩ (by omega) (by omega) (by omega) (fun g hg => by have := h8 g ((hou g).1 hg); omega) (fun k hk => by rw [hlo k (by omega) (by omega)]; simp (disch := omega) only [upd_ne]) ⟨fun h => by have := h8 g7 ((hou g7).1 h); omega, by omega, by omega, by rw [hlo g7 (by omega) (by omega)]; simp (disch := omega) only [upd_ne, AX] <;> rfl⟩ (by omega) (by omega) hR.symm rfl
theorem A0w (s : St) (hf : EN s) (ho : (Cl s).1 = 0 → HU s) (m : Int) : APure Tryz.prog 18 [encS s, aI m] (Uq s m) := by
  by_cases h : (Cl s).1 ≠ 0 ∨ ¬ (0 ≤ m ∧ m ≤ 5000)
  · exact Ym s hf m h
  · have hs0 : (Cl s).1 = 0 := Decidable.not_not.1 fun h' => h (.inl h')
    have hm : 0 ≤ m ∧ m ≤ 5000 := Decidable.not_not.1 fun h' => h (.inr h')
    obtain ⟨j, rfl⟩ : ∃ j : Nat, m = j := ⟨m.toNat, by omega⟩
    intro n H
    have hv : Uq s j = .tup [.sl 1 ((((Av s).l.map (·.1)).take j).map aI) .ro, .sl 1 ((if j ≤ (Av s).l.length then IM (Av s) j else (Av s).fin).map aI) .ro, .bool (decide ((Av s).l.length < j)), aF (0, 0)] := by
      rw [Uq, if_neg (by simpa using hs0), if_neg (by simpa using hm), Int.toNat_natCast]
    rw [hv]
    generalize hcs : (if j ≤ (Av s).l.length then IM (Av s) j else (Av s).fin) = cs
    have h1 := Vp s hf hs0 (ho hs0) j (by omega) n H
    rw [hcs] at h1
    refine (ACalls.frz (R' := fun r n' H' => n ≤ n' ∧ SameB n H H' ∧ r = .tup [.sl 1 ((((Av s).l.map (·.1)).take j).map aI) .ro, .sl 1 (cs.map aI) .ro, .bool (decide ((Av s).l.length < j)), aF (0, 0)]) h1 ?_).forget ?_
    · rintro r n' H' hn ⟨h1, h2, h3, gg, h4, h5, rfl⟩
      refine ⟨gg, _, 1, cs.map aI, by rw [h5, VO], by kernel_rfl, by omega, fun x hx => ?_, h1, fun k hk => by rw [upd_ne (by omega)]; exact h3 k hk, ?_⟩
      · obtain ⟨y, _, rfl⟩ := List.mem_map.1 hx; rfl
      · simp [Nj, RE]
    · rintro r n' H' hn ⟨h1, h2, rfl⟩
      exact ⟨h2, rfl, rfl, rfl⟩
theorem Sv (a b : List Int) (ha : a.length ≤ 140737488355328) : APure Tryz.prog 22 [.sl 1 (a.map aI) .ro, .sl 1 (b.map aI) .ro] (.bool (decide (a = b))) := by
  have hal : (a.map aI).length = a.length := by simp
  have hbl : (b.map aI).length = b.length := by simp
  by_cases hl : a.length = b.length
  · have hl' : (a.length : Int) = b.length := by omega
    
    refine A9 Tryz.func22 Z9 rfl fun n H hH => ?_
    repeat' (first | (simp -implicitDefEqProofs [c22, GZ, Gf, GW, GX, Gm, c22, -getElem?_pos, hal, hbl, hl, hl']) | (simp (disch := omega) only [AF]) | (with_reducible first | refine A7 ?_ ?_ ?_ | exact AB | refine SameB.upd ?_ ?_ _ | assumption | refine A3 ?_ | refine KM.of ?_ | refine AG ?_ | intro _g _hg | refine AE ?_ ?_ | intro _hc) | omega)
    refine LoopK.go (fun r st => ∃ j : Nat, j + r = a.length ∧ st = ⟨[(0, .sl 1 (a.map aI) .ro), (1, .sl 1 (b.map aI) .ro), (5, aI j)], n, H⟩ ∧ a.take j = b.take j) a.length ⟨0, by omega, rfl, rfl⟩ ?_
    rintro r st ⟨j, hj, rfl, hE⟩ J hJ
    by_cases hjl : j < a.length
    · obtain ⟨x, hx⟩ : ∃ x, a[j]? = some x := ⟨_, List.getElem?_eq_getElem hjl⟩
      obtain ⟨y, hy⟩ : ∃ y, b[j]? = some y := ⟨_, List.getElem?_eq_getElem (by omega)⟩
      have hxa := JL (f := aI) hx
      have hya := JL (f := aI) hy
      have hjl' : (j : Int) < a.length := by omega
      by_cases hxy : x = y
      · subst hxy
        have hE2 : a.take (j + 1) = b.take (j + 1) := by rw [List.take_succ, List.take_succ, hE, hx, hy]
        generalize a.map aI = aa at *
        generalize b.map aI = ba at *
        
        repeat' (first | (simp -implicitDefEqProofs [GZ, Gf, GW, GX, Gm, c22, -getElem?_pos, hal, hbl, hl, hl', hxa, hya, hjl']) | (simp (disch := omega) only [AF]) | (with_reducible first | refine A7 ?_ ?_ ?_ | exact AB | refine SameB.upd ?_ ?_ _ | assumption | refine A3 ?_ | refine KM.of ?_ | refine AG ?_ | intro _g _hg | refine AE ?_ ?_ | intro _hc) | omega)
        exact hJ (r - 1) _ (by omega) ⟨j + 1, by omega, rfl, hE2⟩
      · have hne : ¬ a = b := fun e => by subst e; rw [hx] at hy; injection hy with hy; exact hxy hy
        rw [decide_eq_false hne]
        generalize a.map aI = aa at *
        generalize b.map aI = ba at *
        
        repeat' (first | (simp -implicitDefEqProofs [GZ, Gf, GW, GX, Gm, c22, -getElem?_pos, hal, hbl, hl, hl', hxa, hya, hjl', hxy, A8]) | (simp (disch := omega) only [AF]) | (with_reducible first | refine A7 ?_ ?_ ?_ | exact AB | refine SameB.upd ?_ ?_ _ | assumption | refine A3 ?_ | refine KM.of ?_ | refine AG ?_ | intro _g _hg | refine AE ?_ ?_ | intro _hc) | omega)
    · have hjl' : ¬ (j : Int) < a.length := by omega
      rw [List.take_of_length_le (by omega), List.take_of_length_le (by omega)] at hE
      rw [decide_eq_true hE]
      generalize a.map aI = aa at *
      generalize b.map aI = ba at *
      
      repeat' (first | (simp -implicitDefEqProofs [GZ, Gf, GW, GX, Gm, c22, -getElem?_pos, hal, hbl, hl, hl', hjl', A8]) | (simp (disch := omega) only [AF]) | (with_reducible first | refine A7 ?_ ?_ ?_ | exact AB | refine SameB.upd ?_ ?_ _ | assumption | refine A3 ?_ | refine KM.of ?_ | refine AG ?_ | intro _g _hg | refine AE ?_ ?_ | intro _hc) | omega)
  · have hl' : ¬ (a.length : Int) = b.length := by omega
    have hne : ¬ a = b := fun e => hl (by rw [e])
    rw [decide_eq_false hne]
    generalize a.map aI = aa at *
    generalize b.map aI = ba at *
    
    refine A9 Tryz.func22 Z9 rfl fun n H hH => ?_
    repeat' (first | (simp -implicitDefEqProofs [GZ, Gf, GW, GX, Gm, c22, -getElem?_pos, hal, hbl, hl, hl', A8]) | (simp (disch := omega) only [AF]) | (with_reducible first | refine A7 ?_ ?_ ?_ | exact AB | refine SameB.upd ?_ ?_ _ | assumption | refine A3 ?_ | refine KM.of ?_ | refine AG ?_ | intro _g _hg | refine AE ?_ ?_ | intro _hc) | omega)
def s0 : St := .mk 5 0 2 [] [.mk 4 3 3 [] [.mk 2 0 0 [1, 100, 1] []]]
theorem Zi {o m : Int} {v : List Int} {x : St} (h1 : 1 ≤ o ∧ o ≤ 3) (h2 : IX m) (h3 : o = 3 → 1 ≤ m) (hr : rgE (Av x).l) : UC 4 o m v [x] := by
  intro gO n n1 gs g5 cs q q1 H H1 ps hF hO hps q3
  obtain ⟨pa, rfl⟩ : ∃ pa, ps = [pa] := by
    match ps, congrArg List.length hF with
    | [pa], _ => exact ⟨pa, rfl⟩
  simp only [List.map_cons, List.map_nil, List.cons.injEq, and_true] at hF
  obtain ⟨f0, a0, w0, O1, rfl⟩ := ZG hF (hO.all pa (by simp))
  have e : Av (.mk 4 o m v [x]) = IP 4 o m (Av x) := by simp [Av, HW, Fo]
  rw [e]
  generalize Av x = F at *
  rw [show IP 4 o m F = ⟨F.cur, F.l.filter fun e => RJ o e.1 m, F.fin⟩ by simp [IP]]
  exact Y6 (o := o) (m := m) h1 h2 h3 hr hO q3
theorem A1l {o : Int} {j : Nat} {v : List Int} {x : St} (h1 : j ≤ 5000) : UC 5 o j v [x] := by
  intro gO n n1 gs g5 cs q q1 H H1 ps hF hO hps q3
  obtain ⟨pa, rfl⟩ : ∃ pa, ps = [pa] := by
    match ps, congrArg List.length hF with
    | [pa], _ => exact ⟨pa, rfl⟩
  simp only [List.map_cons, List.map_nil, List.cons.injEq, and_true] at hF
  obtain ⟨f0, a0, w0, O1, rfl⟩ := ZG hF (hO.all pa (by simp))
  have e : Av (.mk 5 o j v [x]) = IP 5 o j (Av x) := by simp [Av, HW, Fo]
  rw [e]
  generalize Av x = F at *
  rw [show IP 5 o j F = ⟨F.cur, (EP j F.cur F.l F.fin).1, (EP j F.cur F.l F.fin).2⟩ by simp [IP]]
  exact YZ (j := j) h1 hO q3
theorem Xu (h : (Cl s0).1 = 0) : HU s0 := by
  obtain ⟨_, hok, _, _⟩ := Hg h
  have hr := (YF _ hok.2.1.2.1).2
  have hl : HU (.mk 2 0 0 [1, 100, 1] []) := fun gO n H cs q hcs hL => Yg hL fun n1 H1 h1 => by
    have e : Av (.mk 2 0 0 [1, 100, 1] []) = LA (Fv [1, 100, 1]) := by simp [Av, Fo]
    rw [e]
    exact Vq (by omega) (by omega) h1
  have hone : ∀ {x y : St}, HU y → x ∈ [y] → HU x := fun hy hx => by
    rw [List.mem_singleton] at hx; subst hx; exact hy
  have hf : HU (.mk 4 3 3 [] [.mk 2 0 0 [1, 100, 1] []]) := SD (Zi (by omega) (by unfold IX; omega) (by omega) hr) (by simp) (by simp [C2, Bh]) fun x hx => hone hl hx
  exact SD (A1l (j := 2) (by omega)) (by simp) (by simp [C2, Bh]) fun x hx => hone hf hx
abbrev tx0 : AW := [116, 97, 107, 101, 40, 50, 44, 102, 105, 108, 116, 101, 114, 40, 100, 105, 118, 105, 115, 105, 98, 108, 101, 32, 51, 44, 114, 97, 110, 103, 101, 40, 49, 44, 49, 48, 48, 44, 49, 41, 41, 41]
abbrev tx1 : AW := [114, 97, 110, 103, 101, 40, 48, 44, 51, 44, 49, 41]
def WF (n : Int) : St := .mk 2 0 0 [0, n, 1] []
theorem A1o : PM tx0 = (s0, (0, 0)) := by kernel_rfl
theorem A0i : Uq s0 5 = .tup [.sl 1 ([3, 6].map aI) .ro, .sl 1 ([6].map aI) .ro, .bool true, aF (0, 0)] := by kernel_rfl
theorem A1a : Zu s0 = .tup [aI 2, aF (0, 0)] := by kernel_rfl
theorem Zy : YY (WF 3) = (tx1, (0, 0)) := by kernel_rfl
theorem Tb (n : Int) : APure Tryz.prog 42 [aI n] (encS (WF n)) := by
  rw [WF, AQ]
  
  refine A9 Tryz.func42 A2p rfl fun n H hH => ?_
  repeat' (first | (simp -implicitDefEqProofs [c42, -getElem?_pos, splice]) | (simp (disch := omega) only [AF]) | (with_reducible first | refine A7 ?_ ?_ ?_ | exact AB | refine SameB.upd ?_ ?_ _ | assumption | refine A3 ?_ | refine KM.of ?_ | refine AG ?_ | refine A2 ?_ | refine A6 ?_ | refine A5 ?_ | refine AH ?_ | refine AA ?_ | intro _g _hg | refine AE ?_ ?_ | intro _hc) | omega)
  all_goals first | exact CI (AL (A1 _) (AL (A1 _) (AL (A1 _) (AL (EG (.inl rfl)) (AL Bq (A0 _)))))) | (intro g hg; simp (disch := omega) only [upd_ne])
theorem TM : APure Tryz.prog 16 [] (.bool true) := by
  have h1 := UH tx0
  have h2 := A0w s0 ⟨by decide, by decide, ⟨by decide, by decide, ⟨by decide, by decide, trivial⟩, trivial⟩, trivial⟩ Xu 5
  have h3 := Tb 3
  have h4 := Y7 (WF 3) ⟨by decide, by decide, trivial⟩
  have h5 := W1 s0 ⟨by decide, by decide, ⟨by decide, by decide, ⟨by decide, by decide, trivial⟩, trivial⟩, trivial⟩
  have h6 := Sv [3, 6] [3, 6] (by decide)
  have h7 := Sv [6] [6] (by decide)
  rw [A1o] at h1
  rw [A0i] at h2
  rw [Zy] at h4
  rw [A1a] at h5
  rw [decide_eq_true rfl] at h6 h7
  dsimp only at h1 h4
  have hs : ∃ k o m v p, s0 = .mk k o m v p := ⟨_, _, _, _, _, rfl⟩
  have hc : ∃ k o m v p, WF 3 = .mk k o m v p := ⟨_, _, _, _, _, rfl⟩
  obtain ⟨k, o, m, v, p, hs⟩ := hs
  obtain ⟨k', o', m', v', p', hc⟩ := hc
  rw [hs] at h1 h2 h5
  rw [hc] at h3 h4
  rw [AQ] at h1 h2 h3 h4 h5
  
  refine A9 Tryz.func16 A21 rfl fun n H hH => ?_
  repeat' (first | (simp -implicitDefEqProofs [c16, -getElem?_pos, splice]) | (simp (disch := omega) only [AF]) | ((with_reducible refine AJ 22 ?_); refine CallP.of h6 (AL (A1 _) (AL (EG (.inl rfl)) (A0 _))) ?_) | ((with_reducible refine AJ 22 ?_); refine CallP.of h7 (AL (A1 _) (AL (EG (.inl rfl)) (A0 _))) ?_) | ((with_reducible refine AJ 25 ?_); (refine' CallP.sf ?_ (h1) ?_); (focus first | (with_reducible exact A0 _) | (simp [AC, A8, A1, A0]; done) | ((repeat (first | (with_reducible exact A1 _) | (exact simL_nil0) | (refine AL ?_ ?_) | (exact Bq) | (refine simA_sl0 ?_) | (refine CI ?_))); done))) | ((with_reducible refine AJ 18 ?_); (refine' CallP.sf ?_ (h2) ?_); (focus first | (with_reducible exact A0 _) | (simp [AC, A8, A1, A0]; done) | ((repeat (first | (with_reducible exact A1 _) | (exact simL_nil0) | (refine AL ?_ ?_) | (exact Bq) | (refine simA_sl0 ?_) | (refine CI ?_))); done))) | ((with_reducible refine AJ 42 ?_); (refine' CallP.sf ?_ (h3) ?_); (focus first | (with_reducible exact A0 _) | (simp [AC, A8, A1, A0]; done) | ((repeat (first | (with_reducible exact A1 _) | (exact simL_nil0) | (refine AL ?_ ?_) | (exact Bq) | (refine simA_sl0 ?_) | (refine CI ?_))); done))) | ((with_reducible refine AJ 23 ?_); (refine' CallP.sf ?_ (h4) ?_); (focus first | (with_reducible exact A0 _) | (simp [AC, A8, A1, A0]; done) | ((repeat (first | (with_reducible exact A1 _) | (exact simL_nil0) | (refine AL ?_ ?_) | (exact Bq) | (refine simA_sl0 ?_) | (refine CI ?_))); done))) | ((with_reducible refine AJ 13 ?_); (refine' CallP.sf ?_ (h5) ?_); (focus first | (with_reducible exact A0 _) | (simp [AC, A8, A1, A0]; done) | ((repeat (first | (with_reducible exact A1 _) | (exact simL_nil0) | (refine AL ?_ ?_) | (exact Bq) | (refine simA_sl0 ?_) | (refine CI ?_))); done))) | (with_reducible first | refine A7 ?_ ?_ ?_ | exact AB | refine SameB.upd ?_ ?_ _ | assumption | refine A3 ?_ | refine KM.of ?_ | refine AG ?_ | refine A2 ?_ | refine A6 ?_ | refine A5 ?_ | refine AH ?_ | refine AA ?_ | intro _g _hg | refine AE ?_ ?_ | intro _hc) | omega)
  all_goals exact A1 _
theorem WL (s : St) : EN s → APure Tryz.prog 26 [encS s, encS s] (.bool true) := by
  refine St.ind (Q := fun s => EN s → APure Tryz.prog 26 [encS s, encS s] (.bool true)) ?_ s
  intro k o m v p ih hf
  obtain ⟨hv, hp, hpp⟩ := hf
  have hin := Sv v v hv
  rw [decide_eq_true rfl] at hin
  have hpl := BB p
  rw [AQ]
  
  refine A9 Tryz.func26 A2b rfl fun n H hH => ?_
  repeat' (first | (simp -implicitDefEqProofs [c26, Mm, -getElem?_pos, hpl, splice]) | (simp (disch := omega) only [AF]) | ((with_reducible refine AJ 22 ?_); refine' AZ (hin) ?_) | (with_reducible first | refine A7 ?_ ?_ ?_ | exact AB | assumption | refine A3 ?_ | refine KM.of ?_ | refine AG ?_ | refine A2 ?_ | refine A5 ?_ | intro _g _hg | refine AE ?_ ?_ | intro _hc) | omega)
  rename_i g2 hg2
  generalize hH1 : upd (upd H g2 _) _g _ = H1
  have q2 : H1 g2 = some (Aj k o m (P3 v) (.sl 5 (Ae p) .ro)) := by rw [← hH1]; simp (disch := omega) only [upd_ne, AX]
  have q3 : H1 _g = some (Aj k o m (P3 v) (.sl 5 (Ae p) .ro)) := by rw [← hH1]; simp (disch := omega) only [upd_ne, AX]
  have hsame : SameB n H H1 := fun g hg => by rw [← hH1]; simp (disch := omega) only [upd_ne]
  refine LoopK.go (fun q st => ∃ j : Nat, j + q = p.length ∧ st = ⟨[(2, .ptr g2 0), (3, .ptr _g 0), (5, aI j)], _g + 1, H1⟩) p.length ⟨0, by omega, rfl⟩ ?_
  rintro q st ⟨j, hj, rfl⟩ J hJ
  by_cases hjp : j < p.length
  · obtain ⟨s, hs⟩ : ∃ s, p[j]? = some s := ⟨_, List.getElem?_eq_getElem hjp⟩
    have hsm2 := List.mem_of_getElem? hs
    have hst := ih s hsm2 (Cz hpp s hsm2)
    have hse := Er hs
    have hjp' : (j : Int) < p.length := by omega
    obtain ⟨k', o', m', v', p'⟩ := s
    rw [AQ] at hst hse
    
    repeat' (first | (simp -implicitDefEqProofs [Pk, Po, QK, QV, Mm, c26, -getElem?_pos, q2, q3, hjp', hpl, hse, splice]) | (simp (disch := omega) only [AF]) | ((with_reducible refine AJ 26 ?_); refine' AZ (hst) ?_) | (with_reducible first | refine A7 ?_ ?_ ?_ | exact AB | assumption | refine A3 ?_ | refine KM.of ?_ | refine AG ?_ | refine A2 ?_ | refine A5 ?_ | intro _g _hg | refine AE ?_ ?_ | intro _hc) | omega)
    exact hJ (q - 1) _ (by omega) ⟨j + 1, by omega, rfl⟩
  · have hjp' : ¬ (j : Int) < p.length := by omega
    
    repeat' (first | (simp -implicitDefEqProofs [Pk, Po, QK, QV, Mm, c26, -getElem?_pos, q2, hjp', hpl, splice]) | (simp (disch := omega) only [AF]) | (with_reducible first | refine A7 ?_ ?_ ?_ | exact AB | assumption | refine A3 ?_ | refine KM.of ?_ | refine AG ?_ | refine A2 ?_ | refine A5 ?_ | intro _g _hg | refine AE ?_ ?_ | intro _hc) | omega)
    all_goals first | exact A1 _ | exact hsame
theorem tf {a : Bool} {P : Prop} (h : a = false) (e : a = true) : P := by rw [h] at e; cases e
theorem ft {a : Bool} {P : Prop} (h : a = true) (e : a = false) : P := by rw [h] at e; cases e
def Eu (n : Int) : Prop := 0 ≤ n ∧ n ≤ 999999999
theorem MW {n : Int} (h : 0 ≤ n) : Lib.itoa n = Lib.decDigits n.toNat := by
  obtain ⟨u, rfl⟩ : ∃ u : Nat, n = u := ⟨n.toNat, by omega⟩
  rw [Lib.itoa_nonneg]; simp
theorem HM {n : Int} (h : 0 ≤ n) : ∀ c ∈ Lib.itoa n, Af c = true := by
  rw [MW h]; exact Eo _
theorem Np {n : Int} (h : 0 ≤ n) : Lib.itoa n ≠ [] := by
  rw [MW h]; exact Me _
theorem Pp {n : Int} (h : Eu n) : ER (Lib.itoa n) = (n, true) := by
  obtain ⟨h1, h2⟩ := h
  unfold ER
  rw [Q9 ⟨by omega, h2⟩]
  simp only [decide_true, Bool.and_true]
  rw [MW h1, decide_eq_true ((HJ _).2 (by omega))]
theorem Ui : Af 45 = false := by decide
theorem Ua {d : AW} (hd : ∀ c ∈ d, Af c = true) (h : (ER d).2 = true) : Lib.itoa (ER d).1 = d ∧ Eu (ER d).1 := by
  unfold ER at h ⊢
  split at h
  · rename_i v hv
    simp only [Bool.and_eq_true, decide_eq_true_eq] at h
    simp only [hv]
    obtain ⟨h1, h2⟩ := h
    refine ⟨h2, ?_⟩
    by_cases c : v < 0
    · obtain ⟨u, rfl⟩ : ∃ u : Nat, v = -(u : Int) := ⟨v.natAbs, by omega⟩
      rw [Lib.itoa_neg u (by omega)] at h2
      have := hd 45 (by rw [← h2]; exact List.mem_cons_self)
      rw [Ui] at this; cases this
    · rw [MW (by omega)] at h2
      rw [← h2, HJ] at h1
      exact ⟨by omega, by omega⟩
  · cases h
  · cases h
theorem ED {p : UInt8 → Bool} {b : AW} (hb : ∀ c t, b = c :: t → p c = false) : ∀ {a : AW}, (∀ c ∈ a, p c = true) → (a ++ b).takeWhile p = a ∧ (a ++ b).dropWhile p = b
  | [], _ => by
    cases b with
    | nil => exact ⟨rfl, rfl⟩
    | cons c t => have := hb c t rfl; simp [List.takeWhile_cons, List.dropWhile_cons, this]
  | x :: a, ha => by
    have h1 := ha x List.mem_cons_self
    obtain ⟨h2, h3⟩ := ED hb (a := a) fun c hc => ha c (List.mem_cons_of_mem _ hc)
    simp [List.takeWhile_cons, List.dropWhile_cons, h1, h2, h3]
theorem G3 (p : UInt8 → Bool) (r : AW) : r = r.takeWhile p ++ r.dropWhile p := (List.takeWhile_append_dropWhile).symm
abbrev jn (l : List AW) : AW := Lib.join l [44]
abbrev jt (l : List AW) : AW := Lib.joinTail [44] l
theorem BC (x : AW) (l : List AW) : jn (x :: l) = x ++ jt l := Lib.join_cons x l [44]
theorem EI (x : AW) (l : List AW) : jt (x :: l) = 44 :: (x ++ jt l) := by simp [jt, Lib.joinTail]
theorem Bu : jt [] = [] := rfl
theorem Cw : jn [] = [] := Lib.join_nil [44]
theorem WQ {l : List AW} (h : l ≠ []) : jt l = 44 :: jn l := by
  obtain ⟨x, r, rfl⟩ := List.exists_cons_of_ne_nil h
  rw [EI, BC]
theorem Zj (a b : List AW) : jt (a ++ b) = jt a ++ jt b := by simp [jt, Lib.joinTail]
theorem A0d {a : List AW} (h : a ≠ []) (b : List AW) : jn (a ++ b) = jn a ++ jt b := by
  obtain ⟨x, r, rfl⟩ := List.exists_cons_of_ne_nil h
  rw [List.cons_append, BC, BC, Zj, List.append_assoc]
theorem HP {c : UInt8} {r : AW} (h : (acc c r).2 = true) : r = c :: (acc c r).1 := by
  cases r with
  | nil => cases h
  | cons x r =>
    rw [HQ] at h ⊢
    split
    · rename_i e; rw [e]
    · rename_i e; rw [if_neg e] at h; cases h
theorem Ha (c : UInt8) (r : AW) : acc c (c :: r) = (r, true) := by rw [HQ, if_pos rfl]
theorem SV {c x : UInt8} (h : x ≠ c) (r : AW) : acc c (x :: r) = (x :: r, false) := by rw [HQ, if_neg h]
theorem W8 : ∀ {f : Nat} {r : AW} {vs : List Int} {y : List Int × AW}, NB f r vs = some y → ∃ ws : List Int, ws ≠ [] ∧ y.1 = vs ++ ws ∧ (∀ n ∈ ws, Eu n) ∧ r = jn (ws.map Lib.itoa) ++ y.2
  | 0, _, _, _, h => by cases h
  | f + 1, r, vs, y, h => by
    rw [NB] at h
    split at h
    · rename_i hn
      obtain ⟨h1, h2⟩ := Ua (OA r) hn
      have hr := G3 Af r
      split at h
      · rename_i ha
        obtain ⟨ws, a1, a2, a3, a4⟩ := W8 h
        refine ⟨(ER (r.takeWhile Af)).1 :: ws, by simp, by rw [a2]; simp, fun n hn => ?_, ?_⟩
        · rcases List.mem_cons.1 hn with rfl | hn
          · exact h2
          · exact a3 n hn
        · rw [List.map_cons, BC, h1, WQ (by simpa using a1), List.append_assoc, List.cons_append, ← a4, ← HP ha]
          exact hr
      · rename_i ha
        injection h with h
        subst h
        refine ⟨[(ER (r.takeWhile Af)).1], by simp, rfl, fun n hn => by rw [List.mem_singleton.1 hn]; exact h2, ?_⟩
        rw [List.map_cons, List.map_nil, BC, Bu, List.append_nil, h1]
        dsimp only
        rw [Ta (by simpa using ha)]
        exact hr
    · cases h
theorem Vr {b : AW} (hb : ∃ t, b = 41 :: t) : ∀ (ws : List Int) (f : Nat) (vs : List Int), ws ≠ [] → ws.length ≤ f → (∀ n ∈ ws, Eu n) → NB f (jn (ws.map Lib.itoa) ++ b) vs = some (vs ++ ws, b)
  | [], _, _, h, _, _ => absurd rfl h
  | n :: ws, 0, _, _, h, _ => by simp at h
  | n :: ws, f + 1, vs, _, hf, hn => by
    obtain ⟨t, rfl⟩ := hb
    have h1 := hn n List.mem_cons_self
    have hsp := ED (p := Af) (a := Lib.itoa n) (b := jt (ws.map Lib.itoa) ++ 41 :: t) (fun c u hc => by
      cases ws with
      | nil => simp [Bu] at hc; rw [← hc.1]; decide
      | cons m ws => rw [List.map_cons, EI] at hc; simp at hc; rw [← hc.1]; decide) (HM h1.1)
    rw [NB, List.map_cons, BC, List.append_assoc, hsp.1, hsp.2, Pp h1, if_pos rfl]
    cases ws with
    | nil =>
      rw [List.map_nil, Bu, List.nil_append, SV (by decide)]
      rfl
    | cons m ws =>
      rw [WQ (by simp), List.cons_append, Ha, if_pos rfl]
      dsimp only
      rw [Vr ⟨t, rfl⟩ (m :: ws) f (vs ++ [n]) (by simp) (by simpa using hf) fun x hx => hn x (List.mem_cons_of_mem _ hx)]
      simp
theorem UJ : ∀ l : List AW, (∀ x ∈ l, x ≠ []) → l.length ≤ (jn l).length
  | [], _ => by simp [Cw]
  | x :: l, h => by
    rw [BC]
    have h1 := List.length_pos_iff.2 (h x List.mem_cons_self)
    have key : ∀ l : List AW, l.length ≤ (jt l).length := fun l => by
      induction l with
      | nil => simp [Bu]
      | cons y l ih => rw [EI]; simp; omega
    have := key l
    simp; omega
theorem YM : ∀ l : List AW, l.length ≤ (jt l).length := fun l => by
  induction l with
  | nil => simp [Bu]
  | cons y l ih => rw [EI]; simp; omega
theorem pre41 {r : AW} : [41] <+: r ↔ ∃ t, r = 41 :: t := by
  constructor
  · rintro ⟨t, ht⟩; exact ⟨t, ht.symm⟩
  · rintro ⟨t, rfl⟩; exact ⟨t, rfl⟩
theorem Ut {r : AW} {y : List Int × AW} (h : Es r = some y) : (∀ n ∈ y.1, Eu n) ∧ r = jn (y.1.map Lib.itoa) ++ y.2 := by
  unfold Es at h
  split at h
  · injection h with h; subst h; exact ⟨by simp, by simp [Cw]⟩
  · obtain ⟨ws, _, a2, a3, a4⟩ := W8 h
    rw [List.nil_append] at a2
    rw [a2]; exact ⟨a3, a4⟩
theorem VQ {b : AW} (hb : ∃ t, b = 41 :: t) (ws : List Int) (hn : ∀ n ∈ ws, Eu n) : Es (jn (ws.map Lib.itoa) ++ b) = some (ws, b) := by
  unfold Es
  cases ws with
  | nil => rw [List.map_nil, Cw, List.nil_append, if_pos (pre41.2 hb)]
  | cons n ws =>
    have h1 := hn n List.mem_cons_self
    obtain ⟨d, l, e⟩ := List.exists_cons_of_ne_nil (Np h1.1)
    have hd := HM h1.1 d (by rw [e]; exact List.mem_cons_self)
    have hlen := UJ ((n :: ws).map Lib.itoa) fun x hx => by
      obtain ⟨z, hz, rfl⟩ := List.mem_map.1 hx
      exact Np (hn z hz).1
    rw [if_neg, Vr hb (n :: ws) _ [] (by simp) (by simp at hlen ⊢; omega) hn, List.nil_append]
    rw [pre41]
    rintro ⟨t, ht⟩
    rw [List.map_cons, BC, e] at ht
    simp at ht
    rw [ht.1] at hd
    revert hd; decide
structure ShpN (k o m : Int) (v : List Int) (n : Nat) : Prop where
  k1 : 1 ≤ k
  k2 : k ≤ 16
  fn : (Ad k).fn = true → 1 ≤ o ∧ o ≤ 6
  cd : (Ad k).cd = true → 1 ≤ o ∧ o ≤ 3
  no : (Ad k).fn = false → (Ad k).cd = false → o = 0
  mb : Eu m
  nm : k = 15 ∨ ((Ad k).fn = false ∧ (Ad k).cd = false ∧ (Ad k).n1 = 0) → m = 0
  nv : (Ad k).vs = false → v = []
  vb : ∀ y ∈ v, Eu y
  np : (Ad k).vs = true → n = 0
  pn : (Ad k).vs = false → 0 ≤ (Ad k).parts → (n : Int) = (Ad k).parts
mutual
def IQ : St → Prop
  | .mk k o m v p => ShpN k o m v p.length ∧ Rn p
def Rn : List St → Prop
  | [] => True
  | s :: r => IQ s ∧ Rn r
end
structure ShqOk (k : Int) (x : Shq) : Prop where
  zip : k = 15 → x.fn = true
  fc : x.fn = true → x.cd = false
  v1 : x.vs = true → x.fn = false ∧ x.cd = false ∧ x.n1 = 0 ∧ x.parts = 0
  n1 : 0 ≤ x.n1
  pn : x.parts < 0 → x.fn = false ∧ x.cd = false ∧ x.n1 = 0
  wl : ∀ c ∈ x.w, Ak c = true
  wn : x.w ≠ []
theorem UW : ∀ j : Fin 16, ∃ x, shqs[j.val]? = some x ∧ Ad ((j.val : Int) + 1) = x ∧ (((j.val : Int) + 1 = 15 → x.fn = true) ∧ (x.fn = true → x.cd = false) ∧ (x.vs = true → x.fn = false ∧ x.cd = false ∧ x.n1 = 0 ∧ x.parts = 0) ∧ 0 ≤ x.n1 ∧ (x.parts < 0 → x.fn = false ∧ x.cd = false ∧ x.n1 = 0) ∧ x.w.all Ak = true ∧ x.w ≠ []) := by
  intro j
  obtain ⟨j, hj⟩ := j
  iterate 16 (rcases j with _ | j; · exact ⟨_, rfl, rfl, by dsimp only; decide⟩)
  omega
theorem F7 {k : Int} (h1 : 1 ≤ k) (h2 : k ≤ 16) : shqs[(k - 1).toNat]? = some (Ad k) ∧ ShqOk k (Ad k) := by
  obtain ⟨x, a1, a2, b1, b2, b3, b4, b5, b6, b7⟩ := UW ⟨(k - 1).toNat, by omega⟩
  have e : (((k - 1).toNat : Nat) : Int) + 1 = k := by omega
  dsimp only at a1 a2 b1
  rw [e] at a2 b1
  rw [a1, a2]
  exact ⟨rfl, b1, b2, b3, b4, b5, List.all_eq_true.1 b6, b7⟩
theorem WS {j : Nat} {x : Shq} (h : shqs[j]? = some x) : x = Ad ((j : Int) + 1) ∧ j < 16 := by
  have hj : j < 16 := (List.getElem?_eq_some_iff.1 h).1
  obtain ⟨y, a1, a2, _⟩ := UW ⟨j, hj⟩
  dsimp only at a1 a2
  rw [a1] at h
  injection h with h
  exact ⟨by rw [a2, h], hj⟩
theorem UU : ∀ w ∈ fnW, (w.all Ak = true) ∧ w ≠ [] := by decide
theorem Tm : ∀ w ∈ cdW, (w.all Ak = true) ∧ w ≠ [] := by decide
def Qj (x : Shq) : List AW := if x.fn = true then fnW else cdW
theorem Sy (x : Shq) : (Qj x).Nodup := by unfold Qj; split <;> decide
theorem MP (x : Shq) : ∀ w ∈ Qj x, (∀ c ∈ w, Ak c = true) ∧ w ≠ [] := by
  unfold Qj
  split
  · exact fun w hw => ⟨List.all_eq_true.1 (UU w hw).1, (UU w hw).2⟩
  · exact fun w hw => ⟨List.all_eq_true.1 (Tm w hw).1, (Tm w hw).2⟩
theorem RD {x : Shq} (hx : x.fn = true ∨ x.cd = true) {j : Nat} {w : AW} (h : (Qj x)[j]? = some w) : Mr x ((j : Int) + 1) = w := by
  unfold Mr
  unfold Qj at h
  have e : ((j : Int) + 1 - 1).toNat = j := by omega
  rw [e]
  by_cases hf : x.fn = true
  · rw [if_pos hf] at h ⊢
    rw [List.getD_eq_getElem?_getD, h]; rfl
  · rw [if_neg hf] at h ⊢
    rw [if_pos (hx.resolve_left hf), List.getD_eq_getElem?_getD, h]; rfl
theorem TJ {x : Shq} {k o m : Int} {v : List Int} {n : Nat} (hs : ShpN k o m v n) (hx : x = Ad k) (ho : x.fn = true ∨ x.cd = true) : ∃ j : Nat, o = (j : Int) + 1 ∧ (Qj x)[j]? = some (Mr x o) := by
  subst hx
  have hlen : (Qj (Ad k)).length = if (Ad k).fn = true then 6 else 3 := by unfold Qj; split <;> rfl
  have hb : 1 ≤ o ∧ (o - 1).toNat < (Qj (Ad k)).length := by
    rw [hlen]
    by_cases hf : (Ad k).fn = true
    · have := hs.fn hf; rw [if_pos hf]; omega
    · have := hs.cd (ho.resolve_left hf); rw [if_neg hf]; omega
  refine ⟨(o - 1).toNat, by omega, ?_⟩
  have h1 := List.getElem?_eq_getElem hb.2
  have h2 := RD ho h1
  have e : (((o - 1).toNat : Nat) : Int) + 1 = o := by omega
  rw [e] at h2
  rw [h1, h2]
theorem A2w {w : AW} {l : List AW} (h : (Se w l).2 = true) : ∃ j : Nat, (Se w l).1 = (j : Int) + 1 ∧ l[j]? = some w := by
  unfold Se at h ⊢
  split at h
  · rename_i j hj
    simp only [hj]
    exact ⟨j, rfl, FU hj⟩
  · cases h
theorem ZF {w : AW} {l : List AW} {j : Nat} (hn : l.Nodup) (h : l[j]? = some w) : Se w l = ((j : Int) + 1, true) := by
  unfold Se
  rw [Nr hn h]
def QF (k o m : Int) (v : List Int) (x : Shq) : Bool := !x.vs && decide (Aq k o m v x ≠ [])
theorem MA {k o m : Int} {v : List Int} {x : Shq} (hx : ShqOk k x) (h : x.vs = true) : Aq k o m v x = v.map Lib.itoa := by
  obtain ⟨h1, h2, h3, _⟩ := hx.v1 h
  have h0 : k ≠ 15 := fun e => by rw [hx.zip e] at h1; cases h1
  unfold Aq Mr
  simp [h0, h1, h2, h3]
theorem Fh {k o m : Int} {v : List Int} {x : Shq} (h : Mr x o ≠ []) : Aq k o m v x = if k = 15 then [Mr x o] else [Mr x o ++ [32] ++ Lib.itoa m] := by
  unfold Aq; rw [if_pos h]
theorem Fk {k o m : Int} {v : List Int} {x : Shq} (hx : ShqOk k x) (h1 : x.fn = false) (h2 : x.cd = false) : Aq k o m v x = if 0 < x.n1 then [Lib.itoa m] else v.map Lib.itoa := by
  have h0 : k ≠ 15 := fun e => by rw [hx.zip e] at h1; cases h1
  unfold Aq Mr
  simp [h0, h1, h2]
theorem X7 (x : Shq) : (if x.fn = true then fnW else cdW) = Qj x := rfl
theorem Wx {o : Int} {r : AW} {a : Ahd} (h : Nn o r = some a) : a.sm = true ∧ a.o = o ∧ Eu a.m ∧ a.vs = [] ∧ r = Lib.itoa a.m ++ a.r := by
  unfold Nn at h
  split at h
  · rename_i hn
    obtain ⟨h1, h2⟩ := Ua (OA r) hn
    injection h with h
    subst h
    dsimp only
    rw [h1]
    exact ⟨rfl, rfl, h2, rfl, G3 Af r⟩
  · cases h
theorem XN {o m : Int} {b : AW} (hm : Eu m) (hb : ∃ c t, b = c :: t ∧ (c = 41 ∨ c = 44)) : Nn o (Lib.itoa m ++ b) = some ⟨true, o, m, [], b⟩ := by
  obtain ⟨c, t, rfl, hc⟩ := hb
  obtain ⟨h1, h2⟩ := ED (p := Af) (a := Lib.itoa m) (b := c :: t) (fun d u e => by injection e with e _; rw [← e]; rcases hc with rfl | rfl <;> decide) (HM hm.1)
  unfold Nn
  rw [h1, h2, Pp hm, if_pos rfl]
theorem Z3 {k : Int} {x : Shq} {r : AW} {a : Ahd} (hk : 1 ≤ k ∧ k ≤ 16) (hxk : x = Ad k) (h : Eh k x r = some a) :
    (∀ n : Nat, (x.vs = true → n = 0) → (x.vs = false → 0 ≤ x.parts → (n : Int) = x.parts) → ShpN k a.o a.m a.vs n) ∧ r = jn (Aq k a.o a.m a.vs x) ++ a.r ∧ a.sm = QF k a.o a.m a.vs x := by
  obtain ⟨hget, hx⟩ := F7 hk.1 hk.2
  rw [← hxk] at hget hx
  have z : Eu 0 := ⟨by omega, by omega⟩
  unfold Eh at h
  rw [X7] at h
  unfold QF
  split at h
  · rename_i hv
    obtain ⟨h1, h2, h3, h4⟩ := hx.v1 hv
    obtain ⟨y, h5, rfl⟩ := Option.map_eq_some_iff.1 h
    obtain ⟨h6, h7⟩ := Ut h5
    dsimp only
    rw [MA hx hv]
    refine ⟨fun n a1 a2 => ?_, h7, by rw [hv]; rfl⟩
    subst hxk
    exact ⟨hk.1, hk.2, fun e => tf h1 e, fun e => tf h2 e, fun _ _ => rfl, z, fun _ => rfl, fun e => ft hv e, h6, a1, a2⟩
  · rename_i hv
    have hv' : x.vs = false := by simpa using hv
    split at h
    · rename_i ho
      split at h
      · rename_i hw
        obtain ⟨j, hj1, hj2⟩ := A2w hw
        have hopw := RD ho hj2
        have hlow := MP x _ (List.mem_of_getElem? hj2)
        have hr := G3 Ak r
        rw [hj1] at h
        have hjlen : j < (Qj x).length := (List.getElem?_eq_some_iff.1 hj2).1
        have hob1 : x.fn = true → 1 ≤ (j : Int) + 1 ∧ (j : Int) + 1 ≤ 6 := fun e => by
          unfold Qj at hjlen; rw [if_pos e] at hjlen
          have : fnW.length = 6 := rfl
          omega
        have hob2 : x.cd = true → 1 ≤ (j : Int) + 1 ∧ (j : Int) + 1 ≤ 3 := fun e => by
          have e2 : ¬ x.fn = true := fun e3 => by rw [hx.fc e3] at e; cases e
          unfold Qj at hjlen; rw [if_neg e2] at hjlen
          have : cdW.length = 3 := rfl
          omega
        have hw0 : Mr x ((j : Int) + 1) ≠ [] := by rw [hopw]; exact hlow.2
        have hno : x.fn = false → x.cd = false → (j : Int) + 1 = 0 := fun e1 e2 => ho.elim (tf e1) (tf e2)
        split at h
        · rename_i h15
          injection h with h
          subst h
          dsimp only
          rw [Fh hw0, if_pos h15, hopw, BC, Bu, List.append_nil]
          refine ⟨fun n a1 a2 => ?_, hr, by rw [hv']; rfl⟩
          subst hxk
          exact ⟨hk.1, hk.2, hob1, hob2, hno, z, fun _ => rfl, fun _ => rfl, by simp, a1, a2⟩
        · rename_i h15
          split at h
          · rename_i ha
            obtain ⟨b1, b2, b3, b4, b5⟩ := Wx h
            rw [b2, b4, b1, Fh hw0, if_neg h15, hopw, BC, Bu, List.append_nil]
            refine ⟨fun n a1 a2 => ?_, ?_, by rw [hv']; rfl⟩
            · subst hxk
              exact ⟨hk.1, hk.2, hob1, hob2, hno, b3, fun e => by
                rcases e with e | ⟨e1, e2, _⟩
                · exact absurd e h15
                · exact ho.elim (tf e1) (tf e2), fun _ => rfl, by simp, a1, a2⟩
            · rw [List.append_assoc, List.append_assoc, ← b5, List.singleton_append, ← HP ha]
              exact hr
          · cases h
      · cases h
    · rename_i ho
      have h1 : x.fn = false := by cases e : x.fn <;> simp_all
      have h2 : x.cd = false := by cases e : x.cd <;> simp_all
      rw [Fk hx h1 h2]
      split at h
      · rename_i hn
        injection h with h
        subst h
        dsimp only
        rw [hn, if_neg (by omega), List.map_nil, Cw, List.nil_append]
        refine ⟨fun n a1 a2 => ?_, rfl, by rw [hv']; rfl⟩
        subst hxk
        exact ⟨hk.1, hk.2, fun e => tf h1 e, fun e => tf h2 e, fun _ _ => rfl, z, fun _ => rfl, fun _ => rfl, by simp, a1, a2⟩
      · rename_i hn
        have hn1 := hx.n1
        obtain ⟨b1, b2, b3, b4, b5⟩ := Wx h
        rw [b2, b4, b1, if_pos (by omega), BC, Bu, List.append_nil]
        refine ⟨fun n a1 a2 => ?_, b5, by rw [hv']; rfl⟩
        subst hxk
        exact ⟨hk.1, hk.2, fun e => tf h1 e, fun e => tf h2 e, fun _ _ => rfl, b3, fun e => by
          rcases e with e | ⟨_, _, e⟩
          · have := hx.zip e; rw [h1] at this; cases this
          · exact absurd e hn, fun _ => rfl, by simp, a1, a2⟩
theorem Yf {k o m : Int} {v : List Int} {n : Nat} {x : Shq} {b : AW} (hs : ShpN k o m v n) (hxk : x = Ad k) (hb : Aq k o m v x ≠ [] → ∃ c t, b = c :: t ∧ (c = 41 ∨ c = 44)) (hv : x.vs = true → ∃ t, b = 41 :: t) : Eh k x (jn (Aq k o m v x) ++ b) = some ⟨QF k o m v x, o, m, v, b⟩ := by
  obtain ⟨hget, hx⟩ := F7 hs.k1 hs.k2
  rw [← hxk] at hget hx
  have h0 := hs
  obtain ⟨_, _, _, _, s1, s2, s3, s4, s5, _, _⟩ := hs
  rw [← hxk] at s1 s3 s4
  unfold Eh QF
  rw [X7]
  by_cases hvs : x.vs = true
  · obtain ⟨h1, h2, h3, h4⟩ := hx.v1 hvs
    have hm := s3 (.inr ⟨h1, h2, h3⟩)
    have ho := s1 h1 h2
    rw [if_pos hvs, MA hx hvs, VQ (hv hvs) v s5, hvs, hm, ho]
    rfl
  · have hvs' : x.vs = false := by simpa using hvs
    have hvn := s4 hvs'
    subst hvn
    rw [if_neg hvs, hvs']
    by_cases ho : x.fn = true ∨ x.cd = true
    · obtain ⟨j, hj, hj2⟩ := TJ h0 hxk ho
      have hlow := MP x _ (List.mem_of_getElem? hj2)
      rw [Fh hlow.2] at hb ⊢
      rw [if_pos ho]
      by_cases h15 : k = 15
      · rw [if_pos h15] at hb ⊢
        obtain ⟨c, t, rfl, hc⟩ := hb (by simp)
        obtain ⟨e1, e2⟩ := ED (p := Ak) (a := Mr x o) (b := c :: t) (fun d u e => by injection e with e _; rw [← e]; rcases hc with rfl | rfl <;> decide) hlow.1
        rw [BC, Bu, List.append_nil, e1, e2, ZF (Sy x) hj2, if_pos rfl, if_pos h15, s3 (.inl h15), hj]
        rfl
      · rw [if_neg h15] at hb ⊢
        obtain ⟨e1, e2⟩ := ED (p := Ak) (a := Mr x o) (b := 32 :: (Lib.itoa m ++ b)) (fun d u e => by injection e with e _; rw [← e]; decide) hlow.1
        have e3 : jn [Mr x o ++ [32] ++ Lib.itoa m] ++ b = Mr x o ++ 32 :: (Lib.itoa m ++ b) := by rw [BC, Bu]; simp
        rw [e3, e1, e2, ZF (Sy x) hj2, if_pos rfl, if_neg h15, Ha, if_pos rfl]
        dsimp only
        rw [XN s2 (hb (by simp)), hj]
        rfl
    · have h1 : x.fn = false := by cases e : x.fn <;> simp_all
      have h2 : x.cd = false := by cases e : x.cd <;> simp_all
      have ho0 := s1 h1 h2
      rw [Fk hx h1 h2] at hb ⊢
      rw [if_neg ho]
      by_cases hn : x.n1 = 0
      · rw [if_pos hn, s3 (.inr ⟨h1, h2, hn⟩), ho0, hn, if_neg (by omega), List.map_nil, Cw]
        rfl
      · have hn1 := hx.n1
        have hpos : 0 < x.n1 := by omega
        rw [if_pos hpos] at hb ⊢
        rw [if_neg hn, BC, Bu, List.append_nil, XN s2 (hb (by simp)), ho0]
        rfl
theorem Gl {k o m : Int} {v : List Int} {p : List St} : B0 (.mk k o m v p) = (Ad k).w ++ [40] ++ jn (Aq k o m v (Ad k) ++ Ag p) ++ [41] := by rw [B0]
def jq (c : Bool) (l : List AW) : AW := if c = true then jt l else jn l
theorem UG {pr : AW → Option (St × AW)} (hpr : ∀ r t r2, pr r = some (t, r2) → IQ t ∧ r = B0 t ++ r2) {P : Int} : ∀ {f i : Nat} {c : Bool} {r : AW} {ps : List St} {y : List St × AW}, EV pr P f i c r ps = some y → ∃ qs, y.1 = ps ++ qs ∧ Rn qs ∧ r = jq c (Ag qs) ++ y.2 ∧ (0 ≤ P → (i : Int) ≤ P → ((i + qs.length : Nat) : Int) = P)
  | 0, _, _, _, _, _, h => by cases h
  | f + 1, i, c, r, ps, y, h => by
    rw [EV] at h
    have fin : ∀ r1 : AW, r = (if c = true then 44 :: r1 else r1) → (match pr r1 with
          | none => none
          | some tr => EV pr P f (i + 1) true tr.2 (ps ++ [tr.1])) = some y → ((i : Int) < P ∨ P < 0) → ∃ qs, y.1 = ps ++ qs ∧ Rn qs ∧ r = jq c (Ag qs) ++ y.2 ∧ (0 ≤ P → (i : Int) ≤ P → ((i + qs.length : Nat) : Int) = P) := by
      intro r1 hr h hi
      split at h
      · cases h
      · rename_i tr htr
        obtain ⟨t, r2⟩ := tr
        obtain ⟨a1, a2⟩ := hpr _ _ _ htr
        obtain ⟨qs, b1, b2, b3, b4⟩ := UG hpr h
        refine ⟨t :: qs, by rw [b1]; simp, ⟨a1, b2⟩, ?_, fun c1 c2 => by have := b4 c1 (by omega); simp only [List.length_cons]; omega⟩
        have b5 : r2 = jt (Ag qs) ++ y.2 := b3
        rw [hr, a2, b5, Ag]
        cases c
        · simp [jq, BC]
        · simp [jq, EI]
    split at h
    · rename_i hi
      split at h
      · rename_i hc
        split at h
        · rename_i ha
          exact fin _ (by rw [if_pos hc]; exact HP ha) h hi
        · split at h
          · injection h with h; subst h
            exact ⟨[], by simp, trivial, by rw [Ag, jq, if_pos hc, Bu]; rfl, fun c1 c2 => by omega⟩
          · cases h
      · rename_i hc
        exact fin r (by rw [if_neg hc]) h hi
    · rename_i hi
      injection h with h; subst h
      refine ⟨[], by simp, trivial, ?_, fun c1 c2 => by simp; omega⟩
      rw [Ag, jq]
      split <;> simp [Bu, Cw]
theorem Vy {pr : AW → Option (St × AW)} (hpr : ∀ r t r2, pr r = some (t, r2) → IQ t ∧ r = B0 t ++ r2) {x : Shq} {sm : Bool} {r : AW} {y : List St × AW} (h : F5 pr x sm r = some y) : Rn y.1 ∧ r = jq sm (Ag y.1) ++ y.2 ∧ (x.vs = true → y.1.length = 0) ∧ (x.vs = false → 0 ≤ x.parts → (y.1.length : Int) = x.parts) := by
  unfold F5 at h
  split at h
  · rename_i hc
    injection h with h; subst h
    refine ⟨trivial, ?_, fun _ => rfl, fun a1 a2 => ?_⟩
    · rw [Ag, jq]; split <;> simp [Bu, Cw]
    · rcases hc with e | ⟨e, _⟩
      · rw [e] at a1; cases a1
      · omega
  · rename_i hc
    obtain ⟨qs, b1, b2, b3, b4⟩ := UG hpr h
    rw [List.nil_append] at b1
    rw [b1]
    refine ⟨b2, b3, fun a1 => absurd (.inl a1) hc, fun a1 a2 => by have := b4 a2 (by simpa using a2); simpa using this⟩
theorem Ok {k o m : Int} {v : List Int} {x : Shq} {ts : List AW} (h : x.vs = true → ts = []) : jn (Aq k o m v x ++ ts) = jn (Aq k o m v x) ++ jq (QF k o m v x) ts := by
  unfold QF jq
  by_cases hw : Aq k o m v x = []
  · rw [hw]; simp [Cw]
  · rw [A0d hw]
    cases hv : x.vs with
    | true => rw [h hv]; simp [Bu, Cw]
    | false => simp [hw]
theorem Z5 : ∀ {f : Nat} {r : AW} {t : St} {r2 : AW}, FD f r = some (t, r2) → IQ t ∧ r = B0 t ++ r2
  | 0, _, _, _, h => by cases h
  | f + 1, r, t, r2, h => by
    rw [FD] at h
    split at h
    · cases h
    · rename_i j hj
      split at h
      · cases h
      · rename_i x hx
        obtain ⟨hxk, hj16⟩ := WS hx
        have hwx : x.w = r.takeWhile Ak := (K9 hx).2 hj
        split at h
        · rename_i ha
          split at h
          · cases h
          · rename_i a hah
            split at h
            · cases h
            · rename_i p hp
              split at h
              · rename_i hb
                injection h with h
                injection h with h1 h2
                subst h1 h2
                obtain ⟨c1, c2, c3⟩ := Z3 (k := (j : Int) + 1) ⟨by omega, by omega⟩ hxk hah
                obtain ⟨d1, d2, d3, d4⟩ := Vy (fun _ _ _ e => Z5 e) hp
                refine ⟨⟨c1 _ d3 d4, d1⟩, ?_⟩
                rw [Gl, ← hxk, Ok (fun e => by have := d3 e; rw [List.length_eq_zero_iff.1 this]; rfl), ← c3]
                rw [HP hb] at d2
                rw [d2] at c2
                rw [hwx]
                have e1 := G3 Ak r
                rw [HP ha, c2] at e1
                simpa using e1
              · cases h
        · cases h
theorem Mj {s : St} (h : IQ s) : ∃ c t, B0 s = c :: t ∧ Ak c = true := by
  obtain ⟨k, o, m, v, p⟩ := s
  obtain ⟨_, hx⟩ := F7 h.1.k1 h.1.k2
  obtain ⟨c, t, e⟩ := List.exists_cons_of_ne_nil hx.wn
  have hl := hx.wl c (by rw [e]; exact List.mem_cons_self)
  rw [B0, e]
  exact ⟨c, _, rfl, hl⟩
theorem U2 {pr : AW → Option (St × AW)} {L : Nat} (hpr : ∀ t r2, IQ t → (B0 t ++ r2).length ≤ L → pr (B0 t ++ r2) = some (t, r2)) {P : Int} {b : AW} : ∀ (qs : List St) (f i : Nat) (c : Bool) (ps : List St), Rn qs → (jq c (Ag qs) ++ 41 :: b).length ≤ L → qs.length < f → (0 ≤ P → ((i + qs.length : Nat) : Int) = P) → (P < 0 → c = false → qs ≠ []) → EV pr P f i c (jq c (Ag qs) ++ 41 :: b) ps = some (ps ++ qs, 41 :: b)
  | _, 0, _, _, _, _, _, h, _, _ => by omega
  | [], f + 1, i, c, ps, _, _, _, h1, h2 => by
    rw [EV]
    have e : jq c (Ag []) ++ 41 :: b = 41 :: b := by rw [Ag, jq]; split <;> simp [Bu, Cw]
    rw [e]
    by_cases hP : P < 0
    · have hc : c = true := by cases c with
        | true => rfl
        | false => exact absurd rfl (h2 hP rfl)
      rw [if_pos (.inr hP), if_pos hc, SV (by decide), if_neg (by simp), if_pos hP, List.append_nil]
    · have := h1 (by omega)
      simp only [List.length_nil, Nat.add_zero] at this
      rw [if_neg (by omega), List.append_nil]
  | q :: qs, f + 1, i, c, ps, hs, hL, hf, h1, h2 => by
    have hi : (i : Int) < P ∨ P < 0 := by
      by_cases hP : P < 0
      · exact .inr hP
      · have := h1 (by omega); simp only [List.length_cons] at this; exact .inl (by omega)
    have e : jq c (Ag (q :: qs)) ++ 41 :: b = if c = true then 44 :: (B0 q ++ (jq true (Ag qs) ++ 41 :: b)) else B0 q ++ (jq true (Ag qs) ++ 41 :: b) := by
      rw [Ag, jq, jq, if_pos rfl]
      split
      · rw [EI]; simp
      · rw [BC]; simp
    have hL2 : (B0 q ++ (jq true (Ag qs) ++ 41 :: b)).length ≤ L := by
      rw [e] at hL
      split at hL
      · simp only [List.length_cons] at hL; omega
      · exact hL
    have hq := hpr q (jq true (Ag qs) ++ 41 :: b) hs.1 hL2
    have ih := U2 hpr (P := P) (b := b) qs f (i + 1) true (ps ++ [q]) hs.2 (by rw [List.length_append] at hL2; omega) (by simpa using hf) (fun h => by have := h1 h; simp only [List.length_cons] at this; omega) (fun _ h => by cases h)
    rw [EV, if_pos hi, e]
    cases c with
    | true =>
      rw [if_pos rfl, if_pos rfl, Ha, if_pos rfl]
      dsimp only
      rw [hq]
      dsimp only
      rw [ih, List.append_assoc]; rfl
    | false =>
      rw [if_neg (by decide), if_neg (by decide), hq]
      dsimp only
      rw [ih, List.append_assoc]; rfl
theorem YC (c : Bool) {qs : List St} (h : Rn qs) : qs.length ≤ (jq c (Ag qs)).length := by
  unfold jq
  split
  · have := YM (Ag qs); rw [FT] at this; exact this
  · have := UJ (Ag qs) fun x hx => by
      rw [FL] at hx
      obtain ⟨s, hs, rfl⟩ := List.mem_map.1 hx
      have hsh : IQ s := by
        clear hx
        induction qs with
        | nil => cases hs
        | cons q r ih =>
          rcases List.mem_cons.1 hs with rfl | hs
          · exact h.1
          · exact ih h.2 hs
      obtain ⟨c, t, e, _⟩ := Mj hsh
      rw [e]; simp
    rw [FT] at this; exact this
theorem ZC : ∀ (f : Nat) (s : St) (b : AW), IQ s → (B0 s ++ b).length < f → FD f (B0 s ++ b) = some (s, b)
  | 0, _, _, _, h => by omega
  | f + 1, .mk k o m v p, b, hs, hf => by
    obtain ⟨hn, hp⟩ := hs
    obtain ⟨hget, hx⟩ := F7 hn.k1 hn.k2
    have hvp : (Ad k).vs = true → Ag p = [] := fun e => by rw [List.length_eq_zero_iff.1 (hn.np e)]; rfl
    have e1 : B0 (.mk k o m v p) ++ b = (Ad k).w ++ 40 :: (jn (Aq k o m v (Ad k)) ++ (jq (QF k o m v (Ad k)) (Ag p) ++ 41 :: b)) := by
      rw [Gl, Ok hvp]; simp
    have hk : (((k - 1).toNat : Nat) : Int) + 1 = k := by have := hn.k1; omega
    rw [e1] at hf ⊢
    generalize hxx : Ad k = x at *
    obtain ⟨t1, t2⟩ := ED (p := Ak) (a := x.w) (b := 40 :: (jn (Aq k o m v x) ++ (jq (QF k o m v x) (Ag p) ++ 41 :: b))) (fun d u e => by injection e with e _; rw [← e]; decide) hx.wl
    rw [FD, t1, t2, (K9 hget).1 rfl]
    dsimp only
    rw [hget]
    dsimp only
    rw [Ha, if_pos rfl, hk]
    dsimp only
    have hjs : jq (QF k o m v x) (Ag p) ++ 41 :: b = (jq (QF k o m v x) (Ag p) ++ 41 :: b) := rfl
    rw [Yf hn hxx.symm (fun hw => by
      cases hvs : x.vs with
      | true =>
        rw [hvp hvs]
        refine ⟨41, b, ?_, .inl rfl⟩
        unfold jq; split <;> simp [Bu, Cw]
      | false =>
        have e : QF k o m v x = true := by unfold QF; rw [hvs]; simpa using hw
        rw [e, jq, if_pos rfl]
        cases p with
        | nil => exact ⟨41, b, rfl, .inl rfl⟩
        | cons s r => rw [Ag, EI]; exact ⟨44, _, rfl, .inr rfl⟩) (fun e => by
        rw [hvp e]
        refine ⟨b, ?_⟩
        unfold jq; split <;> simp [Bu, Cw])]
    dsimp only
    have hlen : (jq (QF k o m v x) (Ag p) ++ 41 :: b).length + x.w.length + 1 ≤ f := by
      simp only [List.length_append, List.length_cons] at hf ⊢; omega
    have hpp : F5 (FD f) x (QF k o m v x) (jq (QF k o m v x) (Ag p) ++ 41 :: b) = some (p, 41 :: b) := by
      unfold F5
      split
      · rename_i hc
        have hp0 : p = [] := by
          rcases hc with e | ⟨e1, e2⟩
          · exact List.length_eq_zero_iff.1 (hn.np (by rw [hxx]; exact e))
          · obtain ⟨t, ht⟩ := pre41.1 e2
            obtain ⟨q1, q2, q3⟩ := hx.pn e1
            have hvs : x.vs = false := by
              cases hv : x.vs with
              | false => rfl
              | true => have := (hx.v1 hv).2.2.2; omega
            have hw0 : Aq k o m v x = [] := by
              have := hn.nv (by rw [hxx]; exact hvs)
              rw [Fk hx q1 q2, q3, if_neg (by omega), this]; rfl
            have e : QF k o m v x = false := by unfold QF; rw [hvs, hw0]; rfl
            rw [e, jq, if_neg (by decide)] at ht
            cases p with
            | nil => rfl
            | cons s r =>
              obtain ⟨c, u, e3, e4⟩ := Mj hp.1
              rw [Ag, BC, e3] at ht
              injection ht with ht _
              rw [ht] at e4
              exact absurd e4 (by decide)
        rw [hp0, Ag]
        unfold jq; split <;> simp [Bu, Cw]
      · rename_i hc
        have hvs : x.vs = false := by
          cases hv : x.vs with
          | false => rfl
          | true => exact absurd (.inl hv) hc
        have := U2 (pr := FD f) (L := f - 1) (fun t r2 h1 h2 => ZC f t r2 h1 (by have := List.length_pos_iff.2 hx.wn; omega)) (P := x.parts) (b := b) p ((jq (QF k o m v x) (Ag p) ++ 41 :: b).length + 1) 0 (QF k o m v x) [] hp (by omega) (by have := YC (QF k o m v x) hp; simp; omega) (fun h => by have := hn.pn (by rw [hxx]; exact hvs) (by rw [hxx]; exact h); rw [hxx] at this; simpa using this) (fun h1 h2 hp0 => by
          apply hc
          refine .inr ⟨h1, ?_⟩
          rw [h2, hp0]
          exact pre41.2 ⟨b, by simp [jq, Ag, Cw]⟩)
        rw [this, List.nil_append]
    rw [hpp]
    dsimp only
    rw [Ha, if_pos rfl]
end Go.Proofs.YtjdccdelcnmocaaGreatDoor
