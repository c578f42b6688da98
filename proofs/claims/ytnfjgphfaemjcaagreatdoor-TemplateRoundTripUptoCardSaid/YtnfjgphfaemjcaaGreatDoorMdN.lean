/- Templates: how they are filled, and the paths of theirs that are free; no condition. -/
import Derived.Test.YtnfjgphfaemjcaaGreatDoorMdM
import Derived.Test.YtnfjgphfaemjcaaGreatDoorMgI
import Derived.Test.YtnfjgphfaemjcaaGreatDoorMgJ
import Derived.Test.YtnfjgphfaemjcaaGreatDoorAdE
set_option linter.all false
set_option linter.unusedSimpArgs false
set_option linter.unusedVariables false
set_option maxHeartbeats 1000000
namespace Go.Proofs.YtnfjgphfaemjcaaGreatDoor
mutual
def CH : Pt → Nat
 | .mk _ _ _ _ _ b e => Ab b + Ab e + 1
def Ab : List Pt → Nat
 | [] => 0
 | x :: r => CH x + Ab r
end
/-! ### parts, one behind the other -/
theorem Fe : ∀ a b : List Pt, Ab (a ++ b) = Ab a + Ab b
 | [], b => by simp [Ab]
 | x :: a, b => by simp only [List.cons_append, Ab, Fe a b]; omega
mutual
def RL : Pt → Prop
 | .mk k t n pa fs b e => t.length ≤ 1048576 ∧ (k = 1 → t ≠ []) ∧ n.length ≤ 24 ∧ pa.length ≤ 8 ∧ (∀ s ∈ pa, s.length ≤ 24) ∧ fs.length ≤ 8 ∧ (∀ f ∈ fs, f.1.length ≤ 24 ∧ 0 ≤ f.2 ∧ f.2 ≤ 200) ∧ Ic b ∧ Ic e
def Ic : List Pt → Prop
 | [] => True
 | x :: r => RL x ∧ Ic r
end
theorem QI : ∀ {l : List Pt} {x : Pt}, Ic l → x ∈ l → RL x
 | y :: r, x, h, hx => by
  simp only [Ic] at h
  rcases List.mem_cons.1 hx with rfl | hx
  ·exact h.1
  ·exact QI h.2 hx
theorem Hw : ∀ t : AF, (DJ t).length ≤ 4 * t.length
 | [] => by simp [DJ]
 | [c] => by simp [DJ]
 | a :: b :: r => by
  have h1 := Hw r
  have h2 := Hw (b :: r)
  unfold DJ
  split
  ·simp [MZ] at *; omega
  ·simp at *; omega
theorem W1 : ∀ t : AF, t ≠ [] → DJ t ≠ []
 | [], h => absurd rfl h
 | [c], _ => by simp [DJ]
 | a :: b :: r, _ => by
  unfold DJ
  split
  ·simp [MZ]
  ·simp
theorem QK (sep : AF) (B : Nat) : ∀ l : List AF, (∀ x ∈ l, x.length ≤ B) → (Lib.join l sep).length ≤ l.length * (B + sep.length)
 | [], _ => by simp [Lib.join]
 | [x], h => by have := h x (by simp); simp [Lib.join]; omega
 | x :: y :: r, h => by
  have h1 := h x (by simp)
  have h2 := QK sep B (y :: r) fun z hz => h z (List.mem_cons_of_mem _ hz)
  have e : Lib.join (x :: y :: r) sep = x ++ sep ++ Lib.join (y :: r) sep := by simp [Lib.join]
  rw [e]
  simp only [List.length_append, List.length_cons] at h2 ⊢
  rw [Nat.succ_mul]
  omega
theorem QB {n : Int} (h : 0 ≤ n ∧ n ≤ 200) : (Lib.itoa n).length ≤ 3 := by
 obtain ⟨u, rfl⟩ : ∃ u : Nat, n = (u : Int) := ⟨n.toNat, by omega⟩
 rw [Lib.itoa_nonneg, Lib.decDigits_length]
 exact EF 2 u (by omega)
theorem Hi : ∀ fs : List (AF × Int), (∀ f ∈ fs, f.1.length ≤ 24 ∧ 0 ≤ f.2 ∧ f.2 ≤ 200) → (fs.flatMap Mq).length ≤ fs.length * 30
 | [], _ => by simp
 | f :: r, h => by
  have h1 := h f (by simp)
  have h2 := Hi r fun x hx => h x (List.mem_cons_of_mem _ hx)
  have h3 := QB h1.2
  have h4 : (Mq f).length ≤ 30 := by
   unfold Mq
   split <;> simp <;> omega
  simp only [List.flatMap_cons, List.length_append, List.length_cons, Nat.succ_mul]
  omega
theorem Ru {pa : List AF} (h1 : pa.length ≤ 8) (h2 : ∀ s ∈ pa, s.length ≤ 24) : (I3 pa).length ≤ 200 := by
 have := QK [46] 24 pa h2
 have h3 : pa.length * (24 + 1) ≤ 8 * 25 := Nat.mul_le_mul_right _ h1
 unfold I3
 simp at this
 omega
theorem WA (p : Pt) : RL p → (U3 p).length ≤ 4196000 * CH p := by
 refine Pt.ind (Q := fun p => RL p → (U3 p).length ≤ 4196000 * CH p) ?_ p
 intro k t n pa fs b e hb he h
 simp only [RL] at h
 obtain ⟨h1, _, h3, h4, h5, h6, h7, h8, h9⟩ := h
 have hl : ∀ l : List Pt, (∀ x ∈ l, RL x → (U3 x).length ≤ 4196000 * CH x) → Ic l → (CJ l).length ≤ 4196000 * Ab l := by
  intro l
  induction l with
  | nil => intro _ _; simp [CJ]
  | cons x r ih =>
   intro h ho
   simp only [Ic] at ho
   have a := h x (by simp) ho.1
   have b := ih (fun y hy => h y (List.mem_cons_of_mem _ hy)) ho.2
   simp only [CJ, Ab, List.length_append, Nat.mul_add]
   omega
 have lb := hl b hb h8
 have le := hl e he h9
 have hw := Ru h4 h5
 have hf := Hi fs h7
 have hr := Hw t
 have hf2 : fs.length * 30 ≤ 8 * 30 := Nat.mul_le_mul_right _ h6
 unfold U3 CH
 simp only [Nat.mul_add]
 split
 ·omega
 ·split
  ·simp only [List.length_append, opS, clS, List.length_cons, List.length_nil]; omega
  ·split <;> split <;> simp [XO, KX, Sl, FE, FX, clS] <;> omega
theorem Hr : ∀ l : List Pt, Ic l → (CJ l).length ≤ 4196000 * Ab l
 | [], _ => by simp [CJ]
 | x :: r, h => by
  simp only [Ic] at h
  have a := WA x h.1
  have b := Hr r h.2
  simp only [CJ, Ab, List.length_append, Nat.mul_add]
  omega
theorem WY (p : Pt) : ∀ pv i d, (DI pv i d p).2 = 0 → (DI pv i d p).1 = i + CH p ∧ CH p + i ≤ 200 := by
 refine Pt.ind (Q := fun p => ∀ pv i d, (DI pv i d p).2 = 0 → (DI pv i d p).1 = i + CH p ∧ CH p + i ≤ 200) ?_ p
 intro k t n pa fs b e hb he pv i d h
 have hl : ∀ l : List Pt, (∀ x ∈ l, ∀ pv i d, (DI pv i d x).2 = 0 → (DI pv i d x).1 = i + CH x ∧ CH x + i ≤ 200) → ∀ pv i d, i ≤ 200 → (BW pv i d l).2 = 0 → (BW pv i d l).1 = i + Ab l ∧ Ab l + i ≤ 200 := by
  intro l
  induction l with
  | nil => intro _ pv i d hi _; simp [BW, Ab]; exact hi
  | cons x r ih =>
   intro h pv i d hi h2
   unfold BW at h2 ⊢
   by_cases hx : (DI pv i d x).2 = 0
   ·rw [if_neg (by simpa using hx)] at h2 ⊢
    obtain ⟨a1, a2⟩ := h x (by simp) pv i d hx
    obtain ⟨b1, b2⟩ := ih (fun y hy => h y (List.mem_cons_of_mem _ hy)) _ _ _ (by omega) h2
    simp only [Ab]
    omega
   ·rw [if_pos hx] at h2; exact absurd h2 hx
 have hi := Vs h
 unfold DI at h ⊢
 split at h
 ·rename_i hc; exact absurd h hc
 ·rename_i hc
  rw [if_neg hc]
  split at h
  ·rename_i hb2; exact absurd h hb2
  ·rename_i hb2
   rw [if_neg hb2]
   obtain ⟨a1, a2⟩ := hl b hb 0 (i + 1) (d + 1) (by omega) (by simpa using hb2)
   obtain ⟨c1, c2⟩ := hl e he 0 _ (d + 1) (by omega) h
   unfold CH
   omega
theorem Hv : ∀ (l : List Pt) (pv : Int) (i d : Nat), i ≤ 200 → (BW pv i d l).2 = 0 → (BW pv i d l).1 = i + Ab l ∧ Ab l + i ≤ 200
 | [], pv, i, d, hi, _ => by simp [BW, Ab]; exact hi
 | x :: r, pv, i, d, hi, h2 => by
  unfold BW at h2 ⊢
  by_cases hx : (DI pv i d x).2 = 0
  ·rw [if_neg (by simpa using hx)] at h2 ⊢
   obtain ⟨a1, a2⟩ := WY x pv i d hx
   obtain ⟨b1, b2⟩ := Hv r _ _ _ (by omega) h2
   simp only [Ab]
   omega
  ·rw [if_pos hx] at h2; exact absurd h2 hx
mutual
def Lb : Pt → Prop
 | .mk _ t n pa fs b e => t.length ≤ 1048576 ∧ n.length ≤ 2000000 ∧ pa.length ≤ 2000000 ∧ (∀ s ∈ pa, s.length ≤ 2000000) ∧ fs.length ≤ 2000000 ∧ b.length ≤ 2000000 ∧ e.length ≤ 2000000 ∧ E4 b ∧ E4 e
def E4 : List Pt → Prop
 | [] => True
 | x :: r => Lb x ∧ E4 r
end
theorem D9 : ∀ {l : List Pt} {x : Pt}, E4 l → x ∈ l → Lb x
 | y :: r, x, h, hx => by
  simp only [E4] at h
  rcases List.mem_cons.1 hx with rfl | hx
  ·exact h.1
  ·exact D9 h.2 hx
theorem Oc {s : AF} (h : Kp s = true) : s.length ≤ 24 := by
 unfold Kp Qg at h
 simp only [Bool.and_eq_true, decide_eq_true_eq] at h
 exact h.1.1.1.2
theorem Y1 {s : AF} (h : Vp s = true) : s.length ≤ 24 := by
 unfold Vp at h
 simp only [Bool.and_eq_true, decide_eq_true_eq] at h
 obtain ⟨⟨h1, h2⟩, h3⟩ := h
 have e := (RC h1).1
 have hk : (CV s).1 ≤ 999 := h3
 rw [← e]
 obtain ⟨u, hu⟩ : ∃ u : Nat, (CV s).1 = (u : Int) := ⟨(CV s).1.toNat, by omega⟩
 rw [hu, Lib.itoa_nonneg, Lib.decDigits_length]
 have := EF 2 u (by omega)
 omega
theorem Lx {pa : List AF} (h : BK pa = true) : pa.length ≤ 8 ∧ ∀ s ∈ pa, s.length ≤ 24 := by
 cases pa with
 | nil => cases h
 | cons x r =>
  simp only [BK, Bool.and_eq_true, decide_eq_true_eq, List.all_eq_true, Bool.or_eq_true] at h
  obtain ⟨⟨h1, h2⟩, h3⟩ := h
  refine ⟨by simp; omega, fun s hs => ?_⟩
  rcases List.mem_cons.1 hs with rfl | hs
  ·exact Oc h2
  ·rcases h3 s hs with h | h
   ·exact Oc h
   ·exact Y1 h
theorem Xp {s : AF} (h : Ko s ≠ 0) : s.length ≤ 24 := by
 have := QC h
 simp only [ZN, Zk, RI, RP, V1, LI, Xd, RU, YR, List.cons_append, List.nil_append, List.mem_cons, List.not_mem_nil, or_false] at this
 rcases this with rfl | rfl | rfl | rfl | rfl | rfl | rfl <;> decide
theorem Up (p : AF) (st : Cz) : (Ap p st).2.length = st.2.length := (Ug p st).2.2
/-! ### how long what is read may be -/
mutual
def I2 (B : Nat) : Pt → Prop
 | .mk _ t n pa fs b e => t.length ≤ B ∧ n.length ≤ B ∧ pa.length ≤ B ∧ (∀ s ∈ pa, s.length ≤ B) ∧ fs.length ≤ B ∧ b.length ≤ B ∧ e.length ≤ B ∧ Kr B b ∧ Kr B e
def Kr (B : Nat) : List Pt → Prop
 | [] => True
 | x :: r => I2 B x ∧ Kr B r
end
theorem bdPs_iff {B : Nat} : ∀ {l : List Pt}, Kr B l ↔ ∀ x ∈ l, I2 B x
 | [] => by simp [Kr]
 | x :: r => by simp [Kr, bdPs_iff (l := r)]
theorem Fk {B B' : Nat} (h : B ≤ B') (p : Pt) : I2 B p → I2 B' p := by
 refine Pt.ind (Q := fun p => I2 B p → I2 B' p) ?_ p
 intro k t n pa fs b e hb he
 simp only [I2, bdPs_iff]
 rintro ⟨h1, h2, h3, h4, h5, h6, h7, h8, h9⟩
 exact ⟨by omega, by omega, by omega, fun s hs => Nat.le_trans (h4 s hs) h, by omega, by omega, by omega, fun x hx => hb x hx (h8 x hx), fun x hx => he x hx (h9 x hx)⟩
theorem Yi {B : Nat} (h : B ≤ 1048576) (p : Pt) : I2 B p → Lb p := by
 refine Pt.ind (Q := fun p => I2 B p → Lb p) ?_ p
 intro k t n pa fs b e hb he
 have hl : ∀ l : List Pt, (∀ x ∈ l, Lb x) → E4 l := by
  intro l
  induction l with
  | nil => intro _; trivial
  | cons x r ih => intro h; exact ⟨h x List.mem_cons_self, ih fun y hy => h y (List.mem_cons_of_mem _ hy)⟩
 simp only [I2, Lb, bdPs_iff]
 rintro ⟨h1, h2, h3, h4, h5, h6, h7, h8, h9⟩
 exact ⟨by omega, by omega, by omega, fun s hs => by have := h4 s hs; omega, by omega, by omega, by omega, hl b fun x hx => hb x hx (h8 x hx), hl e fun x hx => he x hx (h9 x hx)⟩
theorem SZ {B : Nat} (h : B ≤ 1048576) : ∀ l : List Pt, Kr B l → E4 l
 | [], _ => trivial
 | x :: r, hb => ⟨Yi h x hb.1, SZ h r hb.2⟩
def R4 (B : Nat) (l : List Pt) : Prop := l.length ≤ B ∧ Kr B l ∧ ∀ y ∈ l, y.k = 1 → y = tP y.t
theorem Dt {B B' : Nat} (h : B ≤ B') {l : List Pt} (hb : R4 B l) : R4 B' l :=
 ⟨Nat.le_trans hb.1 h, bdPs_iff.2 fun x hx => Fk h x (bdPs_iff.1 hb.2.1 x hx), hb.2.2⟩
theorem Od (B : Nat) : R4 B [] := ⟨Nat.zero_le _, trivial, by simp⟩
theorem UV {B : Nat} {p : Pt} (h : I2 B p) : p.t.length ≤ B := by cases p; simp only [I2] at h; exact h.1
theorem Uv {B : Nat} {t : AF} (h : t.length ≤ B) : I2 B (tP t) := by simp [tP, I2, Kr]; exact h
theorem Rs {B c : Nat} {x : Pt} {l : List Pt} (hl : R4 B l) (hx : I2 (B + c) x) (hc : x.k = 1 → x.t.length ≤ c ∧ x = tP x.t) (h1 : 1 ≤ c) : R4 (B + c) (Cx x l) := by
 obtain ⟨h2, h3, h4⟩ := hl
 have h3' := bdPs_iff.1 h3
 unfold Cx
 cases hg : l.getLast? with
 | none => exact ⟨by simp; omega, bdPs_iff.2 fun y hy => by rw [List.mem_singleton.1 hy]; exact hx, fun y hy => by rw [List.mem_singleton.1 hy]; exact fun h => (hc h).2⟩
 | some y =>
  have hy := h3' y (List.mem_of_getLast? hg)
  dsimp only
  split
  ·rename_i hk
   refine ⟨by simp; omega, bdPs_iff.2 fun z hz => ?_, fun z hz => ?_⟩
   ·rcases List.mem_append.1 hz with hz | hz
    ·exact Fk (by omega) z (h3' z (List.dropLast_subset l hz))
    ·rw [List.mem_singleton.1 hz]
     have := UV hy
     have := (hc hk.1).1
     exact Uv (by simp; omega)
   ·rcases List.mem_append.1 hz with hz | hz
    ·exact h4 z (List.dropLast_subset l hz)
    ·rw [List.mem_singleton.1 hz]; exact fun _ => rfl
  ·refine ⟨by simp; omega, bdPs_iff.2 fun z hz => ?_, fun z hz => ?_⟩
   ·rcases List.mem_append.1 hz with hz | hz
    ·exact Fk (by omega) z (h3' z hz)
    ·rw [List.mem_singleton.1 hz]; exact hx
   ·rcases List.mem_append.1 hz with hz | hz
    ·exact h4 z hz
    ·rw [List.mem_singleton.1 hz]; exact fun h => (hc h).2
theorem Wv {B : Nat} {t : AF} {l : List Pt} (hl : R4 B l) (ht : t.length ≤ B) : R4 (B + t.length) (if t = [] then l else Cx (tP t) l) := by
 split
 ·exact Dt (by omega) hl
 ·rename_i h
  have : 1 ≤ t.length := List.length_pos_iff.2 h
  exact Rs hl (Uv (by omega)) (fun _ => ⟨Nat.le_refl _, rfl⟩) this
theorem SO {B : Nat} : ∀ {l : List AF} {fs : List (AF × Int)}, G3 l = some fs → fs.length = l.length
 | [], fs, h => by simp [G3] at h; subst h; rfl
 | s :: r, fs, h => by
  unfold G3 at h
  split at h
  ·cases h
  ·rename_i f hf
   obtain ⟨fs', h1, h2⟩ := Option.map_eq_some_iff.1 h
   rw [← h2, List.length_cons, SO (B := B) h1, List.length_cons]
theorem VR {B : Nat} (h : 24 ≤ B) {pa : List AF} (hp : BK pa = true) : pa.length ≤ B ∧ ∀ s ∈ pa, s.length ≤ B := by
 obtain ⟨h1, h2⟩ := Lx hp
 exact ⟨by omega, fun s hs => by have := h2 s hs; omega⟩
theorem Xg {d : AF} {B : Nat} (hB : d.length + 24 ≤ B) : (∀ x, dirT d = .fld x → I2 B x ∧ x.k ≠ 1) ∧ ∀ x, dirT d = .bgn x → I2 B x ∧ x.k ≠ 1 := by
 have hI : ∀ s x, G8 s = .bgn x → I2 B x ∧ x.k ≠ 1 := by
  intro s x h
  unfold G8 at h
  split at h
  ·rename_i hp
   injection h with h
   subst h
   obtain ⟨a, b⟩ := VR (B := B) (by omega) hp
   exact ⟨by simp [I2, Kr]; exact ⟨a, b⟩, by simp [Pt.k]⟩
  ·cases h
 have hE : ∀ s x, Fm s = .bgn x → I2 B x ∧ x.k ≠ 1 := by
  intro s x h
  unfold Fm at h
  split at h
  ·cases h
  ·rename_i n w _
   split at h
   ·rename_i hp
    injection h with h
    subst h
    obtain ⟨a, b⟩ := VR (B := B) (by omega) hp.2
    have := Oc hp.1
    exact ⟨by simp [I2, Kr]; exact ⟨by omega, a, b⟩, by simp [Pt.k]⟩
   ·cases h
 have hF : ∀ x, CN d = .fld x → I2 B x ∧ x.k ≠ 1 := by
  intro x h
  unfold CN at h
  have hs := Fr 124 d
  split at h
  ·cases h
  ·rename_i hd tl e
   rw [e] at hs
   split at h
   ·rename_i hp
    split at h
    ·rename_i fs hf
     injection h with h
     subst h
     obtain ⟨a, b⟩ := VR (B := B) (by omega) hp
     have := SO (B := B) hf
     simp only [List.length_cons] at hs
     exact ⟨by simp [I2, Kr]; exact ⟨a, b, by omega⟩, by simp [Pt.k]⟩
    ·cases h
   ·cases h
 constructor
 ·intro x h
  unfold dirT at h
  (repeat' split at h) <;> first | (cases h; done) | skip
  ·unfold G8 at h; split at h <;> cases h
  ·unfold Fm at h; (repeat' split at h) <;> cases h
  ·exact hF x h
 ·intro x h
  unfold dirT at h
  (repeat' split at h) <;> first | (cases h; done) | skip
  ·exact hI _ x h
  ·exact hE _ x h
  ·unfold CN at h; (repeat' split at h) <;> cases h
def M6 (B : Nat) (st : Cz) : Prop := R4 B st.1 ∧ st.2.length ≤ B ∧ ∀ o ∈ st.2, R4 B o.1.b ∧ R4 B o.1.e ∧ I2 B o.1 ∧ o.1.k ≠ 1
theorem G7 {B B' : Nat} (h : B ≤ B') {st : Cz} (hb : M6 B st) : M6 B' st :=
 ⟨Dt h hb.1, Nat.le_trans hb.2.1 h, fun o ho => ⟨Dt h (hb.2.2 o ho).1, Dt h (hb.2.2 o ho).2.1, Fk h _ (hb.2.2 o ho).2.2.1, (hb.2.2 o ho).2.2.2⟩⟩
theorem Kx {B : Nat} {st : Cz} (hb : M6 B st) : R4 B (E0 st) := by
 obtain ⟨ps, _ | ⟨⟨o, c⟩, k⟩⟩ := st
 ·exact hb.1
 ·have := hb.2.2 (o, c) List.mem_cons_self
  cases c
  ·exact this.1
  ·exact this.2.1
theorem P2 {B : Nat} {st : Cz} {l : List Pt} (hb : M6 B st) (hl : R4 B l) : M6 B (B0 l st) := by
 obtain ⟨ps, _ | ⟨⟨⟨k, t, n, pa, fs, b, e⟩, c⟩, r⟩⟩ := st
 ·exact ⟨hl, hb.2⟩
 ·refine ⟨hb.1, by simpa [B0] using hb.2.1, fun o ho => ?_⟩
  have h0 := hb.2.2
  simp only [B0] at ho
  rcases List.mem_cons.1 ho with rfl | ho
  ·obtain ⟨a1, a2, a3, a4⟩ := h0 (.mk k t n pa fs b e, c) List.mem_cons_self
   simp only [I2] at a3
   cases c
   ·exact ⟨hl, a2, by simp only [I2, ZK, Pt.k, Pt.t, Pt.n, Pt.pa, Pt.fs, Pt.e, if_neg, Bool.false_eq_true, not_false_eq_true]; exact ⟨a3.1, a3.2.1, a3.2.2.1, a3.2.2.2.1, a3.2.2.2.2.1, hl.1, a2.1, hl.2.1, a2.2.1⟩, a4⟩
   ·exact ⟨a1, hl, by simp only [I2, Zd, Pt.k, Pt.t, Pt.n, Pt.pa, Pt.fs, Pt.b, if_true]; exact ⟨a3.1, a3.2.1, a3.2.2.1, a3.2.2.2.1, a3.2.2.2.2.1, a1.1, hl.1, a1.2.1, hl.2.1⟩, a4⟩
  ·exact h0 o (List.mem_cons_of_mem _ ho)
theorem St {B c : Nat} {x : Pt} {st : Cz} (hb : M6 B st) (hx : I2 B x) (hc : x.k = 1 → x.t.length ≤ c ∧ x = tP x.t) (h1 : 1 ≤ c) : M6 (B + c) (DA x st) :=
 P2 (G7 (by omega) hb) (Rs (Kx hb) (Fk (by omega) _ hx) hc h1)
theorem Ly {B : Nat} {t : AF} {st : Cz} (hb : M6 B st) (ht : t.length ≤ B) : M6 (B + t.length) (Ap t st) := by
 rw [Wj]
 exact P2 (G7 (by omega) hb) (Wv (Kx hb) ht)
theorem Uh {B : Nat} {d : AF} {st st' : Cz} (hb : M6 B st) (hd : d.length + 24 ≤ B) (h : BJ (dirT d) st = some st') : M6 (B + 2) st' := by
 obtain ⟨b1, b2⟩ := Xg (d := d) (B := B) hd
 cases hk : dirT d with
 | bad => rw [hk] at h; cases h
 | opn =>
  rw [hk] at h; injection h with h; subst h
  exact St hb (Uv (by simp [opS]; omega)) (fun _ => ⟨by simp [tP, Pt.t, opS], rfl⟩) (by omega)
 | els =>
  rw [hk] at h
  obtain ⟨ps, _ | ⟨⟨o, b⟩, k⟩⟩ := st
  ·cases h
  ·cases b with
   | true => cases h
   | false =>
    injection h with h; subst h
    refine G7 (B := B) (by omega) ⟨hb.1, by simpa using hb.2.1, fun x hx => ?_⟩
    rcases List.mem_cons.1 hx with rfl | hx
    ·exact hb.2.2 (o, false) List.mem_cons_self
    ·exact hb.2.2 x (List.mem_cons_of_mem _ hx)
 | fin =>
  rw [hk] at h
  obtain ⟨ps, _ | ⟨⟨o, b⟩, k⟩⟩ := st
  ·cases h
  ·injection h with h; subst h
   have h0 := hb.2.1
   simp only [List.length_cons] at h0
   refine G7 (B := B + 1) (by omega) ?_
   refine P2 ⟨Dt (by omega) hb.1, by simp only; omega, fun x hx => ?_⟩ ?_
   ·have := hb.2.2 x (List.mem_cons_of_mem _ hx)
    exact ⟨Dt (by omega) this.1, Dt (by omega) this.2.1, Fk (by omega) _ this.2.2.1, this.2.2.2⟩
   ·have ho := hb.2.2 (o, b) List.mem_cons_self
    have hk2 : M6 B (ps, k) := ⟨hb.1, by simp only; omega, fun x hx => hb.2.2 x (List.mem_cons_of_mem _ hx)⟩
    have htop := Kx hk2
    exact Rs htop (Fk (by omega) _ ho.2.2.1) (fun h => absurd h ho.2.2.2) (Nat.le_refl _)
 | fld x =>
  rw [hk] at h; injection h with h; subst h
  obtain ⟨c1, c2⟩ := b1 x hk
  exact St hb c1 (fun e => absurd e c2) (by omega)
 | bgn x =>
  rw [hk] at h
  obtain ⟨ps, k⟩ := st
  injection h with h; subst h
  obtain ⟨c1, c2⟩ := b2 x hk
  obtain ⟨q1, q2, _⟩ := WE hk
  refine ⟨Dt (by omega) hb.1, by have := hb.2.1; simp only [List.length_cons] at this ⊢; omega, fun o ho => ?_⟩
  rcases List.mem_cons.1 ho with rfl | ho
  ·simp only [q1, q2]
   exact ⟨Od _, Od _, Fk (by omega) _ c1, c2⟩
  ·have := hb.2.2 o ho
   exact ⟨Dt (by omega) this.1, Dt (by omega) this.2.1, Fk (by omega) _ this.2.2.1, this.2.2.2⟩
theorem UY (x : Pt) : Cx x [] = [x] := rfl
theorem OB (x y : Pt) (l : List Pt) : Cx x (l ++ [y]) = if x.k = 1 ∧ y.k = 1 then l ++ [tP (y.t ++ x.t)] else l ++ [y] ++ [x] := by
 unfold Cx
 simp
theorem Pc {p s a b : AF} (h : As p s = some (a, b)) : b = s.drop (a.length + p.length) := by
 have e := EX h
 subst e
 rw [← List.append_assoc, ← List.length_append, List.drop_left]
section
variable {s p r d q : AF} {i : Nat} {l : List Pt}
theorem QS (h : As opS s = some (p, r)) (k : As clS r = some (d, q)) : s.length = p.length + d.length + q.length + 4 := by
 have l1 := Co h
 have l2 := Co k
 have h3 : opS.length = 2 := rfl
 have h4 : clS.length = 2 := rfl
 omega
end
structure RefB (K : Nat) (s0 : AF) (i : Nat) (x : List Pt × Nat × Nat × AF) : Prop where
 bd : R4 (K + 2 * s0.length) x.1
 tl : x.2.2.1 = 5 ∨ x.2.2.1 = 6 → x.2.2.2 = s0.drop x.2.1 ∧ i + 7 ≤ x.2.1 ∧ x.2.1 ≤ s0.length ∧ R4 (K + 2 * x.2.1) x.1
 cs : x.2.2.1 = 0 ∨ x.2.2.1 = 1 ∨ x.2.2.1 = 5 ∨ x.2.2.1 = 6 ∨ x.2.2.1 = 7
 le : x.2.1 ≤ s0.length
theorem RefB.to {K : Nat} {s0 : AF} {i i' : Nat} {x : List Pt × Nat × Nat × AF} (h : RefB K s0 i x) (hi : i' ≤ i) : RefB K s0 i' x :=
 ⟨h.bd, fun e => ⟨(h.tl e).1, by have := (h.tl e).2.1; omega, (h.tl e).2.2⟩, h.cs, h.le⟩
abbrev Zt (l : List AF) : List AV := l.map AV.str
theorem drop_at {α : Type} {l : List α} {k : Nat} {x : α} (h : l[k]? = some x) : l.drop k = x :: l.drop (k + 1) := by
 have hk := (List.getElem?_eq_some_iff.1 h).1
 rw [List.drop_eq_getElem_cons hk, (List.getElem?_eq_some_iff.1 h).2]
theorem Wd {α : Type} [DecidableEq α] {a b : List α} (hl : a.length = b.length) {k : Nat} {x y : α} (hx : a[k]? = some x) (hy : b[k]? = some y) : (a.drop k = b.drop k) ↔ (x = y ∧ a.drop (k + 1) = b.drop (k + 1)) := by
 rw [drop_at hx, drop_at hy]; simp
attribute [local simp] Jm Dg Dj KG JZ J0 KK DQ DZ EU FW I7 Id IP KJ IM IT KR JD K4 IH Ix J2 Ju KD R5 pe Jg J3 JV K7 KF Jn Ip J9 KQ Jw KT ID J8 F0 Nd NU MY Mh MU Mj MN ML Nf MK M9 MQ NP Nn Mn Ms Np MB Mi M8 NA F2 NG FC MA NB No NL NF NX N2 NK Mp MH MC Nh MF N6 NC NM MG NN NZ MO Mm ND Nk NR NI Eu NJ Mv MX NE Me Mb NT MI NS Md Mt ME MJ N8 Nm MV NQ NO Mo I6 K5 Jv Ji Jb JQ I5 IZ IL Ig JA HM K9 List.mem_cons guardK Cs E6 EM Fd Ng Ew F1 Ez Es Ep F8 Eq F7 Ef MS MR Er Jq Ml NV Nl MM Mx El JG N3 Mc JT Jp Nc Gp F5 Ey Et FA Ni N5 F9 N4 Ej KI En Ek JE Ev FB My MT Mr IX Mu Nq J4 Jo Qz I0 Hd G4 HQ Hu Hx DC Ea EW JB Eb Ee DG Cv Su Hc HS Ec Hq Hs Cl Ch B1 Au Ba Ci Cb ev get put Dx AB CS K8 I4 Io Jh Hy Ib DP part Am Fo IF Fb isNil CI CP Cp CQ CR Im JM IC Ia Jx JO JS JN IA It KA IU Jt IK Is K0 AV.fits AV.cells ones AV.one D7 BY DB CY DK DM KO E5 EG C5 BB CD ER Cw AY Ao TZ FO K3 I9 List.getElem?_cons_zero List.getElem?_cons_succ Ei Eg Eh JC K2 Jy Fp Ih IQ IR Jz JP Iu J7 Mg Ij Ii JF IE KN JY IB JI Ie KH KP JW Je IG Jl JK Jk Jd J6 Jj
theorem TG (a b : List AF) (hmx : a.length ≤ 140737488355328) : APure Tryz.prog 23 [DN a, DN b] (.bool (decide (a = b))) := by
 refine AM Tryz.func23 ZC rfl fun n H hH => ?_
 repeat' (first | (simp -implicitDefEqProofs [c23, -getElem?_pos, AA]) | (simp (disch := omega) only [AJ]) | (with_reducible first | refine A8 ?_ ?_ ?_ | exact AG | refine SameB.upd ?_ ?_ _ | assumption | refine A3 ?_ | refine KM.of ?_ | refine AI ?_ | intro _g _hg | refine AK ?_ ?_ | intro _hc) | omega)
 ·have : a ≠ b := by rintro rfl; simp_all
  simp [this]
 ·have hl : a.length = b.length := by omega
  refine LoopK.go (fun m s => ∃ (k : Nat), k + m = a.length ∧ s = ⟨[(0, DN a), (1, DN b), (5, .int .i64 k)], n, H⟩ ∧ (a = b ↔ a.drop k = b.drop k)) a.length ⟨0, by omega, rfl, by simp⟩ ?_
  rintro m s ⟨k, hkm, rfl, hE⟩ J hJ
  by_cases hk : k < a.length
  ·obtain ⟨x, hx⟩ : ∃ x, a[k]? = some x := ⟨_, List.getElem?_eq_getElem hk⟩
   obtain ⟨y, hy⟩ : ∃ y, b[k]? = some y := ⟨_, List.getElem?_eq_getElem (by omega)⟩
   rw [Wd hl hx hy] at hE
   repeat' (first | (simp -implicitDefEqProofs [OO, Nv, OR, OI, O0, c23, -getElem?_pos, AA, hx, hy]) | (simp (disch := omega) only [AJ]) | (with_reducible first | refine A8 ?_ ?_ ?_ | exact AG | refine SameB.upd ?_ ?_ _ | assumption | refine A3 ?_ | refine KM.of ?_ | refine AI ?_ | intro _g _hg | refine AK ?_ ?_ | intro _hc) | omega)
   ·rw [hE]; simp_all
   ·exact hJ (m - 1) _ (by omega) ⟨k + 1, by omega, rfl, by simp_all⟩
  ·have hk0 : k = a.length := by omega
   subst hk0
   simp [hl] at hE
   repeat' (first | (simp -implicitDefEqProofs [OO, Nv, OR, OI, O0, c23, -getElem?_pos, AA, hE]) | (simp (disch := omega) only [AJ]) | (with_reducible first | refine A8 ?_ ?_ ?_ | exact AG | refine SameB.upd ?_ ?_ _ | assumption | refine A3 ?_ | refine KM.of ?_ | refine AI ?_ | intro _g _hg | refine AK ?_ ?_ | intro _hc) | omega)
abbrev aB (c : UInt8) : AV := .int .u8 c.toNat
theorem C1 {x y : AV} (h : x = y) : AA x y := h ▸ A1 x
theorem Vc (c : UInt8) : APure Tryz.prog 144 [aB c] (.bool (Ll c)) := by
 have hl : Ll c = ((decide ((97 : Int) ≤ c.toNat) && decide ((c.toNat : Int) ≤ 122)) || (decide ((65 : Int) ≤ c.toNat) && decide ((c.toNat : Int) ≤ 90)) || decide ((c.toNat : Int) = 95)) := by
  unfold Ll
  congr 1
  ·congr 1
   ·congr 1 <;> (apply decide_eq_decide.2; omega)
   ·congr 1 <;> (apply decide_eq_decide.2; omega)
  ·apply decide_eq_decide.2; omega
 obtain ⟨z, hz⟩ : ∃ z, Ll c = z := ⟨_, rfl⟩
 rw [hz] at hl ⊢
 refine AM Tryz.func144 Yf rfl fun n H hH => ?_
 repeat' (first | (simp -implicitDefEqProofs [c144, -getElem?_pos]) | (simp (disch := omega) only [AJ]) | (with_reducible first | refine A8 ?_ ?_ ?_ | exact AG | refine SameB.upd ?_ ?_ _ | assumption | refine A3 ?_ | refine KM.of ?_ | refine AI ?_ | intro _g _hg | refine AK ?_ ?_ | intro _hc) | omega)
 all_goals (refine C1 ?_; rw [hl]; grind)
theorem VI (c : UInt8) : APure Tryz.prog 145 [aB c] (.bool (Cm c)) := by
 have hl : Cm c = (decide ((48 : Int) ≤ c.toNat) && decide ((c.toNat : Int) ≤ 57)) := by
  unfold Cm
  rw [← Bool.decide_and]; apply decide_eq_decide.2; omega
 obtain ⟨z, hz⟩ : ∃ z, Cm c = z := ⟨_, rfl⟩
 rw [hz] at hl ⊢
 refine AM Tryz.func145 YM rfl fun n H hH => ?_
 repeat' (first | (simp -implicitDefEqProofs [c145, -getElem?_pos]) | (simp (disch := omega) only [AJ]) | (with_reducible first | refine A8 ?_ ?_ ?_ | exact AG | refine SameB.upd ?_ ?_ _ | assumption | refine A3 ?_ | refine KM.of ?_ | refine AI ?_ | intro _g _hg | refine AK ?_ ?_ | intro _hc) | omega)
 all_goals first | (refine C1 ?_; rw [hl]; done) | (refine C1 ?_; rw [hl]; grind)
def RO : AF := [105, 102, 32, 101, 97, 99, 104, 32, 105, 110, 32, 101, 108, 115, 101, 32, 101, 110, 100, 32, 111, 112, 101, 110]
theorem X4 : APure Tryz.prog 146 [] (DN Xl) := by
 have h := Pp RO (by decide) (by decide) (by decide +kernel)
 have e : Lib.fields RO = Xl := by decide +kernel
 rw [e] at h
 have hw : RO = [105, 102, 32, 101, 97, 99, 104, 32, 105, 110, 32, 101, 108, 115, 101, 32, 101, 110, 100, 32, 111, 112, 101, 110] := rfl
 rw [hw] at h
 generalize Xl = K at *
 refine AM Tryz.func146 Yg rfl fun n H hH => ?_
 repeat' (first | (simp -implicitDefEqProofs [c146, -getElem?_pos]) | (simp (disch := omega) only [AJ]) | ((with_reducible refine AP 178 ?_); (refine' CallP.sf ?_ (h) ?_); (focus first | (with_reducible exact A0 _) | (simp [AC, AA, A1, A0]; done))) | (with_reducible first | refine A8 ?_ ?_ ?_ | exact AG | refine SameB.upd ?_ ?_ _ | assumption | refine A3 ?_ | refine KM.of ?_ | refine AI ?_ | intro _g _hg | refine AK ?_ ?_ | intro _hc) | omega)
 all_goals exact A1 _
def Dl (s : AF) : List AF → Nat → Int
 | [], _ => -1
 | x :: xs, k => if x = s then (k : Int) else Dl s xs (k + 1)
theorem Kf (s : AF) : ∀ (l : List AF) (k : Nat), 0 ≤ Dl s l k ↔ s ∈ l
 | [], _ => by simp [Dl]
 | x :: l, k => by
  unfold Dl
  split
  ·rename_i h; simp [h]
  ·rename_i h; rw [Kf s l (k + 1)]; simp [Ne.symm h]
theorem UJ (l : List AF) (x : AF) (hmx : l.length ≤ 140737488355328) : APure Tryz.prog 91 [DN l, .str x] (.int .i64 (Dl x l 0)) := by
 refine AM Tryz.func91 Zl rfl fun n H hH => ?_
 repeat' (first | (simp -implicitDefEqProofs [c91, -getElem?_pos, AA]) | (simp (disch := omega) only [AJ]) | (with_reducible first | refine A8 ?_ ?_ ?_ | exact AG | refine SameB.upd ?_ ?_ _ | assumption | refine A3 ?_ | refine KM.of ?_ | refine AI ?_ | intro _g _hg | refine AK ?_ ?_ | intro _hc) | omega)
 refine LoopK.go (fun m s => ∃ (k : Nat), k + m = l.length ∧ s = ⟨[(0, DN l), (1, .str x), (7, .int .i64 l.length), (8, .int .i64 k)], n, H⟩ ∧ Dl x l 0 = Dl x (l.drop k) k) l.length ⟨0, by omega, rfl, by simp⟩ ?_
 rintro m s ⟨k, hkm, rfl, hE⟩ J hJ
 by_cases hk : k < l.length
 ·obtain ⟨y, hy⟩ : ∃ y, l[k]? = some y := ⟨_, List.getElem?_eq_getElem hk⟩
  rw [drop_at hy, Dl] at hE
  repeat' (first | (simp -implicitDefEqProofs [O8, OK, Ny, OD, c91, -getElem?_pos, AA, hy]) | (simp (disch := omega) only [AJ]) | (with_reducible first | refine A8 ?_ ?_ ?_ | exact AG | refine SameB.upd ?_ ?_ _ | assumption | refine A3 ?_ | refine KM.of ?_ | refine AI ?_ | intro _g _hg | refine AK ?_ ?_ | intro _hc) | omega)
  ·rw [hE, if_pos (by simp_all)]
  ·exact hJ (m - 1) _ (by omega) ⟨k + 1, by omega, rfl, by rw [hE, if_neg (fun h => ?_)]; simp_all⟩
 ·have hk0 : k = l.length := by omega
  subst hk0
  simp [Dl] at hE
  repeat' (first | (simp -implicitDefEqProofs [O8, OK, Ny, OD, c91, -getElem?_pos, AA, hE]) | (simp (disch := omega) only [AJ]) | (with_reducible first | refine A8 ?_ ?_ ?_ | exact AG | refine SameB.upd ?_ ?_ _ | assumption | refine A3 ?_ | refine KM.of ?_ | refine AI ?_ | intro _g _hg | refine AK ?_ ?_ | intro _hc) | omega)
theorem Qb (l : List AF) (x : AF) (hmx : l.length ≤ 140737488355328) : APure Tryz.prog 53 [DN l, .str x] (.bool (decide (x ∈ l))) := by
 have h : decide (x ∈ l) = decide (0 ≤ Dl x l 0) := decide_eq_decide.2 (Kf x l 0).symm
 rw [h]
 refine AM Tryz.func53 Zc rfl fun n H hH => ?_
 repeat' (first | (simp -implicitDefEqProofs [c53, -getElem?_pos, AA]) | (simp (disch := omega) only [AJ]) | ((with_reducible refine AP 91 ?_); (refine' CallP.sf ?_ (UJ l x hmx) ?_); (focus first | (with_reducible exact A0 _) | (simp [AC, AA, A1, A0]; done))) | (with_reducible first | refine A8 ?_ ?_ ?_ | exact AG | refine SameB.upd ?_ ?_ _ | assumption | refine A3 ?_ | refine KM.of ?_ | refine AI ?_ | intro _g _hg | refine AK ?_ ?_ | intro _hc) | omega)
def Wc (i : Nat) (c : UInt8) : Bool := Ll c || (decide (i ≠ 0) && Cm c)
def Mf : Nat → AF → Bool
 | _, [] => true
 | i, c :: r => Wc i c && Mf (i + 1) r
theorem Sg : ∀ (r : AF) (i : Nat), 0 < i → Mf i r = r.all fun c => Ll c || Cm c
 | [], _, _ => rfl
 | c :: r, i, h => by
  have : decide (i ≠ 0) = true := decide_eq_true (by omega)
  simp only [Mf, List.all_cons, Wc, this, Bool.true_and, Sg r (i + 1) (by omega)]
theorem XA {c : UInt8} (h : Cm c = true) : Ll c = false := by
 unfold Cm at h
 simp only [decide_eq_true_eq] at h
 unfold Ll
 simp only [Bool.or_eq_false_iff, Bool.and_eq_false_iff, decide_eq_false_iff_not]
 exact ⟨⟨by omega, by omega⟩, by omega⟩
theorem Uf {s : AF} : Qg s = (decide (s ≠ []) && decide (s.length ≤ 24) && Mf 0 s) := by
 unfold Qg
 cases s with
 | nil => rfl
 | cons c r =>
  simp only [List.headD_cons, Mf, List.all_cons, Wc, Sg r 1 (by omega), ne_eq, not_true, decide_false, Bool.false_and, Bool.or_false]
  cases h : Cm c with
  | true => rw [XA h]; simp
  | false => simp [Bool.and_assoc]
theorem Ov (s : AF) (hs : s.length ≤ 2000000) : APure Tryz.prog 107 [.str s] (.bool (Kp s)) := by
 have hw := X4
 have hcon := Qb Xl s (by decide)
 have hid : Kp s = (decide (s ≠ []) && decide (s.length ≤ 24) && Mf 0 s && !decide (s ∈ Xl)) := by unfold Kp; rw [Uf]
 rw [hid]
 generalize Xl = K at *
 refine AM Tryz.func107 Xh rfl fun n H hH => ?_
 repeat' (first | (simp -implicitDefEqProofs [c107, -getElem?_pos, AA]) | (simp (disch := omega) only [AJ]) | (with_reducible first | refine A8 ?_ ?_ ?_ | exact AG | refine SameB.upd ?_ ?_ _ | assumption | refine A3 ?_ | refine KM.of ?_ | refine AI ?_ | intro _g _hg | refine AK ?_ ?_ | intro _hc) | omega)
 refine LoopK.go (fun m st => ∃ (k : Nat), k + m = s.length ∧ st = ⟨[(0, .str s), (5, aI s.length), (6, aI k)], n, H⟩ ∧ Mf 0 s = Mf k (s.drop k)) s.length ⟨0, by omega, rfl, by simp⟩ ?_
 rintro m st ⟨k, hkm, rfl, hE⟩ J hJ
 by_cases hk : k < s.length
 ·obtain ⟨y, hy⟩ : ∃ y, s[k]? = some y := ⟨_, List.getElem?_eq_getElem hk⟩
  rw [drop_at hy, Mf] at hE
  have hl := Vc y
  have hd := VI y
  have hk' : (k : Int) < s.length := by omega
  unfold Wc at hE
  generalize Ll y = bl at *
  generalize Cm y = bd at *
  by_cases h0 : k = 0
  ·subst h0
   have hk0 : (0 : Int) < s.length := hk'
   have hne : ¬ s = [] := fun e => by rw [e] at hk; simp at hk
   cases bl
   ·repeat' (first | (simp -implicitDefEqProofs [Cu, D1, Ct, D0, c107, -getElem?_pos, hy, hk, hk0, hne]) | (simp (disch := omega) only [AJ]) | ((with_reducible refine AP 144 ?_); (refine' CallP.sf ?_ (hl) ?_); (focus first | (with_reducible exact A0 _) | (simp [AC, AA, A1, A0]; done))) | ((with_reducible refine AP 145 ?_); (refine' CallP.sf ?_ (hd) ?_); (focus first | (with_reducible exact A0 _) | (simp [AC, AA, A1, A0]; done))) | (with_reducible first | refine A8 ?_ ?_ ?_ | exact AG | refine SameB.upd ?_ ?_ _ | assumption | refine A3 ?_ | refine KM.of ?_ | refine AI ?_ | intro _g _hg | refine AK ?_ ?_ | intro _hc) | omega)
    all_goals (refine C1 ?_; rw [hE]; simp)
   ·repeat' (first | (simp -implicitDefEqProofs [Cu, D1, Ct, D0, c107, -getElem?_pos, hy, hk, hk0, hne]) | (simp (disch := omega) only [AJ]) | ((with_reducible refine AP 144 ?_); (refine' CallP.sf ?_ (hl) ?_); (focus first | (with_reducible exact A0 _) | (simp [AC, AA, A1, A0]; done))) | ((with_reducible refine AP 145 ?_); (refine' CallP.sf ?_ (hd) ?_); (focus first | (with_reducible exact A0 _) | (simp [AC, AA, A1, A0]; done))) | (with_reducible first | refine A8 ?_ ?_ ?_ | exact AG | refine SameB.upd ?_ ?_ _ | assumption | refine A3 ?_ | refine KM.of ?_ | refine AI ?_ | intro _g _hg | refine AK ?_ ?_ | intro _hc) | omega)
    exact hJ (m - 1) _ (by omega) ⟨1, by omega, rfl, by rw [hE]; simp⟩
  ·have h0' : ¬ (k : Int) = 0 := by omega
   cases bl <;> cases bd
   ·repeat' (first | (simp -implicitDefEqProofs [Cu, D1, Ct, D0, c107, -getElem?_pos, hy, hk', h0']) | (simp (disch := omega) only [AJ]) | ((with_reducible refine AP 144 ?_); (refine' CallP.sf ?_ (hl) ?_); (focus first | (with_reducible exact A0 _) | (simp [AC, AA, A1, A0]; done))) | ((with_reducible refine AP 145 ?_); (refine' CallP.sf ?_ (hd) ?_); (focus first | (with_reducible exact A0 _) | (simp [AC, AA, A1, A0]; done))) | (with_reducible first | refine A8 ?_ ?_ ?_ | exact AG | refine SameB.upd ?_ ?_ _ | assumption | refine A3 ?_ | refine KM.of ?_ | refine AI ?_ | intro _g _hg | refine AK ?_ ?_ | intro _hc) | omega)
    all_goals (refine C1 ?_; rw [hE]; simp)
   ·repeat' (first | (simp -implicitDefEqProofs [Cu, D1, Ct, D0, c107, -getElem?_pos, hy, hk', h0']) | (simp (disch := omega) only [AJ]) | ((with_reducible refine AP 144 ?_); (refine' CallP.sf ?_ (hl) ?_); (focus first | (with_reducible exact A0 _) | (simp [AC, AA, A1, A0]; done))) | ((with_reducible refine AP 145 ?_); (refine' CallP.sf ?_ (hd) ?_); (focus first | (with_reducible exact A0 _) | (simp [AC, AA, A1, A0]; done))) | (with_reducible first | refine A8 ?_ ?_ ?_ | exact AG | refine SameB.upd ?_ ?_ _ | assumption | refine A3 ?_ | refine KM.of ?_ | refine AI ?_ | intro _g _hg | refine AK ?_ ?_ | intro _hc) | omega)
    exact hJ (m - 1) _ (by omega) ⟨k + 1, by omega, rfl, by rw [hE]; simp [h0]⟩
   ·repeat' (first | (simp -implicitDefEqProofs [Cu, D1, Ct, D0, c107, -getElem?_pos, hy, hk', h0']) | (simp (disch := omega) only [AJ]) | ((with_reducible refine AP 144 ?_); (refine' CallP.sf ?_ (hl) ?_); (focus first | (with_reducible exact A0 _) | (simp [AC, AA, A1, A0]; done))) | ((with_reducible refine AP 145 ?_); (refine' CallP.sf ?_ (hd) ?_); (focus first | (with_reducible exact A0 _) | (simp [AC, AA, A1, A0]; done))) | (with_reducible first | refine A8 ?_ ?_ ?_ | exact AG | refine SameB.upd ?_ ?_ _ | assumption | refine A3 ?_ | refine KM.of ?_ | refine AI ?_ | intro _g _hg | refine AK ?_ ?_ | intro _hc) | omega)
    exact hJ (m - 1) _ (by omega) ⟨k + 1, by omega, rfl, by rw [hE]; simp⟩
   ·repeat' (first | (simp -implicitDefEqProofs [Cu, D1, Ct, D0, c107, -getElem?_pos, hy, hk', h0']) | (simp (disch := omega) only [AJ]) | ((with_reducible refine AP 144 ?_); (refine' CallP.sf ?_ (hl) ?_); (focus first | (with_reducible exact A0 _) | (simp [AC, AA, A1, A0]; done))) | ((with_reducible refine AP 145 ?_); (refine' CallP.sf ?_ (hd) ?_); (focus first | (with_reducible exact A0 _) | (simp [AC, AA, A1, A0]; done))) | (with_reducible first | refine A8 ?_ ?_ ?_ | exact AG | refine SameB.upd ?_ ?_ _ | assumption | refine A3 ?_ | refine KM.of ?_ | refine AI ?_ | intro _g _hg | refine AK ?_ ?_ | intro _hc) | omega)
    exact hJ (m - 1) _ (by omega) ⟨k + 1, by omega, rfl, by rw [hE]; simp⟩
 ·have hk0 : k = s.length := by omega
  subst hk0
  have hk' : ¬ (s.length : Int) < s.length := by omega
  rw [List.drop_length] at hE
  simp only [Mf] at hE
  rw [hE]
  repeat' (first | (simp -implicitDefEqProofs [Cu, D1, Ct, D0, c107, -getElem?_pos, hk']) | (simp (disch := omega) only [AJ]) | ((with_reducible refine AP 146 ?_); (refine' CallP.sf ?_ (hw) ?_); (focus first | (with_reducible exact A0 _) | (simp [AC, AA, A1, A0]; done))) | ((with_reducible refine AP 53 ?_); (refine' CallP.sf ?_ (hcon) ?_); (focus first | (with_reducible exact A0 _) | (simp [AC, AA, A1, A0]; done))) | (with_reducible first | refine A8 ?_ ?_ ?_ | exact AG | refine SameB.upd ?_ ?_ _ | assumption | refine A3 ?_ | refine KM.of ?_ | refine AI ?_ | intro _g _hg | refine AK ?_ ?_ | intro _hc) | omega)
  all_goals (refine C1 ?_; grind)
end Go.Proofs.YtnfjgphfaemjcaaGreatDoor
