/- Templates: how they are filled, and the paths of theirs that are free; no condition. -/
import Derived.Test.YtnfjgphfaemjcaaGreatDoorMdM
import Derived.Test.YtnfjgphfaemjcaaGreatDoorMgI
import Derived.Test.YtnfjgphfaemjcaaGreatDoorMgJ
import Derived.Test.YtnfjgphfaemjcaaGreatDoorAdE
set_option linter.all false
set_option maxHeartbeats 2000000
namespace Go.Proofs.YtnfjgphfaemjcaaGreatDoor
mutual
def Cn : Pt → Nat
  | .mk _ _ _ _ _ b e => AX b + AX e + 1
def AX : List Pt → Nat
  | [] => 0
  | x :: r => Cn x + AX r
end
/-! ### parts, one behind the other -/
theorem HQ : ∀ a b : List Pt, AX (a ++ b) = AX a + AX b
  | [], b => by simp [AX]
  | x :: a, b => by simp only [List.cons_append, AX, HQ a b]; omega
mutual
def Qu : Pt → Prop
  | .mk k t n pa fs b e => t.length ≤ 1048576 ∧ (k = 1 → t ≠ []) ∧ n.length ≤ 24 ∧ pa.length ≤ 8 ∧ (∀ s ∈ pa, s.length ≤ 24) ∧ fs.length ≤ 8 ∧ (∀ f ∈ fs, f.1.length ≤ 24 ∧ 0 ≤ f.2 ∧ f.2 ≤ 200) ∧ Jj b ∧ Jj e
def Jj : List Pt → Prop
  | [] => True
  | x :: r => Qu x ∧ Jj r
end
theorem PP : ∀ {l : List Pt} {x : Pt}, Jj l → x ∈ l → Qu x
  | y :: r, x, h, hx => by
    simp only [Jj] at h
    rcases List.mem_cons.1 hx with rfl | hx
    · exact h.1
    · exact PP h.2 hx
theorem IR : ∀ t : AE, (E1 t).length ≤ 4 * t.length
  | [] => by simp [E1]
  | [c] => by simp [E1]
  | a :: b :: r => by
    have h1 := IR r
    have h2 := IR (b :: r)
    unfold E1
    split
    · simp [Pm] at *; omega
    · simp at *; omega
theorem ZZ : ∀ t : AE, t ≠ [] → E1 t ≠ []
  | [], h => absurd rfl h
  | [c], _ => by simp [E1]
  | a :: b :: r, _ => by
    unfold E1
    split
    · simp [Pm]
    · simp
theorem Sz (sep : AE) (B : Nat) : ∀ l : List AE, (∀ x ∈ l, x.length ≤ B) → (Lib.join l sep).length ≤ l.length * (B + sep.length)
  | [], _ => by simp [Lib.join]
  | [x], h => by have := h x (by simp); simp [Lib.join]; omega
  | x :: y :: r, h => by
    have h1 := h x (by simp)
    have h2 := Sz sep B (y :: r) fun z hz => h z (List.mem_cons_of_mem _ hz)
    have e : Lib.join (x :: y :: r) sep = x ++ sep ++ Lib.join (y :: r) sep := by simp [Lib.join]
    rw [e]
    simp only [List.length_append, List.length_cons] at h2 ⊢
    rw [Nat.succ_mul]
    omega
theorem Pc {n : Int} (h : 0 ≤ n ∧ n ≤ 200) : (Lib.itoa n).length ≤ 3 := by
  obtain ⟨u, rfl⟩ : ∃ u : Nat, n = (u : Int) := ⟨n.toNat, by omega⟩
  rw [Lib.itoa_nonneg, Lib.decDigits_length]
  exact GV 2 u (by omega)
theorem HP : ∀ fs : List (AE × Int), (∀ f ∈ fs, f.1.length ≤ 24 ∧ 0 ≤ f.2 ∧ f.2 ≤ 200) → (fs.flatMap Q5).length ≤ fs.length * 30
  | [], _ => by simp
  | f :: r, h => by
    have h1 := h f (by simp)
    have h2 := HP r fun x hx => h x (List.mem_cons_of_mem _ hx)
    have h3 := Pc h1.2
    have h4 : (Q5 f).length ≤ 30 := by
      unfold Q5
      split <;> simp <;> omega
    simp only [List.flatMap_cons, List.length_append, List.length_cons, Nat.succ_mul]
    omega
theorem Pd {pa : List AE} (h1 : pa.length ≤ 8) (h2 : ∀ s ∈ pa, s.length ≤ 24) : (T7 pa).length ≤ 200 := by
  have := Sz [46] 24 pa h2
  have h3 : pa.length * (24 + 1) ≤ 8 * 25 := Nat.mul_le_mul_right _ h1
  unfold T7
  simp at this
  omega
theorem A01 (p : Pt) : Qu p → (ZP p).length ≤ 4196000 * Cn p := by
  refine Pt.ind (Q := fun p => Qu p → (ZP p).length ≤ 4196000 * Cn p) ?_ p
  intro k t n pa fs b e hb he h
  simp only [Qu] at h
  obtain ⟨h1, _, h3, h4, h5, h6, h7, h8, h9⟩ := h
  have hl : ∀ l : List Pt, (∀ x ∈ l, Qu x → (ZP x).length ≤ 4196000 * Cn x) → Jj l → (DC l).length ≤ 4196000 * AX l := by
    intro l
    induction l with
    | nil => intro _ _; simp [DC]
    | cons x r ih =>
      intro h ho
      simp only [Jj] at ho
      have a := h x (by simp) ho.1
      have b := ih (fun y hy => h y (List.mem_cons_of_mem _ hy)) ho.2
      simp only [DC, AX, List.length_append, Nat.mul_add]
      omega
  have lb := hl b hb h8
  have le := hl e he h9
  have hw := Pd h4 h5
  have hf := HP fs h7
  have hr := IR t
  have hf2 : fs.length * 30 ≤ 8 * 30 := Nat.mul_le_mul_right _ h6
  unfold ZP Cn
  simp only [Nat.mul_add]
  split
  · omega
  · split
    · simp only [List.length_append, opS, clS, List.length_cons, List.length_nil]; omega
    · split <;> split <;> simp [ifS, N6, Wn, N3, OY, clS] <;> omega
theorem Gf : ∀ l : List Pt, Jj l → (DC l).length ≤ 4196000 * AX l
  | [], _ => by simp [DC]
  | x :: r, h => by
    simp only [Jj] at h
    have a := A01 x h.1
    have b := Gf r h.2
    simp only [DC, AX, List.length_append, Nat.mul_add]
    omega
theorem Zk (p : Pt) : ∀ pv i d, (Gb pv i d p).2 = 0 → (Gb pv i d p).1 = i + Cn p ∧ Cn p + i ≤ 200 := by
  refine Pt.ind (Q := fun p => ∀ pv i d, (Gb pv i d p).2 = 0 → (Gb pv i d p).1 = i + Cn p ∧ Cn p + i ≤ 200) ?_ p
  intro k t n pa fs b e hb he pv i d h
  have hl : ∀ l : List Pt, (∀ x ∈ l, ∀ pv i d, (Gb pv i d x).2 = 0 → (Gb pv i d x).1 = i + Cn x ∧ Cn x + i ≤ 200) → ∀ pv i d, i ≤ 200 → (BU pv i d l).2 = 0 → (BU pv i d l).1 = i + AX l ∧ AX l + i ≤ 200 := by
    intro l
    induction l with
    | nil => intro _ pv i d hi _; simp [BU, AX]; exact hi
    | cons x r ih =>
      intro h pv i d hi h2
      unfold BU at h2 ⊢
      by_cases hx : (Gb pv i d x).2 = 0
      · rw [if_neg (by simpa using hx)] at h2 ⊢
        obtain ⟨a1, a2⟩ := h x (by simp) pv i d hx
        obtain ⟨b1, b2⟩ := ih (fun y hy => h y (List.mem_cons_of_mem _ hy)) _ _ _ (by omega) h2
        simp only [AX]
        omega
      · rw [if_pos hx] at h2; exact absurd h2 hx
  have hi := A0s h
  unfold Gb at h ⊢
  split at h
  · rename_i hc; exact absurd h hc
  · rename_i hc
    rw [if_neg hc]
    split at h
    · rename_i hb2; exact absurd h hb2
    · rename_i hb2
      rw [if_neg hb2]
      obtain ⟨a1, a2⟩ := hl b hb 0 (i + 1) (d + 1) (by omega) (by simpa using hb2)
      obtain ⟨c1, c2⟩ := hl e he 0 _ (d + 1) (by omega) h
      unfold Cn
      omega
theorem Hr : ∀ (l : List Pt) (pv : Int) (i d : Nat), i ≤ 200 → (BU pv i d l).2 = 0 → (BU pv i d l).1 = i + AX l ∧ AX l + i ≤ 200
  | [], pv, i, d, hi, _ => by simp [BU, AX]; exact hi
  | x :: r, pv, i, d, hi, h2 => by
    unfold BU at h2 ⊢
    by_cases hx : (Gb pv i d x).2 = 0
    · rw [if_neg (by simpa using hx)] at h2 ⊢
      obtain ⟨a1, a2⟩ := Zk x pv i d hx
      obtain ⟨b1, b2⟩ := Hr r _ _ _ (by omega) h2
      simp only [AX]
      omega
    · rw [if_pos hx] at h2; exact absurd h2 hx
mutual
def Ph : Pt → Prop
  | .mk _ t n pa fs b e => t.length ≤ 1048576 ∧ n.length ≤ 2000000 ∧ pa.length ≤ 2000000 ∧ (∀ s ∈ pa, s.length ≤ 2000000) ∧ fs.length ≤ 2000000 ∧ b.length ≤ 2000000 ∧ e.length ≤ 2000000 ∧ FU b ∧ FU e
def FU : List Pt → Prop
  | [] => True
  | x :: r => Ph x ∧ FU r
end
theorem D6 : ∀ {l : List Pt} {x : Pt}, FU l → x ∈ l → Ph x
  | y :: r, x, h, hx => by
    simp only [FU] at h
    rcases List.mem_cons.1 hx with rfl | hx
    · exact h.1
    · exact D6 h.2 hx
theorem Sd {s : AE} (h : Ho s = true) : s.length ≤ 24 := by
  unfold Ho IK at h
  simp only [Bool.and_eq_true, decide_eq_true_eq] at h
  exact h.1.1.1.2
theorem A30 {s : AE} (h : UH s = true) : s.length ≤ 24 := by
  unfold UH at h
  simp only [Bool.and_eq_true, decide_eq_true_eq] at h
  obtain ⟨⟨h1, h2⟩, h3⟩ := h
  have e := (Pu h1).1
  have hk : (Bg s).1 ≤ 999 := h3
  rw [← e]
  obtain ⟨u, hu⟩ : ∃ u : Nat, (Bg s).1 = (u : Int) := ⟨(Bg s).1.toNat, by omega⟩
  rw [hu, Lib.itoa_nonneg, Lib.decDigits_length]
  have := GV 2 u (by omega)
  omega
theorem Pz {pa : List AE} (h : B5 pa = true) : pa.length ≤ 8 ∧ ∀ s ∈ pa, s.length ≤ 24 := by
  cases pa with
  | nil => cases h
  | cons x r =>
    simp only [B5, Bool.and_eq_true, decide_eq_true_eq, List.all_eq_true, Bool.or_eq_true] at h
    obtain ⟨⟨h1, h2⟩, h3⟩ := h
    refine ⟨by simp; omega, fun s hs => ?_⟩
    rcases List.mem_cons.1 hs with rfl | hs
    · exact Sd h2
    · rcases h3 s hs with h | h
      · exact Sd h
      · exact A30 h
theorem A4c {s : AE} (h : IA s ≠ 0) : s.length ≤ 24 := by
  have := Z0 h
  simp only [fk1, fk2, QJ, PD, TH, Ln, Xr, QA, Ya, List.cons_append, List.nil_append, List.mem_cons, List.not_mem_nil, or_false] at this
  rcases this with rfl | rfl | rfl | rfl | rfl | rfl | rfl <;> decide
theorem P7 (p : AE) (st : Fv) : (CF p st).2.length = st.2.length := (TJ p st).2.2
/-! ### how long what is read may be -/
mutual
def IY (B : Nat) : Pt → Prop
  | .mk _ t n pa fs b e => t.length ≤ B ∧ n.length ≤ B ∧ pa.length ≤ B ∧ (∀ s ∈ pa, s.length ≤ B) ∧ fs.length ≤ B ∧ b.length ≤ B ∧ e.length ≤ B ∧ OO B b ∧ OO B e
def OO (B : Nat) : List Pt → Prop
  | [] => True
  | x :: r => IY B x ∧ OO B r
end
theorem bdPs_iff {B : Nat} : ∀ {l : List Pt}, OO B l ↔ ∀ x ∈ l, IY B x
  | [] => by simp [OO]
  | x :: r => by simp [OO, bdPs_iff (l := r)]
theorem DW {B B' : Nat} (h : B ≤ B') (p : Pt) : IY B p → IY B' p := by
  refine Pt.ind (Q := fun p => IY B p → IY B' p) ?_ p
  intro k t n pa fs b e hb he
  simp only [IY, bdPs_iff]
  rintro ⟨h1, h2, h3, h4, h5, h6, h7, h8, h9⟩
  exact ⟨by omega, by omega, by omega, fun s hs => Nat.le_trans (h4 s hs) h, by omega, by omega, by omega, fun x hx => hb x hx (h8 x hx), fun x hx => he x hx (h9 x hx)⟩
theorem A2i {B : Nat} (h : B ≤ 1048576) (p : Pt) : IY B p → Ph p := by
  refine Pt.ind (Q := fun p => IY B p → Ph p) ?_ p
  intro k t n pa fs b e hb he
  have hl : ∀ l : List Pt, (∀ x ∈ l, Ph x) → FU l := by
    intro l
    induction l with
    | nil => intro _; trivial
    | cons x r ih => intro h; exact ⟨h x List.mem_cons_self, ih fun y hy => h y (List.mem_cons_of_mem _ hy)⟩
  simp only [IY, Ph, bdPs_iff]
  rintro ⟨h1, h2, h3, h4, h5, h6, h7, h8, h9⟩
  exact ⟨by omega, by omega, by omega, fun s hs => by have := h4 s hs; omega, by omega, by omega, by omega, hl b fun x hx => hb x hx (h8 x hx), hl e fun x hx => he x hx (h9 x hx)⟩
theorem P0 {B : Nat} (h : B ≤ 1048576) : ∀ l : List Pt, OO B l → FU l
  | [], _ => trivial
  | x :: r, hb => ⟨A2i h x hb.1, P0 h r hb.2⟩
def N0 (B : Nat) (l : List Pt) : Prop := l.length ≤ B ∧ OO B l ∧ ∀ y ∈ l, y.k = 1 → y = tP y.t
theorem AR {B B' : Nat} (h : B ≤ B') {l : List Pt} (hb : N0 B l) : N0 B' l :=
  ⟨Nat.le_trans hb.1 h, bdPs_iff.2 fun x hx => DW h x (bdPs_iff.1 hb.2.1 x hx), hb.2.2⟩
theorem E9 (B : Nat) : N0 B [] := ⟨Nat.zero_le _, trivial, by simp⟩
theorem Qp {B : Nat} {p : Pt} (h : IY B p) : p.t.length ≤ B := by cases p; simp only [IY] at h; exact h.1
theorem Tb {B : Nat} {t : AE} (h : t.length ≤ B) : IY B (tP t) := by simp [tP, IY, OO]; exact h
theorem GN {B c : Nat} {x : Pt} {l : List Pt} (hl : N0 B l) (hx : IY (B + c) x) (hc : x.k = 1 → x.t.length ≤ c ∧ x = tP x.t) (h1 : 1 ≤ c) : N0 (B + c) (BC x l) := by
  obtain ⟨h2, h3, h4⟩ := hl
  have h3' := bdPs_iff.1 h3
  unfold BC
  cases hg : l.getLast? with
  | none => exact ⟨by simp; omega, bdPs_iff.2 fun y hy => by rw [List.mem_singleton.1 hy]; exact hx, fun y hy => by rw [List.mem_singleton.1 hy]; exact fun h => (hc h).2⟩
  | some y =>
    have hy := h3' y (List.mem_of_getLast? hg)
    dsimp only
    split
    · rename_i hk
      refine ⟨by simp; omega, bdPs_iff.2 fun z hz => ?_, fun z hz => ?_⟩
      · rcases List.mem_append.1 hz with hz | hz
        · exact DW (by omega) z (h3' z (List.dropLast_subset l hz))
        · rw [List.mem_singleton.1 hz]
          have := Qp hy
          have := (hc hk.1).1
          exact Tb (by simp; omega)
      · rcases List.mem_append.1 hz with hz | hz
        · exact h4 z (List.dropLast_subset l hz)
        · rw [List.mem_singleton.1 hz]; exact fun _ => rfl
    · refine ⟨by simp; omega, bdPs_iff.2 fun z hz => ?_, fun z hz => ?_⟩
      · rcases List.mem_append.1 hz with hz | hz
        · exact DW (by omega) z (h3' z hz)
        · rw [List.mem_singleton.1 hz]; exact hx
      · rcases List.mem_append.1 hz with hz | hz
        · exact h4 z hz
        · rw [List.mem_singleton.1 hz]; exact fun h => (hc h).2
theorem Rb {B : Nat} {t : AE} {l : List Pt} (hl : N0 B l) (ht : t.length ≤ B) : N0 (B + t.length) (if t = [] then l else BC (tP t) l) := by
  split
  · exact AR (by omega) hl
  · rename_i h
    have : 1 ≤ t.length := List.length_pos_iff.2 h
    exact GN hl (Tb (by omega)) (fun _ => ⟨Nat.le_refl _, rfl⟩) this
theorem Vr {B : Nat} : ∀ {l : List AE} {fs : List (AE × Int)}, Hw l = some fs → fs.length = l.length
  | [], fs, h => by simp [Hw] at h; subst h; rfl
  | s :: r, fs, h => by
    unfold Hw at h
    split at h
    · cases h
    · rename_i f hf
      obtain ⟨fs', h1, h2⟩ := Option.map_eq_some_iff.1 h
      rw [← h2, List.length_cons, Vr (B := B) h1, List.length_cons]
theorem ZL {B : Nat} (h : 24 ≤ B) {pa : List AE} (hp : B5 pa = true) : pa.length ≤ B ∧ ∀ s ∈ pa, s.length ≤ B := by
  obtain ⟨h1, h2⟩ := Pz hp
  exact ⟨by omega, fun s hs => by have := h2 s hs; omega⟩
theorem UM {d : AE} {B : Nat} (hB : d.length + 24 ≤ B) : (∀ x, dirT d = .fld x → IY B x ∧ x.k ≠ 1) ∧ ∀ x, dirT d = .bgn x → IY B x ∧ x.k ≠ 1 := by
  have hI : ∀ s x, FI s = .bgn x → IY B x ∧ x.k ≠ 1 := by
    intro s x h
    unfold FI at h
    split at h
    · rename_i hp
      injection h with h
      subst h
      obtain ⟨a, b⟩ := ZL (B := B) (by omega) hp
      exact ⟨by simp [IY, OO]; exact ⟨a, b⟩, by simp [Pt.k]⟩
    · cases h
  have hE : ∀ s x, E8 s = .bgn x → IY B x ∧ x.k ≠ 1 := by
    intro s x h
    unfold E8 at h
    split at h
    · cases h
    · rename_i n w _
      split at h
      · rename_i hp
        injection h with h
        subst h
        obtain ⟨a, b⟩ := ZL (B := B) (by omega) hp.2
        have := Sd hp.1
        exact ⟨by simp [IY, OO]; exact ⟨by omega, a, b⟩, by simp [Pt.k]⟩
      · cases h
  have hF : ∀ x, Bj d = .fld x → IY B x ∧ x.k ≠ 1 := by
    intro x h
    unfold Bj at h
    have hs := EY 124 d
    split at h
    · cases h
    · rename_i hd tl e
      rw [e] at hs
      split at h
      · rename_i hp
        split at h
        · rename_i fs hf
          injection h with h
          subst h
          obtain ⟨a, b⟩ := ZL (B := B) (by omega) hp
          have := Vr (B := B) hf
          simp only [List.length_cons] at hs
          exact ⟨by simp [IY, OO]; exact ⟨a, b, by omega⟩, by simp [Pt.k]⟩
        · cases h
      · cases h
  constructor
  · intro x h
    unfold dirT at h
    (repeat' split at h) <;> first | (cases h; done) | skip
    · unfold FI at h; split at h <;> cases h
    · unfold E8 at h; (repeat' split at h) <;> cases h
    · exact hF x h
  · intro x h
    unfold dirT at h
    (repeat' split at h) <;> first | (cases h; done) | skip
    · exact hI _ x h
    · exact hE _ x h
    · unfold Bj at h; (repeat' split at h) <;> cases h
def QT (B : Nat) (st : Fv) : Prop := N0 B st.1 ∧ st.2.length ≤ B ∧ ∀ o ∈ st.2, N0 B o.1.b ∧ N0 B o.1.e ∧ IY B o.1 ∧ o.1.k ≠ 1
theorem IM {B B' : Nat} (h : B ≤ B') {st : Fv} (hb : QT B st) : QT B' st :=
  ⟨AR h hb.1, Nat.le_trans hb.2.1 h, fun o ho => ⟨AR h (hb.2.2 o ho).1, AR h (hb.2.2 o ho).2.1, DW h _ (hb.2.2 o ho).2.2.1, (hb.2.2 o ho).2.2.2⟩⟩
theorem P2 {B : Nat} {st : Fv} (hb : QT B st) : N0 B (Gd st) := by
  obtain ⟨ps, _ | ⟨⟨o, c⟩, k⟩⟩ := st
  · exact hb.1
  · have := hb.2.2 (o, c) List.mem_cons_self
    cases c
    · exact this.1
    · exact this.2.1
theorem SE {B : Nat} {st : Fv} {l : List Pt} (hb : QT B st) (hl : N0 B l) : QT B (BP l st) := by
  obtain ⟨ps, _ | ⟨⟨⟨k, t, n, pa, fs, b, e⟩, c⟩, r⟩⟩ := st
  · exact ⟨hl, hb.2⟩
  · refine ⟨hb.1, by simpa [BP] using hb.2.1, fun o ho => ?_⟩
    have h0 := hb.2.2
    simp only [BP] at ho
    rcases List.mem_cons.1 ho with rfl | ho
    · obtain ⟨a1, a2, a3, a4⟩ := h0 (.mk k t n pa fs b e, c) List.mem_cons_self
      simp only [IY] at a3
      cases c
      · exact ⟨hl, a2, by simp only [IY, Fb, Pt.k, Pt.t, Pt.n, Pt.pa, Pt.fs, Pt.e, if_neg, Bool.false_eq_true, not_false_eq_true]; exact ⟨a3.1, a3.2.1, a3.2.2.1, a3.2.2.2.1, a3.2.2.2.2.1, hl.1, a2.1, hl.2.1, a2.2.1⟩, a4⟩
      · exact ⟨a1, hl, by simp only [IY, PQ, Pt.k, Pt.t, Pt.n, Pt.pa, Pt.fs, Pt.b, if_true]; exact ⟨a3.1, a3.2.1, a3.2.2.1, a3.2.2.2.1, a3.2.2.2.2.1, a1.1, hl.1, a1.2.1, hl.2.1⟩, a4⟩
    · exact h0 o (List.mem_cons_of_mem _ ho)
theorem VV {B c : Nat} {x : Pt} {st : Fv} (hb : QT B st) (hx : IY B x) (hc : x.k = 1 → x.t.length ≤ c ∧ x = tP x.t) (h1 : 1 ≤ c) : QT (B + c) (Ee x st) :=
  SE (IM (by omega) hb) (GN (P2 hb) (DW (by omega) _ hx) hc h1)
theorem PU {B : Nat} {t : AE} {st : Fv} (hb : QT B st) (ht : t.length ≤ B) : QT (B + t.length) (CF t st) := by
  rw [P3]
  exact SE (IM (by omega) hb) (Rb (P2 hb) ht)
theorem ZD {B : Nat} {d : AE} {st st' : Fv} (hb : QT B st) (hd : d.length + 24 ≤ B) (h : BL (dirT d) st = some st') : QT (B + 2) st' := by
  obtain ⟨b1, b2⟩ := UM (d := d) (B := B) hd
  cases hk : dirT d with
  | bad => rw [hk] at h; cases h
  | opn =>
    rw [hk] at h; injection h with h; subst h
    exact VV hb (Tb (by simp [opS]; omega)) (fun _ => ⟨by simp [tP, Pt.t, opS], rfl⟩) (by omega)
  | els =>
    rw [hk] at h
    obtain ⟨ps, _ | ⟨⟨o, b⟩, k⟩⟩ := st
    · cases h
    · cases b with
      | true => cases h
      | false =>
        injection h with h; subst h
        refine IM (B := B) (by omega) ⟨hb.1, by simpa using hb.2.1, fun x hx => ?_⟩
        rcases List.mem_cons.1 hx with rfl | hx
        · exact hb.2.2 (o, false) List.mem_cons_self
        · exact hb.2.2 x (List.mem_cons_of_mem _ hx)
  | fin =>
    rw [hk] at h
    obtain ⟨ps, _ | ⟨⟨o, b⟩, k⟩⟩ := st
    · cases h
    · injection h with h; subst h
      have h0 := hb.2.1
      simp only [List.length_cons] at h0
      refine IM (B := B + 1) (by omega) ?_
      refine SE ⟨AR (by omega) hb.1, by simp only; omega, fun x hx => ?_⟩ ?_
      · have := hb.2.2 x (List.mem_cons_of_mem _ hx)
        exact ⟨AR (by omega) this.1, AR (by omega) this.2.1, DW (by omega) _ this.2.2.1, this.2.2.2⟩
      · have ho := hb.2.2 (o, b) List.mem_cons_self
        have hk2 : QT B (ps, k) := ⟨hb.1, by simp only; omega, fun x hx => hb.2.2 x (List.mem_cons_of_mem _ hx)⟩
        have htop := P2 hk2
        exact GN htop (DW (by omega) _ ho.2.2.1) (fun h => absurd h ho.2.2.2) (Nat.le_refl _)
  | fld x =>
    rw [hk] at h; injection h with h; subst h
    obtain ⟨c1, c2⟩ := b1 x hk
    exact VV hb c1 (fun e => absurd e c2) (by omega)
  | bgn x =>
    rw [hk] at h
    obtain ⟨ps, k⟩ := st
    injection h with h; subst h
    obtain ⟨c1, c2⟩ := b2 x hk
    obtain ⟨q1, q2, _⟩ := Ls hk
    refine ⟨AR (by omega) hb.1, by have := hb.2.1; simp only [List.length_cons] at this ⊢; omega, fun o ho => ?_⟩
    rcases List.mem_cons.1 ho with rfl | ho
    · simp only [q1, q2]
      exact ⟨E9 _, E9 _, DW (by omega) _ c1, c2⟩
    · have := hb.2.2 o ho
      exact ⟨AR (by omega) this.1, AR (by omega) this.2.1, DW (by omega) _ this.2.2.1, this.2.2.2⟩
theorem Yd (x : Pt) : BC x [] = [x] := rfl
theorem MT (x y : Pt) (l : List Pt) : BC x (l ++ [y]) = if x.k = 1 ∧ y.k = 1 then l ++ [tP (y.t ++ x.t)] else l ++ [y] ++ [x] := by
  unfold BC
  simp
def fltR (s : AE) : Option (AE × Int) := match Ct 32 s with
  | [a] => if IA a = 1 then some (a, 0) else none
  | [a, b] => if IA a = 2 ∧ (Bg b).2 = true ∧ 0 ≤ (Bg b).1 then some (a, (Bg b).1) else none
  | _ => none
theorem Xt {s : AE} (h : (Bg s).2 = true) (h0 : 0 ≤ (Bg s).1) : (32 : UInt8) ∉ s := by
  have e := (Pu h).1
  rw [← e]
  obtain ⟨u, hu⟩ : ∃ u : Nat, (Bg s).1 = (u : Int) := ⟨(Bg s).1.toNat, by omega⟩
  rw [hu, Lib.itoa_nonneg]
  intro hm
  have := EB u 32 hm
  revert this; decide
theorem ZA (s : AE) : fltR s = fltO s := by
  unfold fltR fltO
  rcases I0 32 s with ⟨a, b, rfl, ha, hb⟩ | ⟨hn, hb⟩
  · rw [hb, Ik 32 a b ha]
    simp only [if_true]
    by_cases hc : (32 : UInt8) ∈ b
    · have h2 := W0 hc
      have hno : ¬ (IA a = 2 ∧ (Bg b).2 = true ∧ 0 ≤ (Bg b).1) := fun h => Xt h.2.1 h.2.2 hc
      rw [if_neg hno]
      obtain ⟨x, r, e⟩ := List.exists_cons_of_ne_nil (Fu 32 b)
      rw [e] at h2 ⊢
      cases r with
      | nil => simp at h2
      | cons y r => rfl
    · rw [GS 32 b hc]
  · rw [hb, GS 32 s hn]
    simp
def Gp : List AE → Option (List (AE × Int))
  | [] => some []
  | s :: r => match fltR s with
    | none => none
    | some f => (Gp r).map (f :: ·)
theorem RP : ∀ l : List AE, Gp l = Hw l
  | [] => rfl
  | s :: r => by unfold Gp Hw; rw [ZA s, RP r]; cases fltO s <;> rfl
def MC (s : AE) : Dir := match Ct 124 s with
  | [] => .bad
  | h :: t => if B5 (Ct 46 h) = true then (match Gp t with | some fs => .fld (.mk 2 [] [] (Ct 46 h) fs [] []) | none => .bad) else .bad
theorem Tc (s : AE) : MC s = Bj s := by
  unfold MC Bj
  cases Ct 124 s with
  | nil => rfl
  | cons a r =>
    dsimp only
    rw [RP]
    cases Hw r <;> rfl
def dirR (s : AE) : Dir :=
  if s = Lr then .opn else if s = N4 then .els else if s = UA then .fin
  else match Ct 32 s with
    | [a, b] => if a = Y5 then FI b else MC s
    | [a, b, c, d] => if a = Ge ∧ c = XN then (if B5 (Ct 46 d) = true ∧ Ho b = true then .bgn (.mk 4 [] b (Ct 46 d) [] [] []) else .bad) else MC s
    | _ => MC s
theorem Mp {w : AE} {c : UInt8} (h : B5 (Ct 46 w) = true) (hc : nmC c = false) (h46 : c ≠ 46) : c ∉ w := fun hm => by
  obtain ⟨_, hp⟩ := Zl h
  rw [← PV 46 w] at hm
  rcases XZ hm with h | ⟨x, hx, hcx⟩
  · exact h46 (List.mem_singleton.1 h)
  · exact Yw (hp x hx) hc hcx
theorem Yg (c : UInt8) : ∀ (a b : AE), c ∉ a → ∃ h t, Ct c (a ++ b) = (a ++ h) :: t := fun a b ha => by
  obtain ⟨h, t, _, e⟩ := Vh c a b ha
  exact ⟨h, t, e⟩
theorem Vd {a b : AE} (h1 : (124 : UInt8) ∉ a) (h2 : (46 : UInt8) ∉ a) : Bj (a ++ 32 :: b) = .bad := by
  have e1 : a ++ 32 :: b = (a ++ [32]) ++ b := by simp
  obtain ⟨h, t, e⟩ := Yg 124 (a ++ [32]) b (by simp [h1])
  unfold Bj
  rw [e1, e]
  dsimp only
  rw [if_neg]
  intro hp
  exact Mp hp (c := 32) (by decide) (by decide) (by simp)
theorem Z3 {r n w : AE} (h : Ar Wn r = some (n, w)) : r = n ++ 32 :: ([105, 110] ++ 32 :: w) := by
  have := F8 h; rw [this]; rfl
theorem XW (s : AE) : dirR s = dirT s := by
  unfold dirR dirT
  split
  · rfl
  split
  · rfl
  split
  · rfl
  rcases I0 32 s with ⟨a, b, rfl, ha, hb⟩ | ⟨hn, hb⟩
  · rw [hb, Ik 32 a b ha]
    simp only [true_and, Tc]
    by_cases h1 : a = Y5
    · subst h1
      rw [if_pos rfl]
      by_cases hc : (32 : UInt8) ∈ b
      · have hbad : FI b = .bad := by
          unfold FI
          rw [if_neg]
          intro hp
          exact Mp hp (c := 32) (by decide) (by decide) hc
        have hf : Bj (Y5 ++ 32 :: b) = .bad := Vd (by decide) (by decide)
        have h2 := W0 hc
        obtain ⟨x, r, e⟩ := List.exists_cons_of_ne_nil (Fu 32 b)
        rw [e] at h2 ⊢
        rw [hbad]
        rcases r with _ | ⟨y, _ | ⟨z, _ | ⟨u, r⟩⟩⟩
        · simp at h2
        · exact hf
        · dsimp only; rw [if_neg (fun h => absurd h.1 (by decide))]; exact hf
        · exact hf
      · rw [GS 32 b hc]
        dsimp only
        rw [if_pos rfl]
    · rw [if_neg h1]
      by_cases h2 : a = Ge
      · subst h2
        rw [if_pos rfl]
        have hf : Bj (Ge ++ 32 :: b) = .bad := Vd (by decide) (by decide)
        have hcut : ∀ n w, (32 : UInt8) ∉ n → b = n ++ 32 :: (XN ++ 32 :: w) → Ar Wn b = some (n, w) := by
          intro n w hn hb
          have := W1 (c := 32) (p := [105, 110, 32]) (a := n) w hn
          rw [hb]
          exact this
        have hspl : ∀ n w, (32 : UInt8) ∉ n → (32 : UInt8) ∉ w → b = n ++ 32 :: (XN ++ 32 :: w) → Ct 32 b = [n, XN, w] := by
          intro n w hn hw hb
          rw [hb, Ik 32 n _ hn, Ik 32 XN _ (by decide), GS 32 w hw]
        by_cases hgood : ∃ n w, (32 : UInt8) ∉ n ∧ (32 : UInt8) ∉ w ∧ b = n ++ 32 :: (XN ++ 32 :: w)
        · obtain ⟨n, w, hn, hw, hb2⟩ := hgood
          rw [hspl n w hn hw hb2]
          unfold E8
          rw [hcut n w hn hb2]
          dsimp only
          rw [if_pos ⟨rfl, rfl⟩]
          by_cases hq : B5 (Ct 46 w) = true ∧ Ho n = true
          · rw [if_pos hq, if_pos ⟨hq.2, hq.1⟩]
          · rw [if_neg hq, if_neg (fun h => hq ⟨h.2, h.1⟩)]
        · have hbad : E8 b = .bad := by
            unfold E8
            split
            · rfl
            · rename_i n w hcu
              rw [if_neg]
              rintro ⟨hi, hp⟩
              exact hgood ⟨n, w, Yw (ZF hi) (by decide), Mp hp (by decide) (by decide), Z3 hcu⟩
          rw [hbad]
          obtain ⟨x, r, e⟩ := List.exists_cons_of_ne_nil (Fu 32 b)
          have hj := PV 32 b
          have hfr := GA 32 b
          rw [e] at hj hfr ⊢
          rcases r with _ | ⟨y, _ | ⟨z, _ | ⟨u, r⟩⟩⟩
          · dsimp only; rw [if_neg h1]; exact hf
          · exact hf
          · dsimp only
            by_cases hy : y = XN
            · subst hy
              exact absurd ⟨x, z, hfr x (by simp), hfr z (by simp), by rw [← hj]; simp [Lib.join_cons, Lib.joinTail, Lib.join]⟩ hgood
            · rw [if_neg (fun h => hy h.2)]; exact hf
          · exact hf
      · rw [if_neg h2]
        obtain ⟨x, r, e⟩ := List.exists_cons_of_ne_nil (Fu 32 b)
        rw [e]
        rcases r with _ | ⟨y, _ | ⟨z, _ | ⟨u, r⟩⟩⟩
        · dsimp only; rw [if_neg h1]
        · rfl
        · dsimp only; rw [if_neg (fun h => h2 h.1)]
        · rfl
  · rw [hb, GS 32 s hn]
    simp only [Bool.false_eq_true, false_and, if_false, Tc]
theorem FH {p s a b : AE} (h : Ar p s = some (a, b)) : b = s.drop (a.length + p.length) := by
  have e := F8 h
  subst e
  rw [← List.append_assoc, ← List.length_append, List.drop_left]
theorem Lm {n : Nat} {s : AE} {i : Nat} {l : List Pt} (h : s.length < n) : (DP n s i l).2.2.1 = 5 ∨ (DP n s i l).2.2.1 = 6 → i + s.length = (DP n s i l).2.1 + (DP n s i l).2.2.2.length ∧ i + 7 ≤ (DP n s i l).2.1 := by
  have k := Hy n s i (l, []) h
  rw [show Gd (l, []) = l from rfl] at k
  rintro (e | e)
  · obtain ⟨a, b, _⟩ := k.els e
    omega
  · obtain ⟨a, b, _⟩ := k.fin e
    omega
theorem DR : ∀ (n m : Nat) (s : AE) (i : Nat) (l : List Pt), s.length < n → s.length < m → DP n s i l = DP m s i l
  | 0, _, _, _, _, h, _ => by omega
  | _ + 1, 0, _, _, _, _, h => by omega
  | n + 1, m + 1, s, i, l, h, k => by
    unfold DP
    split
    · rfl
    · rename_i p r e1
      split
      · rfl
      · rename_i d q e2
        have l1 := Bk e1
        have l2 := Bk e2
        have h3 : opS.length = 2 := rfl
        have h4 : clS.length = 2 := rfl
        split
        · rfl
        · exact DR n m q _ _ (by omega) (by omega)
        · exact DR n m q _ _ (by omega) (by omega)
        · rfl
        · rfl
        · rename_i x _
          have e3 := DR n m q (i + p.length + d.length + 4) [] (by omega) (by omega)
          have ht := Lm (n := m) (s := q) (i := i + p.length + d.length + 4) (l := []) (by omega)
          rw [e3]
          generalize DP m q (i + p.length + d.length + 4) [] = X at *
          obtain ⟨b, j, en, t⟩ := X
          dsimp only at ht ⊢
          split
          · rename_i h5
            obtain ⟨t1, t2⟩ := ht (.inl h5)
            have e4 := DR n m t j [] (by omega) (by omega)
            have ht2 := Lm (n := m) (s := t) (i := j) (l := []) (by omega)
            rw [e4]
            generalize DP m t j [] = Y at *
            obtain ⟨e, j', en', t'⟩ := Y
            dsimp only at ht2 ⊢
            split
            · rename_i h6
              obtain ⟨u1, u2⟩ := ht2 (.inr h6)
              exact DR n m t' _ _ (by omega) (by omega)
            · rfl
          · split
            · rename_i h6
              obtain ⟨t1, t2⟩ := ht (.inr h6)
              exact DR n m t _ _ (by omega) (by omega)
            · rfl
def Cx (s : AE) (i : Nat) (l : List Pt) : List Pt × Nat × Nat × AE := DP (s.length + 1) s i l
def JQ (p : AE) (l : List Pt) : List Pt := if p = [] then l else BC (tP p) l
section
variable {s p r d q : AE} {i : Nat} {l : List Pt}
theorem RM (h : Ar opS s = none) : Cx s i l = (JQ s l, i + s.length, 0, []) := by
  unfold Cx DP; rw [h]; rfl
theorem Qz (h : Ar opS s = some (p, r)) (k : Ar clS r = none) : Cx s i l = (JQ p l, i + p.length, 1, []) := by
  unfold Cx DP; rw [h]; dsimp only; rw [k]; rfl
theorem Tj (h : Ar opS s = some (p, r)) (k : Ar clS r = some (d, q)) (hd : dirT d = .bad) : Cx s i l = (JQ p l, i + p.length, 1, []) := by
  unfold Cx DP; rw [h]; dsimp only; rw [k]; dsimp only; rw [hd]; rfl
theorem UC (h : Ar opS s = some (p, r)) (k : Ar clS r = some (d, q)) (hd : dirT d = .els) : Cx s i l = (JQ p l, i + p.length + d.length + 4, 5, q) := by
  unfold Cx DP; rw [h]; dsimp only; rw [k]; dsimp only; rw [hd]; rfl
theorem UE (h : Ar opS s = some (p, r)) (k : Ar clS r = some (d, q)) (hd : dirT d = .fin) : Cx s i l = (JQ p l, i + p.length + d.length + 4, 6, q) := by
  unfold Cx DP; rw [h]; dsimp only; rw [k]; dsimp only; rw [hd]; rfl
theorem Dk (h : Ar opS s = some (p, r)) (k : Ar clS r = some (d, q)) : s.length = p.length + d.length + q.length + 4 := by
  have l1 := Bk h
  have l2 := Bk k
  have h3 : opS.length = 2 := rfl
  have h4 : clS.length = 2 := rfl
  omega
theorem TU (h : Ar opS s = some (p, r)) (k : Ar clS r = some (d, q)) (hd : dirT d = .opn) : Cx s i l = Cx q (i + p.length + d.length + 4) (BC (tP opS) (JQ p l)) := by
  have hl := Dk h k
  unfold Cx; rw [DP, h]; dsimp only; rw [k]; dsimp only; rw [hd]; exact DR _ _ _ _ _ (by omega) (by omega)
theorem Sy {x : Pt} (h : Ar opS s = some (p, r)) (k : Ar clS r = some (d, q)) (hd : dirT d = .fld x) : Cx s i l = Cx q (i + p.length + d.length + 4) (BC x (JQ p l)) := by
  have hl := Dk h k
  unfold Cx; rw [DP, h]; dsimp only; rw [k]; dsimp only; rw [hd]; exact DR _ _ _ _ _ (by omega) (by omega)
theorem U3 {x : Pt} {b : List Pt} {j en : Nat} {t : AE} (h : Ar opS s = some (p, r)) (k : Ar clS r = some (d, q)) (hd : dirT d = .bgn x) (hb : Cx q (i + p.length + d.length + 4) [] = (b, j, en, t)) : (en = 6 → Cx s i l = Cx t j (BC (Fb x b) (JQ p l))) ∧ (en ≠ 5 → en ≠ 6 → Cx s i l = (JQ p l, j, if en = 0 then 7 else en, [])) ∧
    ∀ e j' en' t', en = 5 → Cx t j [] = (e, j', en', t') → (en' = 6 → Cx s i l = Cx t' j' (BC (PQ (Fb x b) e) (JQ p l))) ∧ (en' = 5 → Cx s i l = (JQ p l, j' - 8, 1, [])) ∧ (en' ≠ 5 → en' ≠ 6 → Cx s i l = (JQ p l, j', if en' = 0 then 7 else en', [])) := by
  have hl := Dk h k
  have e0 : DP s.length q (i + p.length + d.length + 4) [] = (b, j, en, t) := by rw [← hb]; exact DR _ _ _ _ _ (by omega) (by omega)
  have ht := Lm (n := s.length) (s := q) (i := i + p.length + d.length + 4) (l := []) (by omega)
  rw [e0] at ht
  dsimp only at ht
  have eq1 : Cx s i l = (match DP s.length q (i + p.length + d.length + 4) [] with
          | (b, j, en, t) => if en = 5 then (match DP s.length t j [] with
              | (e, j', en', t') => if en' = 6 then DP s.length t' j' (BC (PQ (Fb x b) e) (JQ p l))
                else if en' = 5 then (JQ p l, j' - 8, 1, []) else (JQ p l, j', if en' = 0 then 7 else en', []))
            else if en = 6 then DP s.length t j (BC (Fb x b) (JQ p l)) else (JQ p l, j, if en = 0 then 7 else en, [])) := by
    unfold Cx; rw [DP, h]; dsimp only; rw [k]; dsimp only; rw [hd]; rfl
  rw [e0] at eq1
  dsimp only at eq1
  refine ⟨fun h6 => ?_, fun h5 h6 => ?_, fun e j' en' t' h5 he => ?_⟩
  · obtain ⟨t1, t2⟩ := ht (.inr h6)
    rw [eq1, if_neg (by omega), if_pos h6]
    exact DR _ _ _ _ _ (by omega) (by omega)
  · rw [eq1, if_neg h5, if_neg h6]
  · obtain ⟨t1, t2⟩ := ht (.inl h5)
    have e1 : DP s.length t j [] = (e, j', en', t') := by rw [← he]; exact DR _ _ _ _ _ (by omega) (by omega)
    have ht2 := Lm (n := s.length) (s := t) (i := j) (l := []) (by omega)
    rw [e1] at ht2
    dsimp only at ht2
    rw [if_pos h5, e1] at eq1
    dsimp only at eq1
    refine ⟨fun h6 => ?_, fun h5 => ?_, fun h5 h6 => ?_⟩
    · obtain ⟨u1, u2⟩ := ht2 (.inr h6)
      rw [eq1, if_pos h6]
      exact DR _ _ _ _ _ (by omega) (by omega)
    · rw [eq1, if_neg (by omega), if_pos h5]
    · rw [eq1, if_neg h6, if_neg h5]
end
structure RefB (K : Nat) (s0 : AE) (i : Nat) (x : List Pt × Nat × Nat × AE) : Prop where
  bd : N0 (K + 2 * s0.length) x.1
  tl : x.2.2.1 = 5 ∨ x.2.2.1 = 6 → x.2.2.2 = s0.drop x.2.1 ∧ i + 7 ≤ x.2.1 ∧ x.2.1 ≤ s0.length ∧ N0 (K + 2 * x.2.1) x.1
  cs : x.2.2.1 = 0 ∨ x.2.2.1 = 1 ∨ x.2.2.1 = 5 ∨ x.2.2.1 = 6 ∨ x.2.2.1 = 7
  le : x.2.1 ≤ s0.length
variable {α : Type} {k : Nat} {c x : UInt8}
theorem RefB.to {K : Nat} {s0 : AE} {i i' : Nat} {x : List Pt × Nat × Nat × AE} (h : RefB K s0 i x) (hi : i' ≤ i) : RefB K s0 i' x :=
  ⟨h.bd, fun e => ⟨(h.tl e).1, by have := (h.tl e).2.1; omega, (h.tl e).2.2⟩, h.cs, h.le⟩
theorem QC {B : Nat} {x : Pt} {b e : List Pt} (hx : IY B x) (hb : N0 B b) (he : N0 B e) : IY B (PQ (Fb x b) e) ∧ (x.e = [] → IY B (Fb x b)) := by
  obtain ⟨k, t, n, pa, fs, xb, xe⟩ := x
  simp only [IY] at hx
  refine ⟨?_, fun h => ?_⟩
  · simp only [PQ, Fb, IY, Pt.k, Pt.t, Pt.n, Pt.pa, Pt.fs, Pt.b]
    exact ⟨hx.1, hx.2.1, hx.2.2.1, hx.2.2.2.1, hx.2.2.2.2.1, hb.1, he.1, hb.2.1, he.2.1⟩
  · simp only [Pt.e] at h
    subst h
    simp only [Fb, IY, Pt.k, Pt.t, Pt.n, Pt.pa, Pt.fs, Pt.e]
    exact ⟨hx.1, hx.2.1, hx.2.2.1, hx.2.2.2.1, hx.2.2.2.2.1, hb.1, by simp, hb.2.1, trivial⟩
theorem Gy (K : Nat) (s0 : AE) (hK : s0.length + 24 ≤ K) : ∀ (n i : Nat) (l : List Pt), s0.length - i < n → i ≤ s0.length → N0 (K + 2 * i) l → RefB K s0 i (Cx (s0.drop i) i l)
  | 0, _, _, h, _, _ => by omega
  | n + 1, i, l, h, hi, hl => by
    have hsl : (s0.drop i).length = s0.length - i := List.length_drop
    have hpsh : ∀ p : AE, p.length ≤ s0.length → N0 (K + 2 * i + p.length) (JQ p l) := fun p hp => Rb hl (by omega)
    cases h1 : Ar opS (s0.drop i) with
    | none =>
      rw [RM h1]
      exact ⟨AR (by rw [hsl]; omega) (hpsh _ (by omega)), fun e => by simp at e, .inl rfl, by simp only; omega⟩
    | some pr =>
      obtain ⟨p, r⟩ := pr
      have l1 := Bk h1
      have h3 : opS.length = 2 := rfl
      have hp := hpsh p (by omega)
      cases h2 : Ar clS r with
      | none =>
        rw [Qz h1 h2]
        exact ⟨AR (by omega) hp, fun e => by simp at e, .inr (.inl rfl), by simp only; omega⟩
      | some dq =>
        obtain ⟨d, q⟩ := dq
        have hlen := Dk h1 h2
        have hq : q = s0.drop (i + p.length + d.length + 4) := by
          rw [FH h2, FH h1, List.drop_drop, List.drop_drop]
          congr 1
          simp [opS, clS]; omega
        have hij : i + p.length + d.length + 4 ≤ s0.length := by omega
        obtain ⟨b1, b2⟩ := UM (d := d) (B := K + 2 * i) (by omega)
        cases hd : dirT d with
        | bad =>
          rw [Tj h1 h2 hd]
          exact ⟨AR (by omega) hp, fun e => by simp at e, .inr (.inl rfl), by simp only; omega⟩
        | els =>
          have := SO hd
          rw [UC h1 h2 hd]
          exact ⟨AR (by omega) hp, fun _ => ⟨hq, by simp only; omega, hij, AR (by simp only; omega) hp⟩, .inr (.inr (.inl rfl)), hij⟩
        | fin =>
          have := Vj hd
          rw [UE h1 h2 hd]
          exact ⟨AR (by omega) hp, fun _ => ⟨hq, by simp only; omega, hij, AR (by simp only; omega) hp⟩, .inr (.inr (.inr (.inl rfl))), hij⟩
        | opn =>
          rw [TU h1 h2 hd, hq]
          have : (tP opS).t.length = 2 := rfl
          refine (Gy K s0 hK n _ _ (by omega) hij (AR ?_ (GN (c := 2) hp (Tb (by rw [h3]; omega)) (fun _ => ⟨by omega, rfl⟩) (by omega)))).to (by omega)
          omega
        | fld x =>
          rw [Sy h1 h2 hd, hq]
          obtain ⟨c1, c2⟩ := b1 x hd
          refine (Gy K s0 hK n _ _ (by omega) hij (AR ?_ (GN (c := 1) hp (DW (by omega) _ c1) (fun e => absurd e c2) (by omega)))).to (by omega)
          omega
        | bgn x =>
          obtain ⟨c1, c2⟩ := b2 x hd
          obtain ⟨q1, q2, _⟩ := Ls hd
          have ih := Gy K s0 hK n (i + p.length + d.length + 4) [] (by omega) hij (E9 _)
          rw [← hq] at ih
          obtain ⟨X, hX⟩ : ∃ X, X = Cx q (i + p.length + d.length + 4) [] := ⟨_, rfl⟩
          obtain ⟨b, j, en, t⟩ := X
          rw [← hX] at ih
          obtain ⟨g1, g2, g3⟩ := U3 (l := l) h1 h2 hd hX.symm
          obtain ⟨a1, a2, a3, a4⟩ := ih
          dsimp only at a1 a2 a3 a4
          by_cases h5 : en = 5
          · obtain ⟨t1, t2, t3, t4⟩ := a2 (.inl h5)
            have ih2 := Gy K s0 hK n j [] (by omega) t3 (E9 _)
            rw [← t1] at ih2
            obtain ⟨Y, hY⟩ : ∃ X, X = Cx t j [] := ⟨_, rfl⟩
            obtain ⟨e, j', en', t'⟩ := Y
            rw [← hY] at ih2
            obtain ⟨g4, g5, g6⟩ := g3 _ _ _ _ h5 hY.symm
            obtain ⟨e1, e2, e3, e4⟩ := ih2
            dsimp only at e1 e2 e3 e4
            by_cases k6 : en' = 6
            · obtain ⟨u1, u2, u3, u4⟩ := e2 (.inr k6)
              rw [g4 k6, u1]
              have hk : (PQ (Fb x b) e).k ≠ 1 := c2
              have hpt := (QC (DW (B' := K + 2 * j') (by omega) _ c1) (AR (by omega) t4) u4).1
              refine (Gy K s0 hK n j' _ (by omega) u3 (AR ?_ (GN (c := 2 * j' - 2 * i - p.length) hp (DW (by omega) _ hpt) (fun e => absurd e hk) (by omega)))).to (by omega)
              omega
            · by_cases k5 : en' = 5
              · rw [g5 k5]
                exact ⟨AR (by omega) hp, fun e => by simp at e, .inr (.inl rfl), by simp only; omega⟩
              · rw [g6 k5 k6]
                refine ⟨AR (by omega) hp, fun e => ?_, ?_, e4⟩
                · dsimp only at e; split at e <;> omega
                · dsimp only; split <;> omega
          · by_cases h6 : en = 6
            · obtain ⟨t1, t2, t3, t4⟩ := a2 (.inr h6)
              rw [g1 h6, t1]
              have hk : (Fb x b).k ≠ 1 := c2
              have hpt := (QC (e := []) (DW (B' := K + 2 * j) (by omega) _ c1) t4 (E9 _)).2 q2
              refine (Gy K s0 hK n j _ (by omega) t3 (AR ?_ (GN (c := 2 * j - 2 * i - p.length) hp (DW (by omega) _ hpt) (fun e => absurd e hk) (by omega)))).to (by omega)
              omega
            · rw [g2 h5 h6]
              refine ⟨AR (by omega) hp, fun e => ?_, ?_, a4⟩
              · dsimp only at e; split at e <;> omega
              · dsimp only; split <;> omega
abbrev Z8 (l : List AE) : List AV := l.map AV.str
theorem drop_at {l : List α} {x : α} (h : l[k]? = some x) : l.drop k = x :: l.drop (k + 1) := by
  have hk := (List.getElem?_eq_some_iff.1 h).1
  rw [List.drop_eq_getElem_cons hk, (List.getElem?_eq_some_iff.1 h).2]
theorem A12 [DecidableEq α] {a b : List α} (hl : a.length = b.length) {x y : α} (hx : a[k]? = some x) (hy : b[k]? = some y) : (a.drop k = b.drop k) ↔ (x = y ∧ a.drop (k + 1) = b.drop (k + 1)) := by
  rw [drop_at hx, drop_at hy]; simp
attribute [local simp] KJ EJ EI KX LT Lg L9 EG ED Fy GP LK KU Kz Ji KH J5 J7 J9 LA LF Ki Li Kq KB Qt pe Jv Kn Jl Kx Kb Jz LM K0 KZ KP Jr Jo L0 FN Np Od OB Nv Nq OI ON OA Nt O0 Oj Ns Of O9 Nr Ny O1 OQ OW OK No FX O6 FL OT Og Nj NP NS Nn Nu OF NZ NY NN Oc O4 OM NU NV Ot NX Oe O5 Om OC NQ NW Nx Fr Na OH OP Ok Oi Nk OR O2 On OS Nc OG Ol OU Ob NM Oa NT Nz K8 K2 LL KG Kg Jm Ju Kk K6 L6 LE IS Jc List.mem_cons guardK Dl Ed Er GX Nd Fh FO Fp FY FP FM FJ Fs Fg Nl OV FV Kf Oq OZ OE Nb Nw Fd LX OX Nf Jw La OD I9 Fq FT Fn FZ Ng Ni FQ OJ FW LN Fw Fe KV Fm Ft Nh O8 Oo KF OL Nm KI Jh Sg JD JH H9 JE JI JA Dx G0 Fz L8 G4 G3 E0 Dn UK JM JK G5 JJ JN Ds DY BN BR C0 DZ DI ev get put EW AD D9 KY KN LV Jx JB Kh EO part Ap Gz L1 Gc isNil Cu D4 Da D8 CE Lc LW LO K7 L2 J6 Jq Lf Jf KD L3 LZ Lh Jp LI LQ AV.fits AV.cells ones AV.one E5 Bp E7 DQ EV EN KE FA Fo CH BS Cw G7 E3 AN B6 VJ GL Lj Ke List.getElem?_cons_zero List.getElem?_cons_succ Fa FR Ff KR Kj Ku Gt LH L4 LS LG LD Jt KQ O3 KK Ja KL Ky LY Ko Je LB Ks Kv KO Kp KT L5 K5 Kw LJ Km LU Jy E6
theorem Wp (a b : List AE) (hmx : a.length ≤ 140737488355328) : APure Tryz.prog 23 [CG a, CG b] (.bool (decide (a = b))) := by
  refine A6 Tryz.func23 A4r rfl fun n H hH => ?_
  repeat' (first | simp -implicitDefEqProofs [c23, -getElem?_pos, A4] | simp (disch := omega) only [AA] | (with_reducible first | exact AI | refine AQ ?_ | intro _g _hg | refine A9 ?_ ?_ | intro _hc) | omega)
  · have : a ≠ b := by rintro rfl; simp_all
    simp [this]
  · have hl : a.length = b.length := by omega
    refine LoopK.go (fun m s => ∃ (k : Nat), k + m = a.length ∧ s = ⟨[(0, CG a), (1, CG b), (5, .int .i64 k)], n, H⟩ ∧ (a = b ↔ a.drop k = b.drop k)) a.length ⟨0, by omega, rfl, by simp⟩ ?_
    rintro m s ⟨k, hkm, rfl, hE⟩ J hJ
    by_cases hk : k < a.length
    · obtain ⟨x, hx⟩ : ∃ x, a[k]? = some x := ⟨_, List.getElem?_eq_getElem hk⟩
      obtain ⟨y, hy⟩ : ∃ y, b[k]? = some y := ⟨_, List.getElem?_eq_getElem (by omega)⟩
      rw [A12 hl hx hy] at hE
      repeat' (first | simp -implicitDefEqProofs [RE, Qv, RH, Qy, R4, c23, -getElem?_pos, A4, hx, hy] | simp (disch := omega) only [AA] | (with_reducible first | exact AI | refine AQ ?_ | intro _g _hg | refine A9 ?_ ?_ | intro _hc) | omega)
      · rw [hE]; simp_all
      · exact hJ (m - 1) _ (by omega) ⟨k + 1, by omega, rfl, by simp_all⟩
    · have hk0 : k = a.length := by omega
      subst hk0
      simp [hl] at hE
      repeat' (first | simp -implicitDefEqProofs [RE, Qv, RH, Qy, R4, c23, -getElem?_pos, A4, hE] | simp (disch := omega) only [AA] | (with_reducible first | exact AI | refine AQ ?_ | intro _g _hg | refine A9 ?_ ?_ | intro _hc) | omega)
theorem Wc : ∀ d : Fin 10, (Utf8.encode (48 + (d.val : Int))).data.toList = [UInt8.ofNat (48 + d.val)] := by decide +kernel
theorem Hx {d : Nat} (h : d < 10) : (Utf8.encode (48 + (d : Int))).data.toList = [UInt8.ofNat (48 + d)] := by
  have e := Wc ⟨d, h⟩
  simp only at e
  exact e
theorem JX (k : Nat) : (Lib.decDigits k).length ≤ k + 1 := by
  rw [Lib.decDigits_length]
  induction k using Nat.strongRecOn with
  | _ m ih =>
    by_cases c : m < 10
    · rw [Lib.nDigits_small c]; omega
    · rw [Lib.nDigits_big c]; have := ih (m / 10) (by omega); omega
theorem XE {a b : AE} (h : a.length + b.length ≤ 9000000000000000000) : CE .add a b = some (.str (a ++ b)) := by
  simp only [CE]
  rw [if_neg]
  have : IntKind.i64.max = 9223372036854775807 := by decide
  rw [this]; omega
theorem V9 (k : Nat) (c : k < 10) : APure Tryz.prog 38 [aI k] (.str [UInt8.ofNat (48 + k)]) := by
  have he := Hx c
  have hw : IntKind.i32.wrap (48 + (k : Int)) = 48 + (k : Int) := IntWalk.i32_in _ (by omega)
  refine A6 Tryz.func38 WA rfl fun n H hH => ?_
  repeat' (first | simp -implicitDefEqProofs [Ia, IZ, Ij, Im, c38, -getElem?_pos, A4, hw, he] | simp (disch := omega) only [AA] | (with_reducible first | exact AI | refine AQ ?_ | intro _g _hg | refine A9 ?_ ?_ | intro _hc) | omega)
theorem Uw (k : Nat) (c : ¬ k < 10) (hk : k ≤ 1000000000) (l : AE) (hl : l.length ≤ k) (hr : APure Tryz.prog 38 [aI ((k : Int) / 10)] (.str l)) : APure Tryz.prog 38 [aI k] (.str (l ++ [UInt8.ofNat (48 + k % 10)])) := by
  have hm : k % 10 < 10 := by omega
  have he := Hx hm
  have e2 : ((k % 10 : Nat) : Int) = (k : Int) % 10 := by omega
  rw [e2] at he
  have hw : IntKind.i32.wrap (48 + (k : Int) % 10) = 48 + (k : Int) % 10 := IntWalk.i32_in _ (by omega)
  generalize UInt8.ofNat (48 + k % 10) = ch at he ⊢
  have hadd : CE .add l [ch] = some (.str (l ++ [ch])) := XE (by simp; omega)
  obtain ⟨u, hu⟩ : ∃ u, Utf8.encode (48 + (k : Int) % 10) = u := ⟨_, rfl⟩
  rw [hu] at he
  have hsz : u.size = 1 := by rw [Lib.size_eq, he]; rfl
  have hlt : ¬ (9223372036854775807 : Int) < (l.length : Int) + 1 := by omega
  refine A6 Tryz.func38 WA rfl fun n H hH => ?_
  repeat' (first | simp -implicitDefEqProofs [Ia, IZ, Ij, Im, c38, -getElem?_pos, A4, hw, hu, he, hsz, hlt] | simp (disch := omega) only [AA] | ((with_reducible refine A8 38 ?_); (refine' CallP.sf ?_ (hr) ?_); (focus first | (with_reducible exact A0 _) | (simp [A5, A4, A1, A0]; done))) | (with_reducible first | exact AI | refine AQ ?_ | intro _g _hg | refine A9 ?_ ?_ | intro _hc) | omega)
theorem RU (k : Nat) : k ≤ 1000000000 → APure Tryz.prog 38 [aI k] (.str (Lib.decDigits k)) := by
  induction k using Nat.strongRecOn with
  | _ k ih =>
    intro hk
    by_cases c : k < 10
    · rw [Lib.decDigits_one c]
      exact V9 k c
    · have hd : Lib.decDigits k = Lib.decDigits (k / 10) ++ [UInt8.ofNat (48 + k % 10)] := by rw [Lib.decDigits, dif_neg c]
      have hr := ih (k / 10) (by omega) (by omega)
      have e1 : ((k / 10 : Nat) : Int) = (k : Int) / 10 := by omega
      rw [e1] at hr
      rw [hd]
      exact Uw k c hk _ (by have := JX (k / 10); omega) hr
theorem VM (k : Nat) (c : k < 10) (h0 : 0 < k) : APure Tryz.prog 38 [aI (-(k : Int))] (.str (45 :: [UInt8.ofNat (48 + k)])) := by
  have he := Hx c
  have hw : IntKind.i32.wrap (48 - -(k : Int)) = 48 + (k : Int) := by
    have e : 48 - -(k : Int) = 48 + k := by omega
    rw [e]; exact IntWalk.i32_in _ (by omega)
  have hw2 : IntKind.i32.wrap (48 + (k : Int)) = 48 + (k : Int) := IntWalk.i32_in _ (by omega)
  have h1 : (-(k : Int)) < 0 := by omega
  have h2 : ¬ (-(k : Int)) < -9 := by omega
  generalize UInt8.ofNat (48 + k) = ch at he ⊢
  obtain ⟨u, hu⟩ : ∃ u, Utf8.encode (48 + (k : Int)) = u := ⟨_, rfl⟩
  rw [hu] at he
  have hsz : u.size = 1 := by rw [Lib.size_eq, he]; rfl
  refine A6 Tryz.func38 WA rfl fun n H hH => ?_
  repeat' (first | simp -implicitDefEqProofs [Ia, IZ, Ij, Im, c38, -getElem?_pos, A4, hw, hw2, hu, he, hsz, h1, h2] | simp (disch := omega) only [AA] | (with_reducible first | exact AI | refine AQ ?_ | intro _g _hg | refine A9 ?_ ?_ | intro _hc) | omega)
theorem Up (k : Nat) (c : ¬ k < 10) (hk : k ≤ 1000000000) (l : AE) (hl : l.length ≤ k) (hr : APure Tryz.prog 38 [aI ((k : Int) / 10)] (.str l)) : APure Tryz.prog 38 [aI (-(k : Int))] (.str (45 :: (l ++ [UInt8.ofNat (48 + k % 10)]))) := by
  have hm : k % 10 < 10 := by omega
  have he := Hx hm
  have e2 : ((k % 10 : Nat) : Int) = (k : Int) % 10 := by omega
  rw [e2] at he
  have hq : Int.tdiv (-(k : Int)) 10 = -((k : Int) / 10) := by rw [Int.neg_tdiv, Int.tdiv_eq_ediv_of_nonneg (by omega)]
  have hmm : Int.tmod (-(k : Int)) 10 = -((k : Int) % 10) := by rw [Int.neg_tmod, Int.tmod_eq_emod_of_nonneg (by omega)]
  have hw : IntKind.i32.wrap (48 + (k : Int) % 10) = 48 + (k : Int) % 10 := IntWalk.i32_in _ (by omega)
  have hw3 : IntKind.i32.wrap (48 - -((k : Int) % 10)) = 48 + (k : Int) % 10 := by
    have e : 48 - -((k : Int) % 10) = 48 + (k : Int) % 10 := by omega
    rw [e]; exact hw
  have h1 : (-(k : Int)) < 0 := by omega
  have h2 : (-(k : Int)) < -9 := by omega
  generalize UInt8.ofNat (48 + k % 10) = ch at he ⊢
  obtain ⟨u, hu⟩ : ∃ u, Utf8.encode (48 + (k : Int) % 10) = u := ⟨_, rfl⟩
  rw [hu] at he
  have hsz : u.size = 1 := by rw [Lib.size_eq, he]; rfl
  have hlt : ¬ (9223372036854775807 : Int) < 1 + (l.length : Int) := by omega
  have hlt2 : ¬ (9223372036854775807 : Int) < (l.length : Int) + 1 + 1 := by omega
  refine A6 Tryz.func38 WA rfl fun n H hH => ?_
  repeat' (first | simp -implicitDefEqProofs [Ia, IZ, Ij, Im, c38, -getElem?_pos, A4, hq, hmm, hw, hw3, hu, he, hsz, hlt, hlt2, h1, h2] | simp (disch := omega) only [AA] | ((with_reducible refine A8 38 ?_); (refine' CallP.sf ?_ (hr) ?_); (focus first | (with_reducible exact A0 _) | (simp [A5, A4, A1, A0]; done))) | (with_reducible first | exact AI | refine AQ ?_ | intro _g _hg | refine A9 ?_ ?_ | intro _hc) | omega)
theorem MU (n : Int) (h : -1000000000 ≤ n ∧ n ≤ 1000000000) : APure Tryz.prog 38 [aI n] (.str (Lib.itoa n)) := by
  by_cases c : n < 0
  · obtain ⟨u, rfl⟩ : ∃ u : Nat, n = -(u : Int) := ⟨n.natAbs, by omega⟩
    rw [Lib.itoa_neg u (by omega)]
    by_cases c2 : u < 10
    · rw [Lib.decDigits_one c2]; exact VM u c2 (by omega)
    · have hd : Lib.decDigits u = Lib.decDigits (u / 10) ++ [UInt8.ofNat (48 + u % 10)] := by rw [Lib.decDigits, dif_neg c2]
      have hr := RU (u / 10) (by omega)
      have e1 : ((u / 10 : Nat) : Int) = (u : Int) / 10 := by omega
      rw [e1] at hr
      rw [hd]
      exact Up u c2 (by omega) _ (by have := JX (u / 10); omega) hr
  · obtain ⟨u, rfl⟩ : ∃ u : Nat, n = (u : Int) := ⟨n.toNat, by omega⟩
    rw [Lib.itoa_nonneg]
    exact RU u (by omega)
theorem Md (sep : AE) : ∀ (l : List AE) (k : Nat) (x : AE), l[k]? = some x → Lib.join (l.take (k + 1)) sep = (if 0 < k then Lib.join (l.take k) sep ++ sep else Lib.join (l.take k) sep) ++ x
  | [], k, x, h => by simp at h
  | y :: l, 0, x, h => by
    simp at h; subst h
    simp [Lib.join_one, Lib.join]
  | y :: l, k + 1, x, h => by
    have h' : l[k]? = some x := by simpa using h
    have ih := Md sep l k x h'
    rw [List.take_succ_cons, List.take_succ_cons, if_pos (by omega)]
    rw [Lib.join_cons, Lib.join_cons]
    have : ∀ m : List AE, m ≠ [] → Lib.joinTail sep m = sep ++ Lib.join m sep := by
      intro m hm
      obtain ⟨a, b, rfl⟩ := List.exists_cons_of_ne_nil hm
      rw [Lib.join_cons]; simp [Lib.joinTail]
    have hne : l.take (k + 1) ≠ [] := by
      intro e
      have : l = [] := by cases l with | nil => rfl | cons a b => simp at e
      rw [this] at h'; simp at h'
    rw [this _ hne, ih]
    by_cases hk : 0 < k
    · rw [if_pos hk]
      have hne2 : l.take k ≠ [] := by
        intro e
        have : l = [] := by
          cases l with
          | nil => rfl
          | cons a b => cases k with | zero => omega | succ k => simp at e
        rw [this] at h'; simp at h'
      rw [this _ hne2]; simp
    · have : k = 0 := by omega
      subst this
      rw [if_neg hk]; simp [Lib.joinTail, Lib.join]
theorem X7 (sep : AE) (l : List AE) : ∀ k, (Lib.join (l.take k) sep).length ≤ (Lib.join l sep).length := by
  have step : ∀ k, (Lib.join (l.take k) sep).length ≤ (Lib.join (l.take (k + 1)) sep).length := by
    intro k
    by_cases hk : k < l.length
    · rw [Md sep l k l[k] (List.getElem?_eq_getElem hk)]
      split <;> simp <;> omega
    · rw [List.take_of_length_le (by omega), List.take_of_length_le (by omega)]; exact Nat.le_refl _
  have up : ∀ k j, (Lib.join (l.take k) sep).length ≤ (Lib.join (l.take (k + j)) sep).length := by
    intro k j
    induction j with
    | zero => exact Nat.le_refl _
    | succ j ih => exact Nat.le_trans ih (step (k + j))
  intro k
  have h := up k l.length
  have e : l.take (k + l.length) = l := List.take_of_length_le (by omega)
  rw [e] at h
  exact h
theorem Zi (l : List AE) (sep : AE) (hl : l.length ≤ 2000000) (hs : sep.length ≤ 2000000) (hb : (Lib.join l sep).length ≤ 2000000) (hx : ∀ x ∈ l, x.length ≤ 2000000) : APure Tryz.prog 36 [CG l, .str sep] (.str (Lib.join l sep)) := by
  have hmono := X7 sep l
  refine A6 Tryz.func36 A4n rfl fun n H hH => ?_
  repeat' (first | simp -implicitDefEqProofs [Iy, Ie, J4, IV, Ii, c36, -getElem?_pos, A4] | simp (disch := omega) only [AA] | (with_reducible first | exact AI | refine AQ ?_ | intro _g _hg | refine A9 ?_ ?_ | intro _hc) | omega)
  refine LoopK.go (fun q st => ∃ (k : Nat), k + q = l.length ∧ st = ⟨[(0, CG l), (1, .str sep), (5, .str (Lib.join (l.take k) sep)), (6, aI k)], n, H⟩) l.length ⟨0, by omega, rfl⟩ ?_
  rintro q st ⟨k, hkq, rfl⟩ J hJ
  by_cases hk : k < l.length
  · obtain ⟨y, hy⟩ : ∃ y, l[k]? = some y := ⟨_, List.getElem?_eq_getElem hk⟩
    have hy2 : (Z8 l)[k]? = some (.str y) := by rw [List.getElem?_map, hy]; rfl
    have hyl := hx y (List.mem_of_getElem? hy)
    have e := Md sep l k y hy
    have hm := hmono k
    by_cases h0 : 0 < k
    · rw [if_pos h0] at e
      generalize Lib.join (l.take k) sep = acc at *
      have a1 : ¬ (9223372036854775807 : Int) < (acc.length : Int) + sep.length := by omega
      have a2 : ¬ (9223372036854775807 : Int) < (acc.length : Int) + sep.length + y.length := by omega
      have a3 : ¬ (9223372036854775807 : Int) < (acc.length : Int) + (sep.length + y.length) := by omega
      have h0' : (0 : Int) < k := by omega
      repeat' (first | simp -implicitDefEqProofs [Iy, Ie, J4, IV, Ii, c36, -getElem?_pos, A4, hy, hy2, h0, h0', a1, a2, a3] | simp (disch := omega) only [AA] | (with_reducible first | exact AI | refine AQ ?_ | intro _g _hg | refine A9 ?_ ?_ | intro _hc) | omega)
      exact hJ (q - 1) _ (by omega) ⟨k + 1, by omega, by rw [e]; simp⟩
    · have : k = 0 := by omega
      subst this
      rw [if_neg h0] at e
      have hne : ¬ l = [] := fun e' => by rw [e'] at hk; simp at hk
      generalize Lib.join (l.take 0) sep = acc at *
      have a1 : ¬ (9223372036854775807 : Int) < (acc.length : Int) + y.length := by omega
      repeat' (first | simp -implicitDefEqProofs [Iy, Ie, J4, IV, Ii, c36, -getElem?_pos, A4, hy, hy2, a1, hne] | simp (disch := omega) only [AA] | (with_reducible first | exact AI | refine AQ ?_ | intro _g _hg | refine A9 ?_ ?_ | intro _hc) | omega)
      exact hJ (q - 1) _ (by omega) ⟨1, by omega, by rw [e]; simp⟩
  · have hk0 : k = l.length := by omega
    subst hk0
    rw [List.take_length]
    repeat' (first | simp -implicitDefEqProofs [Iy, Ie, J4, IV, Ii, c36, -getElem?_pos, A4] | simp (disch := omega) only [AA] | (with_reducible first | exact AI | refine AQ ?_ | intro _g _hg | refine A9 ?_ ?_ | intro _hc) | omega)
abbrev aB (c : UInt8) : AV := .int .u8 c.toNat
theorem SW (c : UInt8) : APure Tryz.prog 154 [aB c] (.bool (BK c)) := by
  unfold BK
  by_cases h1 : 48 ≤ c.toNat
  · by_cases h2 : c.toNat ≤ 57
    · have h1' : (48 : Int) ≤ (c.toNat : Int) := by omega
      have h2' : (c.toNat : Int) ≤ 57 := by omega
      rw [decide_eq_true (⟨h1, h2⟩ : 48 ≤ c.toNat ∧ c.toNat ≤ 57)]
      refine A6 Tryz.func154 Uv rfl fun n H hH => ?_
      repeat' (first | simp -implicitDefEqProofs [Zy, -getElem?_pos, A4, h1', h2'] | simp (disch := omega) only [AA] | (with_reducible first | exact AI | refine AQ ?_ | intro _g _hg | refine A9 ?_ ?_ | intro _hc) | omega)
    · have h1' : (48 : Int) ≤ (c.toNat : Int) := by omega
      have h2' : ¬ (c.toNat : Int) ≤ 57 := by omega
      rw [decide_eq_false (fun h => h2 h.2 : ¬ (48 ≤ c.toNat ∧ c.toNat ≤ 57))]
      refine A6 Tryz.func154 Uv rfl fun n H hH => ?_
      repeat' (first | simp -implicitDefEqProofs [Zy, -getElem?_pos, A4, h1', h2'] | simp (disch := omega) only [AA] | (with_reducible first | exact AI | refine AQ ?_ | intro _g _hg | refine A9 ?_ ?_ | intro _hc) | omega)
  · have h1' : ¬ (48 : Int) ≤ (c.toNat : Int) := by omega
    rw [decide_eq_false (fun h => h1 h.1 : ¬ (48 ≤ c.toNat ∧ c.toNat ≤ 57))]
    refine A6 Tryz.func154 Uv rfl fun n H hH => ?_
    repeat' (first | simp -implicitDefEqProofs [Zy, -getElem?_pos, A4, h1'] | simp (disch := omega) only [AA] | (with_reducible first | exact AI | refine AQ ?_ | intro _g _hg | refine A9 ?_ ?_ | intro _hc) | omega)
theorem UV {l : AE} (hl : ∀ c ∈ l, BK c = true) (h9 : l.length ≤ 9) : Eb 0 l ≤ 999999999 := by
  have h1 := Ka l hl 0
  have h2 : 10 ^ l.length ≤ 10 ^ 9 := Nat.pow_le_pow_right (by omega) h9
  omega
theorem WJ (h : BK c = true) : 48 ≤ c.toNat ∧ c.toNat ≤ 57 := by unfold BK at h; simpa using h
theorem A04 (s : AE) (f : Nat) (hf : f = if s.head? = some 45 then 1 else 0) : Hv s = if (s.drop f).all BK = true ∧ (s.drop f).length ≤ 9 then ((if f = 1 then -(Eb 0 (s.drop f) : Int) else Eb 0 (s.drop f)), decide (f < s.length) && decide (Lib.itoa (if f = 1 then -(Eb 0 (s.drop f) : Int) else Eb 0 (s.drop f)) = s)) else (0, false) := by
  unfold Hv; rw [hf]
theorem Z1 (c : UInt8) : c = 45 ↔ (c.toNat : Int) = 45 := by
  constructor
  · rintro rfl; decide
  · intro h
    have : c.toNat = (45 : UInt8).toNat := by have : (45 : UInt8).toNat = 45 := by decide
                                              omega
    exact UInt8.toNat_inj.1 this
theorem RG {l : AE} {i : Nat} {y : UInt8} (h : l[i]? = some y) : l.take (i + 1) = l.take i ++ [y] := by rw [List.take_add_one, h]; rfl
theorem T0 (s : AE) (hs : s.length ≤ 2000000) : APure Tryz.prog 116 [.str s] (.tup [aI (Hv s).1, .bool (Hv s).2]) := by
  have hcase : (s.length = 0 ∧ s.head? ≠ some 45) ∨ (∃ c, 0 < s.length ∧ s[0]? = some c ∧ ¬ (c.toNat : Int) = 45 ∧ s.head? ≠ some 45) ∨ (∃ c, 0 < s.length ∧ s[0]? = some c ∧ (c.toNat : Int) = 45 ∧ s.head? = some 45) := by
    cases s with
    | nil => exact .inl ⟨rfl, by simp⟩
    | cons c r =>
      by_cases h : c = 45
      · exact .inr (.inr ⟨c, by simp, rfl, (Z1 c).1 h, by simp [h]⟩)
      · exact .inr (.inl ⟨c, by simp, rfl, fun e => h ((Z1 c).2 e), by simp [h]⟩)
  obtain ⟨f, hf⟩ : ∃ f : Nat, f = (if s.head? = some 45 then 1 else 0) := ⟨_, rfl⟩
  have hR := A04 s f hf
  generalize Hv s = R at *
  have hfl : f ≤ s.length := by
    rw [hf]; split
    · rename_i h; cases s with | nil => simp at h | cons a b => simp
    · omega
  have hf1 : f = 0 ∨ f = 1 := by rw [hf]; split <;> simp
  refine A6 Tryz.func116 A20 rfl fun n H hH => ?_
  have main : ∀ e, get e 0 = .str s → get e 4 = aI f → aw Tryz.prog c116_k7 (Ga (.tup [aI R.1, .bool R.2]) n H c116.res) ⟨e, n, H⟩ := by
    clear hcase hf
    intro e he0 he4
    repeat' (first | simp -implicitDefEqProofs [Cs, -getElem?_pos, A1, he0, he4] | simp (disch := omega) only [AA] | (with_reducible first | exact AI | refine AQ ?_ | intro _g _hg | refine A9 ?_ ?_ | intro _hc) | omega)
    refine LoopK.go (fun q st => ∃ (i j : Nat), j = f + i ∧ j + q = s.length ∧ st = ⟨[(0, .str s), (4, aI f), (5, aI (Eb 0 ((s.drop f).take i) : Nat)), (6, aI j)], n, H⟩ ∧ (∀ c ∈ (s.drop f).take i, BK c = true) ∧ i ≤ 9) (s.length - f) ⟨0, f, rfl, by omega, rfl, by simp, by omega⟩ ?_
    rintro q st ⟨i, j, hj, hkq, rfl, hdg, hi9⟩ J hJ
    have hbd := UV hdg (by rw [List.length_take]; omega)
    have hif : ((j : Int) - f) = i := by omega
    by_cases hlt : j < s.length
    · obtain ⟨y, hy⟩ : ∃ y, s[j]? = some y := ⟨_, List.getElem?_eq_getElem hlt⟩
      have hy2 : (s.drop f)[i]? = some y := by rw [List.getElem?_drop, ← hj]; exact hy
      have hdy := SW y
      have hlt2 : (j : Int) < s.length := by omega
      cases hd : BK y with
      | false =>
        rw [hd] at hdy
        have hno : ¬ ((s.drop f).all BK = true ∧ (s.drop f).length ≤ 9) := by
          rintro ⟨h1, _⟩
          have := List.all_eq_true.1 h1 y (List.mem_of_getElem? hy2)
          rw [hd] at this; cases this
        rw [if_neg hno] at hR
        subst hR
        repeat' (first | simp -implicitDefEqProofs [DH, DL, DG, DE, DB, DN, Cs, c116, -getElem?_pos, A1, hy, hlt2] | simp (disch := omega) only [AA] | ((with_reducible refine A8 154 ?_); (refine' CallP.sf ?_ (hdy) ?_); (focus first | (with_reducible exact A0 _) | (simp [A5, A4, A1, A0]; done))) | (with_reducible first | exact AI | refine AQ ?_ | intro _g _hg | refine A9 ?_ ?_ | intro _hc) | omega)
      | true =>
        rw [hd] at hdy
        by_cases h8 : i ≤ 8
        · have h8' : ¬ (8 : Int) < (j : Int) - f := by omega
          have h8'' : ¬ (8 : Int) < i := by omega
          have hb := WJ hd
          have hbd2 : Eb 0 ((s.drop f).take i) ≤ 99999999 := by
            have h1 := Ka _ hdg 0
            have h2 : 10 ^ ((s.drop f).take i).length ≤ 10 ^ 8 := Nat.pow_le_pow_right (by omega) (by rw [List.length_take]; omega)
            omega
          have hnx : Eb 0 ((s.drop f).take (i + 1)) = 10 * Eb 0 ((s.drop f).take i) + (y.toNat - 48) := by rw [RG hy2, RQ]
          have hdg2 : ∀ c ∈ (s.drop f).take (i + 1), BK c = true := by
            rw [RG hy2]; intro c hc
            rcases List.mem_append.1 hc with h | h
            · exact hdg c h
            · rw [List.mem_singleton.1 h]; exact hd
          generalize Eb 0 ((s.drop f).take i) = v at *
          have hv2 : (10 : Int) * v + y.toNat - 48 = (Eb 0 ((s.drop f).take (i + 1)) : Nat) := by rw [hnx]; omega
          repeat' (first | simp -implicitDefEqProofs [DH, DL, DG, DE, DB, DN, Cs, c116, -getElem?_pos, A1, hy, hlt2, hif, h8', h8''] | simp (disch := omega) only [AA] | ((with_reducible refine A8 154 ?_); (refine' CallP.sf ?_ (hdy) ?_); (focus first | (with_reducible exact A0 _) | (simp [A5, A4, A1, A0]; done))) | (with_reducible first | exact AI | refine AQ ?_ | intro _g _hg | refine A9 ?_ ?_ | intro _hc) | omega)
          exact hJ (q - 1) _ (by omega) ⟨i + 1, j + 1, by omega, by omega, by rw [hv2]; rfl, hdg2, by omega⟩
        · have h8' : (8 : Int) < (j : Int) - f := by omega
          have h8'' : (8 : Int) < i := by omega
          have hno : ¬ ((s.drop f).all BK = true ∧ (s.drop f).length ≤ 9) := by
            rintro ⟨_, h2⟩
            rw [List.length_drop] at h2; omega
          rw [if_neg hno] at hR
          subst hR
          repeat' (first | simp -implicitDefEqProofs [DH, DL, DG, DE, DB, DN, Cs, c116, -getElem?_pos, A1, hy, hlt2, hif, h8', h8''] | simp (disch := omega) only [AA] | ((with_reducible refine A8 154 ?_); (refine' CallP.sf ?_ (hdy) ?_); (focus first | (with_reducible exact A0 _) | (simp [A5, A4, A1, A0]; done))) | (with_reducible first | exact AI | refine AQ ?_ | intro _g _hg | refine A9 ?_ ?_ | intro _hc) | omega)
    · have hall : (s.drop f).take i = s.drop f := List.take_of_length_le (by rw [List.length_drop]; omega)
      have hln : f + i = s.length := by omega
      rw [hall] at hdg hbd ⊢
      rw [if_pos ⟨List.all_eq_true.2 hdg, by rw [List.length_drop]; omega⟩] at hR
      have hnl : ¬ (j : Int) < s.length := by omega
      generalize Eb 0 (s.drop f) = v at *
      rcases hf1 with rfl | rfl
      · rw [if_neg (by omega)] at hR
        have hd := MU v (by omega)
        generalize Lib.itoa (v : Int) = t at *
        subst hR
        dsimp only
        by_cases h0 : 0 < s.length
        · by_cases ht : t = s
          · repeat' (first | simp -implicitDefEqProofs [DH, DL, DG, DE, DB, DN, Cs, c116, -getElem?_pos, A1, hnl, h0, ht] | simp (disch := omega) only [AA] | ((with_reducible refine A8 38 ?_); (refine' CallP.sf ?_ (hd) ?_); (focus first | (with_reducible exact A0 _) | (simp [A5, A4, A1, A0]; done))) | (with_reducible first | exact AI | refine AQ ?_ | intro _g _hg | refine A9 ?_ ?_ | intro _hc) | omega)
          · have htb : (t == s) = false := by simp [ht]
            repeat' (first | simp -implicitDefEqProofs [DH, DL, DG, DE, DB, DN, Cs, c116, -getElem?_pos, A1, hnl, h0, ht, htb] | simp (disch := omega) only [AA] | ((with_reducible refine A8 38 ?_); (refine' CallP.sf ?_ (hd) ?_); (focus first | (with_reducible exact A0 _) | (simp [A5, A4, A1, A0]; done))) | (with_reducible first | exact AI | refine AQ ?_ | intro _g _hg | refine A9 ?_ ?_ | intro _hc) | omega)
        · repeat' (first | simp -implicitDefEqProofs [DH, DL, DG, DE, DB, DN, Cs, c116, -getElem?_pos, A1, hnl, h0] | simp (disch := omega) only [AA] | ((with_reducible refine A8 38 ?_); (refine' CallP.sf ?_ (hd) ?_); (focus first | (with_reducible exact A0 _) | (simp [A5, A4, A1, A0]; done))) | (with_reducible first | exact AI | refine AQ ?_ | intro _g _hg | refine A9 ?_ ?_ | intro _hc) | omega)
      · rw [if_pos rfl] at hR
        have hd := MU (-(v : Int)) (by omega)
        generalize Lib.itoa (-(v : Int)) = t at *
        subst hR
        dsimp only
        by_cases h0 : 1 < s.length
        · have h0' : (1 : Int) < s.length := by omega
          by_cases ht : t = s
          · repeat' (first | simp -implicitDefEqProofs [DH, DL, DG, DE, DB, DN, Cs, c116, -getElem?_pos, A1, hnl, h0, h0', ht] | simp (disch := omega) only [AA] | ((with_reducible refine A8 38 ?_); (refine' CallP.sf ?_ (hd) ?_); (focus first | (with_reducible exact A0 _) | (simp [A5, A4, A1, A0]; done))) | (with_reducible first | exact AI | refine AQ ?_ | intro _g _hg | refine A9 ?_ ?_ | intro _hc) | omega)
          · have htb : (t == s) = false := by simp [ht]
            repeat' (first | simp -implicitDefEqProofs [DH, DL, DG, DE, DB, DN, Cs, c116, -getElem?_pos, A1, hnl, h0, h0', ht, htb] | simp (disch := omega) only [AA] | ((with_reducible refine A8 38 ?_); (refine' CallP.sf ?_ (hd) ?_); (focus first | (with_reducible exact A0 _) | (simp [A5, A4, A1, A0]; done))) | (with_reducible first | exact AI | refine AQ ?_ | intro _g _hg | refine A9 ?_ ?_ | intro _hc) | omega)
        · have h0' : ¬ (1 : Int) < s.length := by omega
          repeat' (first | simp -implicitDefEqProofs [DH, DL, DG, DE, DB, DN, Cs, c116, -getElem?_pos, A1, hnl, h0, h0'] | simp (disch := omega) only [AA] | ((with_reducible refine A8 38 ?_); (refine' CallP.sf ?_ (hd) ?_); (focus first | (with_reducible exact A0 _) | (simp [A5, A4, A1, A0]; done))) | (with_reducible first | exact AI | refine AQ ?_ | intro _g _hg | refine A9 ?_ ?_ | intro _hc) | omega)
  rcases hcase with ⟨h0, hh⟩ | ⟨c, h0, hc, h45, hh⟩ | ⟨c, h0, hc, h45, hh⟩
  · rw [if_neg hh] at hf; subst hf
    repeat' (first | simp -implicitDefEqProofs [c116, -getElem?_pos, A1, h0] | simp (disch := omega) only [AA] | (with_reducible first | exact AI | refine AQ ?_ | intro _g _hg | refine A9 ?_ ?_ | intro _hc) | omega)
    all_goals exact main _ (by simp -implicitDefEqProofs [-getElem?_pos]) (by simp -implicitDefEqProofs [-getElem?_pos])
  · rw [if_neg hh] at hf; subst hf
    repeat' (first | simp -implicitDefEqProofs [c116, -getElem?_pos, A1, h0, hc, h45] | simp (disch := omega) only [AA] | (with_reducible first | exact AI | refine AQ ?_ | intro _g _hg | refine A9 ?_ ?_ | intro _hc) | omega)
    all_goals exact main _ (by simp -implicitDefEqProofs [-getElem?_pos]) (by simp -implicitDefEqProofs [-getElem?_pos])
  · rw [if_pos hh] at hf; subst hf
    repeat' (first | simp -implicitDefEqProofs [c116, -getElem?_pos, A1, h0, hc, h45] | simp (disch := omega) only [AA] | (with_reducible first | exact AI | refine AQ ?_ | intro _g _hg | refine A9 ?_ ?_ | intro _hc) | omega)
    all_goals exact main _ (by simp -implicitDefEqProofs [-getElem?_pos]) (by simp -implicitDefEqProofs [-getElem?_pos])
theorem SU {s : AE} {a i : Nat} (h : s[i]? = some x) (ha : a ≤ i) : (s.drop a).take (i + 1 - a) = (s.drop a).take (i - a) ++ [x] := by
  have e : i + 1 - a = (i - a) + 1 := by omega
  rw [e, List.take_add_one, List.getElem?_drop]
  have e2 : a + (i - a) = i := by omega
  rw [e2, h]; rfl
theorem VL {s : AE} {a i : Nat} (h : s[i]? = some x) (ha : a ≤ i) : s.drop a = (s.drop a).take (i - a) ++ x :: s.drop (i + 1) := by
  conv => lhs; rw [← List.take_append_drop (i - a) (s.drop a)]
  rw [List.drop_drop]
  have e2 : a + (i - a) = i := by omega
  rw [e2, drop_at h]
theorem Hm (s : AE) (c : UInt8) (hs : s.length ≤ 2000000) : APure Tryz.prog 26 [.str s, aB c] (CG (Ct c s)) := by
  refine A6 Tryz.func26 A54 rfl fun n H hH => ?_
  have _hb : True := trivial
  have _hO : Owns n H [] [⟨9, 1, .sl 0 [] .nil, []⟩] n H := (Owns.start hH).addNil _ _ _
  repeat' (first | simp -implicitDefEqProofs [HS, HE, HK, H4, Hd, c26, -getElem?_pos, A1, _hb] | simp (disch := omega) only [AA] | (with_reducible first | exact AI | refine ZC ?_) | ((with_reducible refine zzS (fun _g _hg _hO => ?_))) | ((with_reducible refine appKS.chk ?_); first | ((refine zzA ?_ ?_ (fun _x _n _H _hle _hO _hb => ?_)); rotate_left 2; dsimp only [J8, Gn, ME] at _hb) | ((refine zzB ?_ ?_ (fun _x _n _H _hle _hO _hb => ?_)); rotate_left 2; dsimp only [J8, Gn, ME] at _hb)) | (with_reducible first | exact AI | refine Xq ?_ | intro _g _hg | refine A9 ?_ ?_ | intro _hc) | omega)
  refine LoopK.go (fun q st => ∃ (i a n' : Nat) (H' : A3) (x : AV) (l2 : List AE), i + q = s.length + 1 ∧ st = ⟨[(0, .str s), (1, aB c), (5, x), (6, aI a), (7, aI i)], n', H'⟩ ∧ Owns n H [] [⟨9, 1, x, l2.map AV.str⟩] n' H' ∧
    l2.length ≤ i ∧ ((i ≤ s.length ∧ a ≤ i ∧ Ct c s = l2 ++ Ct c (s.drop a) ∧ c ∉ (s.drop a).take (i - a)) ∨ (i = s.length + 1 ∧ Ct c s = l2))) (s.length + 1) ⟨0, 0, _, _, _, [], by omega, rfl, _hO, by simp, .inl ⟨by omega, by omega, by simp, by simp⟩⟩ ?_
  rintro q st ⟨i, a, n1, H1, xb, l2, hkq, rfl, _hO, hl2, hE⟩ J hJ
  have _hb := _hO.boxF
  dsimp only [J8, Gn, ME] at _hb
  have hle := _hO.le
  rcases hE with ⟨hi, ha, hE, hfree⟩ | ⟨hi, hE⟩
  · by_cases hlt : i < s.length
    · obtain ⟨y, hy⟩ : ∃ y, s[i]? = some y := ⟨_, List.getElem?_eq_getElem hlt⟩
      have hi1 : (i : Int) ≤ s.length := by omega
      have hi2 : ¬ (i : Int) = s.length := by omega
      by_cases hyc : y = c
      · subst hyc
        have e := VL hy ha
        rw [e, Ik _ _ _ hfree] at hE
        have hcur : List.drop a (List.take i s) = (s.drop a).take (i - a) := List.drop_take
        generalize (s.drop a).take (i - a) = cur at *
        repeat' (first | simp -implicitDefEqProofs [HS, HE, HK, H4, Hd, c26, -getElem?_pos, A1, hy, hi1, hi2, hcur, maxLen, _hb] | simp (disch := omega) only [AA] | (with_reducible first | exact AI | refine ZC ?_) | ((with_reducible refine zzS (fun _g _hg _hO => ?_))) | ((with_reducible refine appKS.chk ?_); first | ((refine zzA ?_ ?_ (fun _x _n _H _hle _hO _hb => ?_)); rotate_left 2; dsimp only [J8, Gn, ME] at _hb) | ((refine zzB ?_ ?_ (fun _x _n _H _hle _hO _hb => ?_)); rotate_left 2; dsimp only [J8, Gn, ME] at _hb)) | (with_reducible first | exact AI | refine Xq ?_ | intro _g _hg | refine A9 ?_ ?_ | intro _hc) | omega)
        exact hJ (q - 1) _ (by omega) ⟨i + 1, i + 1, _, _, _, l2 ++ [cur], by omega, rfl, by rw [List.map_append]; exact _hO, by simp; omega, .inl ⟨by omega, by omega, by rw [hE]; simp, by simp⟩⟩
      · have hyc' : ¬ (y.toNat : Int) = c.toNat := fun e => hyc (UInt8.toNat_inj.1 (by omega))
        repeat' (first | simp -implicitDefEqProofs [HS, HE, HK, H4, Hd, c26, -getElem?_pos, A1, hy, hi1, hi2, hyc', _hb] | simp (disch := omega) only [AA] | (with_reducible first | exact AI | refine ZC ?_) | ((with_reducible refine zzS (fun _g _hg _hO => ?_))) | ((with_reducible refine appKS.chk ?_); first | ((refine zzA ?_ ?_ (fun _x _n _H _hle _hO _hb => ?_)); rotate_left 2; dsimp only [J8, Gn, ME] at _hb) | ((refine zzB ?_ ?_ (fun _x _n _H _hle _hO _hb => ?_)); rotate_left 2; dsimp only [J8, Gn, ME] at _hb)) | (with_reducible first | exact AI | refine Xq ?_ | intro _g _hg | refine A9 ?_ ?_ | intro _hc) | omega)
        exact hJ (q - 1) _ (by omega) ⟨i + 1, a, _, _, _, l2, by omega, rfl, _hO, by omega, .inl ⟨by omega, by omega, hE, by rw [SU hy ha]; simp only [List.mem_append, List.mem_singleton, not_or]; exact ⟨hfree, fun e => hyc e.symm⟩⟩⟩
    · have hi3 : i = s.length := by omega
      subst hi3
      have hfr : c ∉ s.drop a := by
        have e : (s.drop a).take (s.length - a) = s.drop a := List.take_of_length_le (by simp)
        rw [e] at hfree; exact hfree
      rw [GS c _ hfr] at hE
      repeat' (first | simp -implicitDefEqProofs [HS, HE, HK, H4, Hd, c26, -getElem?_pos, A1, maxLen, _hb] | simp (disch := omega) only [AA] | (with_reducible first | exact AI | refine ZC ?_) | ((with_reducible refine zzS (fun _g _hg _hO => ?_))) | ((with_reducible refine appKS.chk ?_); first | ((refine zzA ?_ ?_ (fun _x _n _H _hle _hO _hb => ?_)); rotate_left 2; dsimp only [J8, Gn, ME] at _hb) | ((refine zzB ?_ ?_ (fun _x _n _H _hle _hO _hb => ?_)); rotate_left 2; dsimp only [J8, Gn, ME] at _hb)) | (with_reducible first | exact AI | refine Xq ?_ | intro _g _hg | refine A9 ?_ ?_ | intro _hc) | omega)
      exact hJ (q - 1) _ (by omega) ⟨s.length + 1, s.length + 1, _, _, _, l2 ++ [s.drop a], by omega, rfl, by rw [List.map_append]; exact _hO, by simp; omega, .inr ⟨rfl, hE⟩⟩
  · subst hi
    have hi1 : ¬ ((s.length : Int) + 1) ≤ s.length := by omega
    rw [hE]
    repeat' (first | simp -implicitDefEqProofs [HS, HE, HK, H4, Hd, c26, -getElem?_pos, A1, hi1, _hb] | simp (disch := omega) only [AA] | (with_reducible first | exact AI | refine ZC ?_) | ((with_reducible refine zzS (fun _g _hg _hO => ?_))) | ((with_reducible refine appKS.chk ?_); first | ((refine zzA ?_ ?_ (fun _x _n _H _hle _hO _hb => ?_)); rotate_left 2; dsimp only [J8, Gn, ME] at _hb) | ((refine zzB ?_ ?_ (fun _x _n _H _hle _hO _hb => ?_)); rotate_left 2; dsimp only [J8, Gn, ME] at _hb)) | (with_reducible first | exact AI | refine Xq ?_ | intro _g _hg | refine A9 ?_ ?_ | intro _hc) | omega)
    all_goals exact _hO.sim0 (A0 _)
theorem Ab {x y : AV} (h : x = y) : A4 x y := h ▸ A1 x
theorem Rg (c i : Int) : APure Tryz.prog 27 [aI c, aI i] (aF (c, i)) := by
  refine A6 Tryz.func27 A5n rfl fun n H hH => ?_
  repeat' (first | simp -implicitDefEqProofs [c27, -getElem?_pos, aF, splice, A4, A5] | simp (disch := omega) only [AA] | (with_reducible first | exact AI | refine BT ?_ | intro _g _hg | refine A9 ?_ ?_ | intro _hc) | omega)
theorem A5r (x a b : Int) : APure Tryz.prog 104 [aI x, aI a, aI b] (.bool (decide (a ≤ x) && decide (x ≤ b))) := by
  refine A6 Tryz.func104 A2s rfl fun n H hH => ?_
  repeat' (first | simp -implicitDefEqProofs [A5x, -getElem?_pos, A4] | simp (disch := omega) only [AA] | (with_reducible first | exact AI | refine AQ ?_ | intro _g _hg | refine A9 ?_ ?_ | intro _hc) | omega)
theorem ZH (c : UInt8) : APure Tryz.prog 144 [aB c] (.bool (Jd c)) := by
  have hl : Jd c = ((decide ((97 : Int) ≤ c.toNat) && decide ((c.toNat : Int) ≤ 122)) || (decide ((65 : Int) ≤ c.toNat) && decide ((c.toNat : Int) ≤ 90)) || decide ((c.toNat : Int) = 95)) := by
    unfold Jd
    congr 1
    · congr 1
      · congr 1 <;> (apply decide_eq_decide.2; omega)
      · congr 1 <;> (apply decide_eq_decide.2; omega)
    · apply decide_eq_decide.2; omega
  obtain ⟨z, hz⟩ : ∃ z, Jd c = z := ⟨_, rfl⟩
  rw [hz] at hl ⊢
  refine A6 Tryz.func144 A2f rfl fun n H hH => ?_
  repeat' (first | simp -implicitDefEqProofs [A58, -getElem?_pos] | simp (disch := omega) only [AA] | (with_reducible first | exact AI | refine AQ ?_ | intro _g _hg | refine A9 ?_ ?_ | intro _hc) | omega)
  all_goals (refine Ab ?_; rw [hl]; grind)
theorem YS (c : UInt8) : APure Tryz.prog 145 [aB c] (.bool (BK c)) := by
  have hl : BK c = (decide ((48 : Int) ≤ c.toNat) && decide ((c.toNat : Int) ≤ 57)) := by
    unfold BK
    rw [← Bool.decide_and]; apply decide_eq_decide.2; omega
  obtain ⟨z, hz⟩ : ∃ z, BK c = z := ⟨_, rfl⟩
  rw [hz] at hl ⊢
  refine A6 Tryz.func145 A3e rfl fun n H hH => ?_
  repeat' (first | simp -implicitDefEqProofs [c145, -getElem?_pos] | simp (disch := omega) only [AA] | (with_reducible first | exact AI | refine AQ ?_ | intro _g _hg | refine A9 ?_ ?_ | intro _hc) | omega)
  all_goals first | (refine Ab ?_; rw [hl]; done) | (refine Ab ?_; rw [hl]; grind)
def UZ : AE := [105, 102, 32, 101, 97, 99, 104, 32, 105, 110, 32, 101, 108, 115, 101, 32, 101, 110, 100, 32, 111, 112, 101, 110]
theorem Zb : APure Tryz.prog 146 [] (CG ZN) := by
  have h := TT UZ (by decide) (by decide) (by decide +kernel)
  have e : Lib.fields UZ = ZN := by decide +kernel
  rw [e] at h
  have hw : UZ = [105, 102, 32, 101, 97, 99, 104, 32, 105, 110, 32, 101, 108, 115, 101, 32, 101, 110, 100, 32, 111, 112, 101, 110] := rfl
  rw [hw] at h
  generalize ZN = K at *
  refine A6 Tryz.func146 A41 rfl fun n H hH => ?_
  repeat' (first | simp -implicitDefEqProofs [A4w, -getElem?_pos] | simp (disch := omega) only [AA] | ((with_reducible refine A8 178 ?_); (refine' CallP.sf ?_ (h) ?_); (focus first | (with_reducible exact A0 _) | (simp [A5, A4, A1, A0]; done))) | (with_reducible first | exact AI | refine AQ ?_ | intro _g _hg | refine A9 ?_ ?_ | intro _hc) | omega)
  all_goals exact A1 _
def F7 (s : AE) : List AE → Nat → Int
  | [], _ => -1
  | x :: xs, k => if x = s then (k : Int) else F7 s xs (k + 1)
theorem NF (s : AE) : ∀ (l : List AE) (k : Nat), 0 ≤ F7 s l k ↔ s ∈ l
  | [], _ => by simp [F7]
  | x :: l, k => by
    unfold F7
    split
    · rename_i h; simp [h]
    · rename_i h; rw [NF s l (k + 1)]; simp [Ne.symm h]
theorem XX (l : List AE) (x : AE) (hmx : l.length ≤ 140737488355328) : APure Tryz.prog 91 [CG l, .str x] (.int .i64 (F7 x l 0)) := by
  refine A6 Tryz.func91 A5a rfl fun n H hH => ?_
  repeat' (first | simp -implicitDefEqProofs [c91, -getElem?_pos, A4] | simp (disch := omega) only [AA] | (with_reducible first | exact AI | refine AQ ?_ | intro _g _hg | refine A9 ?_ ?_ | intro _hc) | omega)
  refine LoopK.go (fun m s => ∃ (k : Nat), k + m = l.length ∧ s = ⟨[(0, CG l), (1, .str x), (7, .int .i64 l.length), (8, .int .i64 k)], n, H⟩ ∧ F7 x l 0 = F7 x (l.drop k) k) l.length ⟨0, by omega, rfl, by simp⟩ ?_
  rintro m s ⟨k, hkm, rfl, hE⟩ J hJ
  by_cases hk : k < l.length
  · obtain ⟨y, hy⟩ : ∃ y, l[k]? = some y := ⟨_, List.getElem?_eq_getElem hk⟩
    rw [drop_at hy, F7] at hE
    repeat' (first | simp -implicitDefEqProofs [Qo, RI, RB, RD, c91, -getElem?_pos, A4, hy] | simp (disch := omega) only [AA] | (with_reducible first | exact AI | refine AQ ?_ | intro _g _hg | refine A9 ?_ ?_ | intro _hc) | omega)
    · rw [hE, if_pos (by simp_all)]
    · exact hJ (m - 1) _ (by omega) ⟨k + 1, by omega, rfl, by rw [hE, if_neg (fun h => ?_)]; simp_all⟩
  · have hk0 : k = l.length := by omega
    subst hk0
    simp [F7] at hE
    repeat' (first | simp -implicitDefEqProofs [Qo, RI, RB, RD, c91, -getElem?_pos, A4, hE] | simp (disch := omega) only [AA] | (with_reducible first | exact AI | refine AQ ?_ | intro _g _hg | refine A9 ?_ ?_ | intro _hc) | omega)
theorem U0 (l : List AE) (x : AE) (hmx : l.length ≤ 140737488355328) : APure Tryz.prog 53 [CG l, .str x] (.bool (decide (x ∈ l))) := by
  have h : decide (x ∈ l) = decide (0 ≤ F7 x l 0) := decide_eq_decide.2 (NF x l 0).symm
  rw [h]
  refine A6 Tryz.func53 A50 rfl fun n H hH => ?_
  repeat' (first | simp -implicitDefEqProofs [c53, -getElem?_pos, A4] | simp (disch := omega) only [AA] | ((with_reducible refine A8 91 ?_); (refine' CallP.sf ?_ (XX l x hmx) ?_); (focus first | (with_reducible exact A0 _) | (simp [A5, A4, A1, A0]; done))) | (with_reducible first | exact AI | refine AQ ?_ | intro _g _hg | refine A9 ?_ ?_ | intro _hc) | omega)
def A0q (i : Nat) (c : UInt8) : Bool := Jd c || (decide (i ≠ 0) && BK c)
def Qf : Nat → AE → Bool
  | _, [] => true
  | i, c :: r => A0q i c && Qf (i + 1) r
theorem Vz : ∀ (r : AE) (i : Nat), 0 < i → Qf i r = r.all fun c => Jd c || BK c
  | [], _, _ => rfl
  | c :: r, i, h => by
    have : decide (i ≠ 0) = true := decide_eq_true (by omega)
    simp only [Qf, List.all_cons, A0q, this, Bool.true_and, Vz r (i + 1) (by omega)]
theorem A0x (h : BK c = true) : Jd c = false := by
  unfold BK at h
  simp only [decide_eq_true_eq] at h
  unfold Jd
  simp only [Bool.or_eq_false_iff, Bool.and_eq_false_iff, decide_eq_false_iff_not]
  exact ⟨⟨by omega, by omega⟩, by omega⟩
theorem Xe {s : AE} : IK s = (decide (s ≠ []) && decide (s.length ≤ 24) && Qf 0 s) := by
  unfold IK
  cases s with
  | nil => rfl
  | cons c r =>
    simp only [List.headD_cons, Qf, List.all_cons, A0q, Vz r 1 (by omega), ne_eq, not_true, decide_false, Bool.false_and, Bool.or_false]
    cases h : BK c with
    | true => rw [A0x h]; simp
    | false => simp [Bool.and_assoc]
theorem Rx (s : AE) (hs : s.length ≤ 2000000) : APure Tryz.prog 107 [.str s] (.bool (Ho s)) := by
  have hw := Zb
  have hcon := U0 ZN s (by decide)
  have hid : Ho s = (decide (s ≠ []) && decide (s.length ≤ 24) && Qf 0 s && !decide (s ∈ ZN)) := by unfold Ho; rw [Xe]
  rw [hid]
  generalize ZN = K at *
  refine A6 Tryz.func107 A3v rfl fun n H hH => ?_
  repeat' (first | simp -implicitDefEqProofs [Ri, -getElem?_pos, A4] | simp (disch := omega) only [AA] | (with_reducible first | exact AI | refine AQ ?_ | intro _g _hg | refine A9 ?_ ?_ | intro _hc) | omega)
  refine LoopK.go (fun m st => ∃ (k : Nat), k + m = s.length ∧ st = ⟨[(0, .str s), (5, aI s.length), (6, aI k)], n, H⟩ ∧ Qf 0 s = Qf k (s.drop k)) s.length ⟨0, by omega, rfl, by simp⟩ ?_
  rintro m st ⟨k, hkm, rfl, hE⟩ J hJ
  by_cases hk : k < s.length
  · obtain ⟨y, hy⟩ : ∃ y, s[k]? = some y := ⟨_, List.getElem?_eq_getElem hk⟩
    rw [drop_at hy, Qf] at hE
    have hl := ZH y
    have hd := YS y
    have hk' : (k : Int) < s.length := by omega
    unfold A0q at hE
    generalize Jd y = bl at *
    generalize BK y = bd at *
    by_cases h0 : k = 0
    · subst h0
      have hk0 : (0 : Int) < s.length := hk'
      have hne : ¬ s = [] := fun e => by rw [e] at hk; simp at hk
      cases bl
      · repeat' (first | simp -implicitDefEqProofs [EC, EE, EH, EF, Ri, -getElem?_pos, hy, hk, hk0, hne] | simp (disch := omega) only [AA] | ((with_reducible refine A8 144 ?_); (refine' CallP.sf ?_ (hl) ?_); (focus first | (with_reducible exact A0 _) | (simp [A5, A4, A1, A0]; done))) | ((with_reducible refine A8 145 ?_); (refine' CallP.sf ?_ (hd) ?_); (focus first | (with_reducible exact A0 _) | (simp [A5, A4, A1, A0]; done))) | (with_reducible first | exact AI | refine AQ ?_ | intro _g _hg | refine A9 ?_ ?_ | intro _hc) | omega)
        all_goals (refine Ab ?_; rw [hE]; simp)
      · repeat' (first | simp -implicitDefEqProofs [EC, EE, EH, EF, Ri, -getElem?_pos, hy, hk, hk0, hne] | simp (disch := omega) only [AA] | ((with_reducible refine A8 144 ?_); (refine' CallP.sf ?_ (hl) ?_); (focus first | (with_reducible exact A0 _) | (simp [A5, A4, A1, A0]; done))) | ((with_reducible refine A8 145 ?_); (refine' CallP.sf ?_ (hd) ?_); (focus first | (with_reducible exact A0 _) | (simp [A5, A4, A1, A0]; done))) | (with_reducible first | exact AI | refine AQ ?_ | intro _g _hg | refine A9 ?_ ?_ | intro _hc) | omega)
        exact hJ (m - 1) _ (by omega) ⟨1, by omega, rfl, by rw [hE]; simp⟩
    · have h0' : ¬ (k : Int) = 0 := by omega
      cases bl <;> cases bd
      · repeat' (first | simp -implicitDefEqProofs [EC, EE, EH, EF, Ri, -getElem?_pos, hy, hk', h0'] | simp (disch := omega) only [AA] | ((with_reducible refine A8 144 ?_); (refine' CallP.sf ?_ (hl) ?_); (focus first | (with_reducible exact A0 _) | (simp [A5, A4, A1, A0]; done))) | ((with_reducible refine A8 145 ?_); (refine' CallP.sf ?_ (hd) ?_); (focus first | (with_reducible exact A0 _) | (simp [A5, A4, A1, A0]; done))) | (with_reducible first | exact AI | refine AQ ?_ | intro _g _hg | refine A9 ?_ ?_ | intro _hc) | omega)
        all_goals (refine Ab ?_; rw [hE]; simp)
      · repeat' (first | simp -implicitDefEqProofs [EC, EE, EH, EF, Ri, -getElem?_pos, hy, hk', h0'] | simp (disch := omega) only [AA] | ((with_reducible refine A8 144 ?_); (refine' CallP.sf ?_ (hl) ?_); (focus first | (with_reducible exact A0 _) | (simp [A5, A4, A1, A0]; done))) | ((with_reducible refine A8 145 ?_); (refine' CallP.sf ?_ (hd) ?_); (focus first | (with_reducible exact A0 _) | (simp [A5, A4, A1, A0]; done))) | (with_reducible first | exact AI | refine AQ ?_ | intro _g _hg | refine A9 ?_ ?_ | intro _hc) | omega)
        exact hJ (m - 1) _ (by omega) ⟨k + 1, by omega, rfl, by rw [hE]; simp [h0]⟩
      · repeat' (first | simp -implicitDefEqProofs [EC, EE, EH, EF, Ri, -getElem?_pos, hy, hk', h0'] | simp (disch := omega) only [AA] | ((with_reducible refine A8 144 ?_); (refine' CallP.sf ?_ (hl) ?_); (focus first | (with_reducible exact A0 _) | (simp [A5, A4, A1, A0]; done))) | ((with_reducible refine A8 145 ?_); (refine' CallP.sf ?_ (hd) ?_); (focus first | (with_reducible exact A0 _) | (simp [A5, A4, A1, A0]; done))) | (with_reducible first | exact AI | refine AQ ?_ | intro _g _hg | refine A9 ?_ ?_ | intro _hc) | omega)
        exact hJ (m - 1) _ (by omega) ⟨k + 1, by omega, rfl, by rw [hE]; simp⟩
      · repeat' (first | simp -implicitDefEqProofs [EC, EE, EH, EF, Ri, -getElem?_pos, hy, hk', h0'] | simp (disch := omega) only [AA] | ((with_reducible refine A8 144 ?_); (refine' CallP.sf ?_ (hl) ?_); (focus first | (with_reducible exact A0 _) | (simp [A5, A4, A1, A0]; done))) | ((with_reducible refine A8 145 ?_); (refine' CallP.sf ?_ (hd) ?_); (focus first | (with_reducible exact A0 _) | (simp [A5, A4, A1, A0]; done))) | (with_reducible first | exact AI | refine AQ ?_ | intro _g _hg | refine A9 ?_ ?_ | intro _hc) | omega)
        exact hJ (m - 1) _ (by omega) ⟨k + 1, by omega, rfl, by rw [hE]; simp⟩
  · have hk0 : k = s.length := by omega
    subst hk0
    have hk' : ¬ (s.length : Int) < s.length := by omega
    rw [List.drop_length] at hE
    simp only [Qf] at hE
    rw [hE]
    repeat' (first | simp -implicitDefEqProofs [EC, EE, EH, EF, Ri, -getElem?_pos, hk'] | simp (disch := omega) only [AA] | ((with_reducible refine A8 146 ?_); (refine' CallP.sf ?_ (hw) ?_); (focus first | (with_reducible exact A0 _) | (simp [A5, A4, A1, A0]; done))) | ((with_reducible refine A8 53 ?_); (refine' CallP.sf ?_ (hcon) ?_); (focus first | (with_reducible exact A0 _) | (simp [A5, A4, A1, A0]; done))) | (with_reducible first | exact AI | refine AQ ?_ | intro _g _hg | refine A9 ?_ ?_ | intro _hc) | omega)
    all_goals (refine Ab ?_; grind)
end Go.Proofs.YtnfjgphfaemjcaaGreatDoor
