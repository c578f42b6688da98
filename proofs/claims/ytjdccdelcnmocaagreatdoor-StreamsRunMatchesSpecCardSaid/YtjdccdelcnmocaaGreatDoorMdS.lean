/- Streams: the words ahead of the parts; no condition. -/
import Derived.Test.YtjdccdelcnmocaaGreatDoorMdR
import Derived.Test.YtjdccdelcnmocaaGreatDoorMdL
import Derived.Test.YtjdccdelcnmocaaGreatDoorMdM
import Derived.Test.YtjdccdelcnmocaaGreatDoorMdQ
import Derived.Test.YtjdccdelcnmocaaGreatDoorAdF
set_option linter.all false
namespace Go.Proofs.YtjdccdelcnmocaaGreatDoor
variable {t : Tok} {k n : Nat} {H : A1} {lo : Int}
def TokT (t : Tok) (k : Nat) (H : A1) (n : Nat) : Prop := match t with
 | .own g => H g = some (.row 9 k) ∧ g < n
 | .nil => k = 0
 | .ro => False
theorem TokT.at_ {k n n1 : Nat} {H H1 : A1} (h : TokT t k H n) (hH : ∀ g, Bt t g → H1 g = H g) (hn : n ≤ n1) : TokT t k H1 n1 := by
 match t, h with
 | .nil, h => exact h
 | .own g, h => exact ⟨(hH g rfl).trans h.1, by have := h.2; omega⟩
theorem TokT.lt (h : TokT t k H n) : ∀ g, Bt t g → g < n := by
 match t, h with
 | .nil, h => exact fun g hg => hg.elim
 | .own k, h => intro g hg; have e : g = k := hg; subst e; exact h.2
attribute [local simp] Ng FD FC Lc MV LI Ni FN FF HQ HO Lg MC Nq MZ Ny No NG NY LV LZ M0 MT Ly LJ Tq pe N9 Ld MD Lv N1 Nf Li O7 Mz N4 Mx Mc Ln FU O5 OC Lk Nt NR Na Mr Ma OD Mh LX NT LR Ms MX LN Np N0 Ls LH Lf Ey MY F4 LL Lo OA O0 M9 Nj M4 MF MA MG NF N7 Mt Mi Mo Lw Mq MQ MH Mj N8 Nv Nr Ns Nm FX M1 Nh Mw Lu Mk Md M8 NZ O8 NJ MJ MS Nd M2 Lp NA N5 Mn Lt NQ NX NN MI Nc NW LW NK Mf Mp Nu Ja Ll List.mem_cons guardK EE G9 GK HN LK F3 FL F8 FO FJ FG FQ FY Ez LF ME FV LM MP M7 Lh N3 MM F1 MW NL NV LG LU Lr HS FT FB FS FM Nn M5 FP LQ F9 Lj F6 FA Nz F5 F2 Lq My ND NU NH MB Lm OB Tt KK Ki Hc KI Ju K7 Eb Gt HA MN Gm Gu EZ ED Wm Jx Kn Gq Ji Js E5 Dd BZ B9 CA DW AA ev get put Fc AC EC Mb MK Lx O4 KL NP Eu part B8 HY N2 HB isNil DA DG Dz DK DH NO O6 OF NS M3 Ke LY Mu Nl MR OE Nk Nb LT Nw Mv AV.fits AV.cells ones AV.one EP Bw EN DX Fb Ev Mm Fy GE CW Bd CB F7 GI AP BD Xd HU N6 Me List.getElem?_cons_zero List.getElem?_cons_succ FW FH F0 NB NM NI HW Ml MO NE Lz ML M6 Mg MU Nx O9 LP
def stp (d : Int) (x : UInt8) : Int := d + (if x = 40 then 1 else 0) - (if x = 41 then 1 else 0)
theorem A2p {x : UInt8} (h : x ≠ 40) (k : x ≠ 41) (d : Int) : stp d x = d := by unfold stp; rw [if_neg h, if_neg k]; omega
def Z8 : R4 → R4 → Int → List R4 → Option (List R4 × Int)
 | [], cur, d, out => some (out ++ [cur], d)
 | x :: r, cur, d, out => if x = 44 ∧ d = 0 then Z8 r [] d (out ++ [cur])
  else if stp d x < 0 then none
  else Z8 r (cur ++ [x]) (stp d x) out
def Bal (lo : Int) (t : R4) : Prop := ∀ (r cur : R4) (d : Int) (out : List R4), lo ≤ d → Z8 (t ++ r) cur d out = Z8 r (cur ++ t) d out
theorem Bal.up {t : R4} (h : Bal 0 t) : Bal 1 t := fun r cur d out hd => h r cur d out (by omega)
theorem Bal.nil : Bal lo [] := fun r cur d out _ => by simp
theorem Bal.app {a b : R4} (h : Bal lo a) (k : Bal lo b) : Bal lo (a ++ b) := fun r cur d out hd => by rw [List.append_assoc, h _ _ _ _ hd, k _ _ _ _ hd, List.append_assoc]
theorem Bal.plain {lo : Int} (h0 : 0 ≤ lo) : ∀ {t : R4}, (∀ c ∈ t, c ≠ 40 ∧ c ≠ 41 ∧ c ≠ 44) → Bal lo t
 | [], _ => Bal.nil
 | x :: t, h => fun r cur d out hd => by
  obtain ⟨h1, h2, h3⟩ := h x List.mem_cons_self
  rw [List.cons_append, Z8, if_neg (fun e => h3 e.1), A2p h1 h2, if_neg (by omega), Bal.plain h0 (fun c hc => h c (List.mem_cons_of_mem _ hc)) _ _ _ _ (by omega)]
  simp
end Go.Proofs.YtjdccdelcnmocaaGreatDoor
