/- Streams: what stands ahead of the parts is read; no condition. -/
import Derived.Test.YtjdccdelcnmocaaGreatDoorMdQ
import Derived.Test.YtjdccdelcnmocaaGreatDoorMgJ
set_option linter.all false
namespace Go.Proofs.YtjdccdelcnmocaaGreatDoor
variable {H : A1} {n0 n1 : Nat} {w : AV} {ps : List St}
abbrev CV : AV := .sl 0 [] .nil
attribute [local simp] Ng FD FC Lc MV LI Ni FN FF HQ HO Lg MC Nq MZ Ny No NG NY LV LZ M0 MT Ly LJ Tq pe N9 Ld MD Lv N1 Nf Li O7 Mz N4 Mx Mc Ln FU O5 OC Lk Nt NR Na Mr Ma OD Mh LX NT LR Ms MX LN Np N0 Ls LH Lf Ey MY F4 LL Lo OA O0 M9 Nj M4 MF MA MG NF N7 Mt Mi Mo Lw Mq MQ MH Mj N8 Nv Nr Ns Nm FX M1 Nh Mw Lu Mk Md M8 NZ O8 NJ MJ MS Nd M2 Lp NA N5 Mn Lt NQ NX NN MI Nc NW LW NK Mf Mp Nu Ja Ll List.mem_cons guardK EE G9 GK HN LK F3 FL F8 FO FJ FG FQ FY Ez LF ME FV LM MP M7 Lh N3 MM F1 MW NL NV LG LU Lr HS FT FB FS FM Nn M5 FP LQ F9 Lj F6 FA Nz F5 F2 Lq My ND NU NH MB Lm OB Tt KK Ki Hc KI Ju K7 Eb Gt HA MN Gm Gu EZ ED Wm Jx Kn Gq Ji Js E5 Dd BZ B9 CA DW AA ev get put Fc AC EC Mb MK Lx O4 KL NP Eu part B8 HY N2 HB isNil DA DG Dz DK DH NO O6 OF NS M3 Ke LY Mu Nl MR OE Nk Nb LT Nw Mv AV.fits AV.cells ones AV.one EP Bw EN DX Fb Ev Mm Fy GE CW Bd CB F7 GI AP BD Xd HU N6 Me List.getElem?_cons_zero List.getElem?_cons_succ FW FH F0 NB NM NI HW Ml MO NE Lz ML M6 Mg MU Nx O9 LP
abbrev A4f (ps : List St) : AObj := .grow 25 (AM (AZ ps))
def PsB (H : A1) (n0 n1 : Nat) (w : AV) (ps : List St) : Prop := (ps = [] ∧ w = CV) ∨ ∃ gg, ps ≠ [] ∧ n0 ≤ gg ∧ gg < n1 ∧ w = .slg 5 gg ps.length ∧ H gg = some (A4f ps)
theorem PsB.one (h : PsB H n0 n1 w ps) : w.one = true ∧ w.fits none = true := by
 rcases h with ⟨_, rfl⟩ | ⟨gg, _, _, _, rfl, _⟩ <;> exact ⟨rfl, rfl⟩
theorem PsB.to {H H' : A1} {n0 n1 n0' n1' : Nat} (h : PsB H n0 n1 w ps) (h0 : n0' ≤ n0) (h1 : n1 ≤ n1') (hH : ∀ g, n0 ≤ g → g < n1 → H' g = H g) : PsB H' n0' n1' w ps := by
 rcases h with ⟨rfl, rfl⟩ | ⟨gg, a0, a1, a2, rfl, a3⟩
 ·exact .inl ⟨rfl, rfl⟩
 ·exact .inr ⟨gg, a0, by omega, by omega, rfl, by rw [hH gg a1 a2, a3]⟩
end Go.Proofs.YtjdccdelcnmocaaGreatDoor
