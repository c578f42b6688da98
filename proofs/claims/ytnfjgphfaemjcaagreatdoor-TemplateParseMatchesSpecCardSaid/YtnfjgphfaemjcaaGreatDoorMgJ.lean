/- strings.Builder on plain data; no condition. -/
import Derived.Test.YtnfjgphfaemjcaaGreatDoorMgI
import Derived.Test.YtnfjgphfaemjcaaGreatDoorAdE
import Derived.Defers
set_option linter.all false
set_option maxHeartbeats 1000000
namespace Go.Proofs.YtnfjgphfaemjcaaGreatDoor
def A66 (H : A3) (g o : Nat) (bs : List UInt8) : Prop :=
 ∃ T cs a0 v, H g = some (.cells T cs) ∧ cs[o]? = some a0 ∧ (a0 = .np ∨ a0 = .ptr g o) ∧ cs[o + 1]? = some v ∧ liesAt Tryz.prog Tryz.prog.depth T (cs.length / Tryz.prog.cellsOf T) o 86 1 = true ∧
  ((bs = [] ∧ ∃ z, v = .sl z [] .nil) ∨ bs ≠ [] ∧ ∃ g1, v = .sl 1 (bs.map fun u => .int .u8 u.toNat) (.own g1) ∧ H g1 = some (.row 5 bs.length) ∧ g1 ≠ g)
theorem Zm {cs : List AV} {o : Nat} (ho : o < cs.length) (x : AV) (i : Nat) : (splice cs o [x])[i]? = if i = o then some x else cs[i]? := by
 unfold splice
 simp only [List.length_singleton]
 have hmin : min o cs.length = o := by omega
 by_cases h1 : i < o
 ·rw [List.append_assoc, List.getElem?_append_left (by simp; omega), List.getElem?_take_of_lt h1, if_neg (by omega)]
 ·by_cases h2 : i = o
  ·subst h2
   rw [List.append_assoc, List.getElem?_append_right (by simp; omega)]
   simp [hmin]
  ·rw [if_neg h2, List.getElem?_append_right (by simp; omega)]
   simp only [List.length_append, List.length_take, List.length_singleton, List.getElem?_drop]
   congr 1
   omega
theorem TI (T g o n : Nat) (cs : List AV) (a0 : AV) (H : A3) (hg : H g = some (.cells T cs)) (ha : cs[o]? = some a0) (h0 : a0 = .np ∨ a0 = .ptr g o) (hl : liesAt Tryz.prog Tryz.prog.depth T (cs.length / Tryz.prog.cellsOf T) o 86 1 = true) :
  ACalls Tryz.prog 101 [.ptr g o] n H fun r n' H' => r = .tup [] ∧ n' = n ∧ H' = upd H g (some (.cells T (splice cs o [.ptr g o]))) := by
 refine AK Tryz.func101 A2z rfl fun hs => ?_
 have ho : o < cs.length := (List.getElem?_eq_some_iff.1 ha).1
 have hgn : g < n := by rcases Nat.lt_or_ge g n with h | h; exact h; rw [hs g h] at hg; cases hg
 have hsup : ∀ x, ∀ k, n ≤ k → upd H g (some x) k = none := fun x k hk => by rw [upd_ne (by omega)]; exact hs k hk
 rcases h0 with rfl | rfl
 ·simp -implicitDefEqProofs [A38, KJ, EJ, EI, KX, LT, Lg, L9, EG, ED, Fy, GP, LK, KU, Kz, Ji, KH, J5, J7, J9, LA, LF, Ki, Li, Kq, KB, Qt, pe, Jv, Kn, Jl, Kx, Kb, Jz, LM, K0, KZ, KP, Jr, Jo, L0, FN, Np, Od, OB, Nv, Nq, OI, ON, OA, Nt, O0, Oj, Ns, Of, O9, Nr, Ny, O1, OQ, OW, OK, No, FX, O6, FL, OT, Og, Nj, NP, NS, Nn, Nu, OF, NZ, NY, NN, Oc, O4, OM, NU, NV, Ot, NX, Oe, O5, Om, OC, NQ, NW, Nx, Fr, Na, OH, OP, Ok, Oi, Nk, OR, O2, On, OS, Nc, OG, Ol, OU, Ob, NM, Oa, NT, Nz, K8, K2, LL, KG, Kg, Jm, Ju, Kk, K6, L6, LE, IS, Jc, List.mem_cons, guardK, Dl, Ed, Er, GX, Nd, Fh, FO, Fp, FY, FP, FM, FJ, Fs, Fg, Nl, OV, FV, Kf, Oq, OZ, OE, Nb, Nw, Fd, LX, OX, Nf, Jw, La, OD, I9, Fq, FT, Fn, FZ, Ng, Ni, FQ, OJ, FW, LN, Fw, Fe, KV, Fm, Ft, Nh, O8, Oo, KF, OL, Nm, KI, Jh, Sg, JD, JH, H9, JE, JI, JA, Dx, G0, Fz, L8, G4, G3, E0, Dn, UK, JM, JK, G5, JJ, JN, Ds, DY, BN, BR, C0, DZ, DI, ev, get, put, EW, AD, D9, KY, KN, LV, Jx, JB, Kh, EO, part, Ap, Gz, L1, Gc, isNil, Cu, D4, Da, D8, CE, Lc, LW, LO, K7, L2, J6, Jq, Lf, Jf, KD, L3, LZ, Lh, Jp, LI, LQ, AV.fits, AV.cells, ones, AV.one, E5, Bp, E7, DQ, EV, EN, KE, FA, Fo, CH, BS, Cw, G7, E3, AN, B6, VJ, GL, Lj, Ke, List.getElem?_cons_zero, List.getElem?_cons_succ, Fa, FR, Ff, KR, Kj, Ku, Gt, LH, L4, LS, LG, LD, Jt, KQ, O3, KK, Ja, KL, Ky, LY, Ko, Je, LB, Ks, Kv, KO, Kp, KT, L5, K5, Kw, LJ, Km, LU, Jy, E6, -getElem?_pos, hg, ha, hl, ho]
  exact ⟨by omega, .tup [], n, _, ⟨_, rfl, A1 _⟩, Nat.le_refl _, Nat.le_refl _, hsup _, SameB.rfl_ _ _, rfl, rfl, rfl⟩
 ·simp -implicitDefEqProofs [A38, Vx, KJ, EJ, EI, KX, LT, Lg, L9, EG, ED, Fy, GP, LK, KU, Kz, Ji, KH, J5, J7, J9, LA, LF, Ki, Li, Kq, KB, Qt, pe, Jv, Kn, Jl, Kx, Kb, Jz, LM, K0, KZ, KP, Jr, Jo, L0, FN, Np, Od, OB, Nv, Nq, OI, ON, OA, Nt, O0, Oj, Ns, Of, O9, Nr, Ny, O1, OQ, OW, OK, No, FX, O6, FL, OT, Og, Nj, NP, NS, Nn, Nu, OF, NZ, NY, NN, Oc, O4, OM, NU, NV, Ot, NX, Oe, O5, Om, OC, NQ, NW, Nx, Fr, Na, OH, OP, Ok, Oi, Nk, OR, O2, On, OS, Nc, OG, Ol, OU, Ob, NM, Oa, NT, Nz, K8, K2, LL, KG, Kg, Jm, Ju, Kk, K6, L6, LE, IS, Jc, List.mem_cons, guardK, Dl, Ed, Er, GX, Nd, Fh, FO, Fp, FY, FP, FM, FJ, Fs, Fg, Nl, OV, FV, Kf, Oq, OZ, OE, Nb, Nw, Fd, LX, OX, Nf, Jw, La, OD, I9, Fq, FT, Fn, FZ, Ng, Ni, FQ, OJ, FW, LN, Fw, Fe, KV, Fm, Ft, Nh, O8, Oo, KF, OL, Nm, KI, Jh, Sg, JD, JH, H9, JE, JI, JA, Dx, G0, Fz, L8, G4, G3, E0, Dn, UK, JM, JK, G5, JJ, JN, Ds, DY, BN, BR, C0, DZ, DI, ev, get, put, EW, AD, D9, KY, KN, LV, Jx, JB, Kh, EO, part, Ap, Gz, L1, Gc, isNil, Cu, D4, Da, D8, CE, Lc, LW, LO, K7, L2, J6, Jq, Lf, Jf, KD, L3, LZ, Lh, Jp, LI, LQ, AV.fits, AV.cells, ones, AV.one, E5, Bp, E7, DQ, EV, EN, KE, FA, Fo, CH, BS, Cw, G7, E3, AN, B6, VJ, GL, Lj, Ke, List.getElem?_cons_zero, List.getElem?_cons_succ, Fa, FR, Ff, KR, Kj, Ku, Gt, LH, L4, LS, LG, LD, Jt, KQ, O3, KK, Ja, KL, Ky, LY, Ko, Je, LB, Ks, Kv, KO, Kp, KT, L5, K5, Kw, LJ, Km, LU, Jy, E6, -getElem?_pos, hg, ha, hl, ho]
  have hsame : upd H g (some (.cells T (splice cs o [.ptr g o]))) = H := by
   have h1 : splice cs o [.ptr g o] = cs := by
    apply List.ext_getElem?
    intro i
    rw [Zm ho]
    split
    ·rename_i hi; subst hi; exact ha.symm
    ·rfl
   rw [h1]; funext k; simp only [upd]; split
   ·rename_i hk; subst hk; exact hg.symm
   ·rfl
  refine ⟨.tup [], n, _, ⟨_, rfl, A1 _⟩, Nat.le_refl _, Nat.le_refl _, hsup _, ?_, rfl, rfl, rfl⟩
  rw [hsame]; exact A6c
theorem Tu (g o n : Nat) (bs : List UInt8) (H : A3) (hb : A66 H g o bs) (hlen : bs.length ≤ 1000000000) : ACalls Tryz.prog 47 [.ptr g o] n H fun r n' H' => r = .str bs ∧ n' = n ∧ H' = H := by
 obtain ⟨T, cs, a0, v, hg, ha, h0, hv, hl, hbuf⟩ := hb
 refine AK Tryz.func47 A5g rfl fun hs => ?_
 rcases hbuf with ⟨rfl, z, rfl⟩ | ⟨hbs, g2, rfl, hrow, hne⟩
 ·have hb0 : 0 ≤ KA := Nat.zero_le _
  simp -implicitDefEqProofs [c47, KJ, EJ, EI, KX, LT, Lg, L9, EG, ED, Fy, GP, LK, KU, Kz, Ji, KH, J5, J7, J9, LA, LF, Ki, Li, Kq, KB, Qt, pe, Jv, Kn, Jl, Kx, Kb, Jz, LM, K0, KZ, KP, Jr, Jo, L0, FN, Np, Od, OB, Nv, Nq, OI, ON, OA, Nt, O0, Oj, Ns, Of, O9, Nr, Ny, O1, OQ, OW, OK, No, FX, O6, FL, OT, Og, Nj, NP, NS, Nn, Nu, OF, NZ, NY, NN, Oc, O4, OM, NU, NV, Ot, NX, Oe, O5, Om, OC, NQ, NW, Nx, Fr, Na, OH, OP, Ok, Oi, Nk, OR, O2, On, OS, Nc, OG, Ol, OU, Ob, NM, Oa, NT, Nz, K8, K2, LL, KG, Kg, Jm, Ju, Kk, K6, L6, LE, IS, Jc, List.mem_cons, guardK, Dl, Ed, Er, GX, Nd, Fh, FO, Fp, FY, FP, FM, FJ, Fs, Fg, Nl, OV, FV, Kf, Oq, OZ, OE, Nb, Nw, Fd, LX, OX, Nf, Jw, La, OD, I9, Fq, FT, Fn, FZ, Ng, Ni, FQ, OJ, FW, LN, Fw, Fe, KV, Fm, Ft, Nh, O8, Oo, KF, OL, Nm, KI, Jh, Sg, JD, JH, H9, JE, JI, JA, Dx, G0, Fz, L8, G4, G3, E0, Dn, UK, JM, JK, G5, JJ, JN, Ds, DY, BN, BR, C0, DZ, DI, ev, get, put, EW, AD, D9, KY, KN, LV, Jx, JB, Kh, EO, part, Ap, Gz, L1, Gc, isNil, Cu, D4, Da, D8, CE, Lc, LW, LO, K7, L2, J6, Jq, Lf, Jf, KD, L3, LZ, Lh, Jp, LI, LQ, AV.fits, AV.cells, ones, AV.one, E5, Bp, E7, DQ, EV, EN, KE, FA, Fo, CH, BS, Cw, G7, E3, AN, B6, VJ, GL, Lj, Ke, List.getElem?_cons_zero, List.getElem?_cons_succ, Fa, FR, Ff, KR, Kj, Ku, Gt, LH, L4, LS, LG, LD, Jt, KQ, O3, KK, Ja, KL, Ky, LY, Ko, Je, LB, Ks, Kv, KO, Kp, KT, L5, K5, Kw, LJ, Km, LU, Jy, E6, -getElem?_pos, hg, hv, bytesOf]
  exact ⟨_, n, H, ⟨_, rfl, A1 _⟩, Nat.le_refl _, Nat.le_refl _, hs, SameB.rfl_ _ _, rfl, rfl, rfl⟩
 ·cases bs with
  | nil => exact absurd rfl hbs
  | cons b bs =>
   have hlen2 : bs.length + 1 ≤ KA := by simp at hlen; unfold KA; omega
   have hby := bytesOf_map (b :: bs)
   have hok := Yj (b :: bs)
   simp only [List.map_cons] at hby hok
   simp -implicitDefEqProofs [c47, KJ, EJ, EI, KX, LT, Lg, L9, EG, ED, Fy, GP, LK, KU, Kz, Ji, KH, J5, J7, J9, LA, LF, Ki, Li, Kq, KB, Qt, pe, Jv, Kn, Jl, Kx, Kb, Jz, LM, K0, KZ, KP, Jr, Jo, L0, FN, Np, Od, OB, Nv, Nq, OI, ON, OA, Nt, O0, Oj, Ns, Of, O9, Nr, Ny, O1, OQ, OW, OK, No, FX, O6, FL, OT, Og, Nj, NP, NS, Nn, Nu, OF, NZ, NY, NN, Oc, O4, OM, NU, NV, Ot, NX, Oe, O5, Om, OC, NQ, NW, Nx, Fr, Na, OH, OP, Ok, Oi, Nk, OR, O2, On, OS, Nc, OG, Ol, OU, Ob, NM, Oa, NT, Nz, K8, K2, LL, KG, Kg, Jm, Ju, Kk, K6, L6, LE, IS, Jc, List.mem_cons, guardK, Dl, Ed, Er, GX, Nd, Fh, FO, Fp, FY, FP, FM, FJ, Fs, Fg, Nl, OV, FV, Kf, Oq, OZ, OE, Nb, Nw, Fd, LX, OX, Nf, Jw, La, OD, I9, Fq, FT, Fn, FZ, Ng, Ni, FQ, OJ, FW, LN, Fw, Fe, KV, Fm, Ft, Nh, O8, Oo, KF, OL, Nm, KI, Jh, Sg, JD, JH, H9, JE, JI, JA, Dx, G0, Fz, L8, G4, G3, E0, Dn, UK, JM, JK, G5, JJ, JN, Ds, DY, BN, BR, C0, DZ, DI, ev, get, put, EW, AD, D9, KY, KN, LV, Jx, JB, Kh, EO, part, Ap, Gz, L1, Gc, isNil, Cu, D4, Da, D8, CE, Lc, LW, LO, K7, L2, J6, Jq, Lf, Jf, KD, L3, LZ, Lh, Jp, LI, LQ, AV.fits, AV.cells, ones, AV.one, E5, Bp, E7, DQ, EV, EN, KE, FA, Fo, CH, BS, Cw, G7, E3, AN, B6, VJ, GL, Lj, Ke, List.getElem?_cons_zero, List.getElem?_cons_succ, Fa, FR, Ff, KR, Kj, Ku, Gt, LH, L4, LS, LG, LD, Jt, KQ, O3, KK, Ja, KL, Ky, LY, Ko, Je, LB, Ks, Kv, KO, Kp, KT, L5, K5, Kw, LJ, Km, LU, Jy, E6, -getElem?_pos, hg, hv, hrow, hby, hok, -List.all_cons, hlen2]
   exact ⟨_, n, H, ⟨_, rfl, A1 _⟩, Nat.le_refl _, Nat.le_refl _, hs, SameB.rfl_ _ _, rfl, rfl, rfl⟩
def APureAt (P : Program) (f : Nat) (args : List AV) (n : Nat) (H : A3) (v : AV) : Prop := ACalls P f args n H fun r n' H' => r = v ∧ n' = n ∧ H' = H
section
variable {P : Program} {f : Nat} {n : Nat} {H : A3} {v : AV}
theorem APure.at_ {args : List AV} (h : APure P f args v) (n : Nat) (H : A3) : APureAt P f args n H v := h n H
theorem APureAt.sim {args args' : List AV} (h : APureAt P f args' n H v) (hs : A5 args args') : APureAt P f args n H v := ACalls.sim h hs
theorem CallK.chk {args : List AV} {d : Option Nat} {K : AS → Prop} {s : AS} (h : CallK P f args d K s) : CallK P f args d K s := h
theorem CallK.ofAt {args args' : List AV} {d : Option Nat} {K : AS → Prop} {e : AH} (h : APureAt P f args' n H v) (hs : A5 args args') (hk : K ⟨AD e d v, n, H⟩) : CallK P f args d K ⟨e, n, H⟩ :=
 ⟨_, h.sim hs, fun r n' H' _ _ ⟨e1, e2, e3⟩ => by subst e1; subst e2; subst e3; exact hk⟩
theorem CallK.sfAt {args args' : List AV} {d : Option Nat} {K : AS → Prop} {e : AH} (hs : A5 args args') (h : APureAt P f args' n H v) (hk : K ⟨AD e d v, n, H⟩) : CallK P f args d K ⟨e, n, H⟩ := CallK.ofAt h hs hk
end
theorem PZ : ∀ {b : List UInt8} {m : List AV}, A5 (Co b) m → m = Co b
 | [], m, h => by simpa [Co, A5] using h
 | c :: cs, m, h => by
  obtain ⟨y, ys, rfl, h1, h2⟩ := h
  have h3 := PZ (b := cs) h2
  have h4 : y = .int .u8 c.toNat := by simpa [A4] using h1
  rw [h3, h4]; rfl
section
variable {n0 n : Nat} {H0 H : A3} {bs : List (Nat × AObj)} {os : List OwnR}
theorem Owns.appB {el by_ : Nat} {d : Option Nat} {e : AH} {K : AS → Prop} {x : AV} {l : List AV} {b : List UInt8} (h : Owns n0 H0 bs (⟨el, 1, x, l⟩ :: os) n H) (hb : (l.length + b.length) * by_ ≤ 140737488355328) (hc : l.length + b.length ≤ maxLen)
  (hk : ∀ x' n' H', n ≤ n' → Owns n0 H0 bs (⟨el, 1, x', l ++ Co b⟩ :: os) n' H' → K ⟨AD e d x', n', H'⟩) : QF el by_ d K ⟨e, n, H⟩ x (.str b) := by
 have hl : (Co b).length = b.length := by simp [Co]
 have h1 := h.app (z := 1) (m := Co b) (m' := Co b) (t := .ro) (d := d) (e := e) (K := K) (by_ := by_) (.inl rfl) (A0 _) (by rw [hl]; exact hb) (by rw [hl]; exact hc) (fun x' n' H' hle hO _ => hk x' n' H' hle hO)
 obtain ⟨_, m', hs, h2⟩ := h1
 rw [PZ hs] at h2
 exact h2
theorem Owns.relist {el sz : Nat} {x : AV} {l l' : List AV} (h : Owns n0 H0 bs (⟨el, sz, x, l⟩ :: os) n H) (e : l' = l) : Owns n0 H0 bs (⟨el, sz, x, l'⟩ :: os) n H := e ▸ h
abbrev bOb (a0 xb : AV) : AObj := .cells 86 [a0, xb]
abbrev Zr (xb : AV) (b : List UInt8) : OwnR := ⟨5, 1, xb, Co b⟩
theorem A1e : liesAt Tryz.prog Tryz.prog.depth 86 (2 / Tryz.prog.cellsOf 86) 0 86 1 = true := by kernel_rfl
theorem Uo (b c : List UInt8) : Co (b ++ c) = Co b ++ Co c := by simp [Co]
theorem MQ (b : List UInt8) : (Co b).length = b.length := by simp [Co]
theorem QZ {g : Nat} {a0 xb : AV} {b : List UInt8} (c : List UInt8) (h : Owns n0 H0 ((g, bOb a0 xb) :: bs) (Zr xb b :: os) n H) (ha : a0 = .np ∨ a0 = .ptr g 0) (hne : ∀ x ∈ bs, x.1 ≠ g) (hlen : b.length + c.length ≤ 1000000000000) :
  ACalls Tryz.prog 62 [.ptr g 0, .str c] n H fun r n' H' => r = .tup [.int .i64 c.length, .nif] ∧ n ≤ n' ∧ ∃ xb', Owns n0 H0 ((g, bOb (.ptr g 0) xb') :: bs) (Zr xb' (b ++ c) :: os) n' H' := by
 refine AK Tryz.func62 A5q rfl fun hs => ?_
 obtain ⟨hg, hg0, -⟩ := h.box _ List.mem_cons_self
 have hgn := h.mem.lt hg
 simp -implicitDefEqProofs [c62, KJ, EJ, EI, KX, LT, Lg, L9, EG, ED, Fy, GP, LK, KU, Kz, Ji, KH, J5, J7, J9, LA, LF, Ki, Li, Kq, KB, Qt, pe, Jv, Kn, Jl, Kx, Kb, Jz, LM, K0, KZ, KP, Jr, Jo, L0, K8, K2, LL, KG, Kg, Jm, Ju, Kk, K6, L6, LE, IS, Jc, List.mem_cons, guardK, Dl, Ed, Er, GX, Kf, LX, Jw, La, LN, KV, KF, KI, Jh, Sg, JD, JH, H9, JE, JI, JA, Dx, G0, Fz, L8, G4, G3, E0, Dn, UK, JM, JK, G5, JJ, JN, Ds, DY, BN, BR, C0, DZ, DI, ev, get, put, EW, AD, D9, KY, KN, LV, Jx, JB, Kh, EO, part, Ap, Gz, L1, Gc, isNil, Cu, D4, Da, D8, CE, Lc, LW, LO, K7, L2, J6, Jq, Lf, Jf, KD, L3, LZ, Lh, Jp, LI, LQ, AV.fits, AV.cells, ones, AV.one, E5, Bp, E7, DQ, EV, EN, KE, FA, Fo, CH, BS, Cw, G7, E3, AN, B6, VJ, GL, Lj, Ke, List.getElem?_cons_zero, List.getElem?_cons_succ, KR, Kj, Ku, Gt, LH, L4, LS, LG, LD, Jt, KQ, KK, Ja, KL, Ky, LY, Ko, Je, LB, Ks, Kv, KO, Kp, KT, L5, K5, Kw, LJ, Km, LU, Jy, E6, -getElem?_pos]
 refine ⟨_, TI 86 g 0 n [a0, xb] a0 H hg rfl ha A1e, ?_⟩
 rintro r n' H' hn hs' ⟨rfl, rfl, rfl⟩
 have hO1 := h.set0 hne 86 [.ptr g 0, xb]
 simp -implicitDefEqProofs [KJ, EJ, EI, KX, LT, Lg, L9, EG, ED, Fy, GP, LK, KU, Kz, Ji, KH, J5, J7, J9, LA, LF, Ki, Li, Kq, KB, Qt, pe, Jv, Kn, Jl, Kx, Kb, Jz, LM, K0, KZ, KP, Jr, Jo, L0, K8, K2, LL, KG, Kg, Jm, Ju, Kk, K6, L6, LE, IS, Jc, List.mem_cons, guardK, Dl, Ed, Er, GX, Kf, LX, Jw, La, LN, KV, KF, KI, Jh, Sg, JD, JH, H9, JE, JI, JA, Dx, G0, Fz, L8, G4, G3, E0, Dn, UK, JM, JK, G5, JJ, JN, Ds, DY, BN, BR, C0, DZ, DI, ev, get, put, EW, AD, D9, KY, KN, LV, Jx, JB, Kh, EO, part, Ap, Gz, L1, Gc, isNil, Cu, D4, Da, D8, CE, Lc, LW, LO, K7, L2, J6, Jq, Lf, Jf, KD, L3, LZ, Lh, Jp, LI, LQ, AV.fits, AV.cells, ones, AV.one, E5, Bp, E7, DQ, EV, EN, KE, FA, Fo, CH, BS, Cw, G7, E3, AN, B6, VJ, GL, Lj, Ke, List.getElem?_cons_zero, List.getElem?_cons_succ, KR, Kj, Ku, Gt, LH, L4, LS, LG, LD, Jt, KQ, KK, Ja, KL, Ky, LY, Ko, Je, LB, Ks, Kv, KO, Kp, KT, L5, K5, Kw, LJ, Km, LU, Jy, E6, -getElem?_pos, splice]
 refine hO1.appB (by rw [MQ]; omega) (by rw [MQ]; simp [maxLen]; omega) fun x' n2 H2 hle hO3 => ?_
 have hg3 := (hO3.box _ List.mem_cons_self).1
 simp only at hg3
 obtain ⟨z, t, hx, -⟩ := hO3.len0
 simp only at hx
 subst hx
 simp -implicitDefEqProofs [KJ, EJ, EI, KX, LT, Lg, L9, EG, ED, Fy, GP, LK, KU, Kz, Ji, KH, J5, J7, J9, LA, LF, Ki, Li, Kq, KB, Qt, pe, Jv, Kn, Jl, Kx, Kb, Jz, LM, K0, KZ, KP, Jr, Jo, L0, K8, K2, LL, KG, Kg, Jm, Ju, Kk, K6, L6, LE, IS, Jc, List.mem_cons, guardK, Dl, Ed, Er, GX, Kf, LX, Jw, La, LN, KV, KF, KI, Jh, Sg, JD, JH, H9, JE, JI, JA, Dx, G0, Fz, L8, G4, G3, E0, Dn, UK, JM, JK, G5, JJ, JN, Ds, DY, BN, BR, C0, DZ, DI, ev, get, put, EW, AD, D9, KY, KN, LV, Jx, JB, Kh, EO, part, Ap, Gz, L1, Gc, isNil, Cu, D4, Da, D8, CE, Lc, LW, LO, K7, L2, J6, Jq, Lf, Jf, KD, L3, LZ, Lh, Jp, LI, LQ, AV.fits, AV.cells, ones, AV.one, E5, Bp, E7, DQ, EV, EN, KE, FA, Fo, CH, BS, Cw, G7, E3, AN, B6, VJ, GL, Lj, Ke, List.getElem?_cons_zero, List.getElem?_cons_succ, KR, Kj, Ku, Gt, LH, L4, LS, LG, LD, Jt, KQ, KK, Ja, KL, Ky, LY, Ko, Je, LB, Ks, Kv, KO, Kp, KT, L5, K5, Kw, LJ, Km, LU, Jy, E6, -getElem?_pos, hg3, splice]
 have hO4 := hO3.set0 hne 86 [.ptr g 0, .sl z (Co b ++ Co c) t]
 exact Bi rfl (by omega) hO4.mem.sup ⟨rfl, by omega, _, hO4.relist (Uo b c)⟩
theorem Ts {g : Nat} {a0 xb : AV} {b : List UInt8} (h : Owns n0 H0 ((g, bOb a0 xb) :: bs) (Zr xb b :: os) n H) (ha : a0 = .np ∨ a0 = .ptr g 0) (hb0 : b = [] → ∃ z, xb = .sl z [] .nil) (hlen : b.length ≤ 1000000000) :
  APureAt Tryz.prog 47 [.ptr g 0] n H (.str b) := by
 have hg := (h.box _ List.mem_cons_self).1
 simp only at hg
 refine Tu g 0 n b H ⟨86, [a0, xb], a0, xb, hg, rfl, ha, rfl, A1e, ?_⟩ hlen
 by_cases hb : b = []
 ·exact .inl ⟨hb, hb0 hb⟩
 ·refine .inr ⟨hb, ?_⟩
  rcases h.row _ List.mem_cons_self with ⟨h1, _⟩ | ⟨g1, h1, h2, h3⟩
  ·exact absurd (by simpa [Co] using h1) hb
  ·refine ⟨g1, h1, by rw [h2, MQ], fun e => ?_⟩
   subst e; rw [hg] at h2; cases h2
end
open Go.RowKit
def A1f (P : Program) (f : Nat) (args : List AV) (n : Nat) (H : A3) (R : Nat → A3 → Prop) : Prop :=
 (∀ g, n ≤ g → H g = none) → ∀ (w0 : World) (G : Gh) (w : World) (vs : List Value) (u : FrameMode), Laid w0 → Rel0 P w0 G n H w → RepL G vs args →
  CallsD P f vs.toArray u w fun e u' w' => u' = u ∧ ∃ (v : Value) (G' : Gh) (n' : Nat) (H' : A3), e = .returned v ∧ R n' H' ∧ G.Le G' ∧ n ≤ n' ∧ Rel0 P w0 G' n' H' w'
section
variable {P : Program} {ef : List Nat}
theorem T3 {f : Nat} {fn : Func} {c : AFun} {args : List AV} {n : Nat} {H : A3} {R : Nat → A3 → Prop} (hf : P.funcs[f]? = some fn)
  (hc : (O7 P ef fn).map (fun x => (x.nargs, x.nt, x.res, x.code)) = some (c.nargs, c.nt, c.res, bare c.code)) (ha : args.length = c.nargs)
  (h : (∀ g, n ≤ g → H g = none) → aw P c.code (fin (fun _ n' H' => R n' H') n c.res) ⟨E3 args, n, H⟩) : A1f P f args n H R := by
 intro hs w0 G w vs u hld h0 hrep
 obtain ⟨code, hb, hw⟩ := A1q hc ha h hs hld h0 hrep
 refine (callsD_of_wp hf hb hw).mono ?_
 rintro e u' w' ⟨rfl, v, r, G', n', H', h1, h2, h3, h4, h5, h6⟩
 exact ⟨rfl, v, G', n', H', h1, h2, h4, h5, h6⟩
def Za (P : Program) (args : List AV) (K : Nat → A3 → Prop) (n : Nat) (H : A3) : AV → Prop
 | .fn f a b => Ec P f = true ∧ ∃ R, A1f P f (a ++ args ++ b) n H R ∧ ∀ n' H', n ≤ n' → (∀ g, n' ≤ g → H' g = none) → R n' H' → K n' H'
 | _ => False
def Zf (P : Program) (fv : AV) (args : List AV) (Q : AExit → AS → Prop) : AExit → AS → Prop
 | .exit _, _ => False
 | _, s => Za P args (fun n' H' => Q .ret ⟨s.e, n', H'⟩) s.n s.H fv
def Tq : ACode → Option (List AOper × Opd × List Opd)
 | .reg os => match os.getLast? with
  | some ⟨none, .dfr x xs, none⟩ => some (os.dropLast, x, xs)
  | _ => none
 | _ => none
def XO (P : Program) : ACode → (AExit → AS → Prop) → AS → Prop
 | .seq a b, Q, s => match Tq a with
  | some (pre, x, xs) => awOps P pre (fun s1 => (∃ f u v, ev s1.e x = .fn f u v) ∧ aw P b (Zf P (ev s1.e x) (xs.map (ev s1.e)) Q) s1) s
  | none => aw P a (Ef (XO P b Q) Q) s
 | .kp ks c, Q, s => XO P c Q ⟨D9 s.e ks, s.n, s.H⟩
 | c, Q, s => aw P c Q s
section
variable {nt : Nat} {w0 : World}
def DfrIs (G : Gh) (d : Deferred) : AV → List AV → Prop
 | .fn f a b, xs => ∃ (va vx vb : List Value), RepL G va a ∧ RepL G vx xs ∧ RepL G vb b ∧ d = { target := .fn (.func f) vb.toArray, args := va.toArray ++ vx.toArray }
 | _, _ => False
theorem DfrIs.mono {G G' : Gh} {d : Deferred} {fv : AV} {xs : List AV} (h : DfrIs G d fv xs) (hl : G.Le G') : DfrIs G' d fv xs := by
 unfold DfrIs at h ⊢
 split at h
 ·obtain ⟨va, vx, vb, h1, h2, h3, h4⟩ := h
  exact ⟨va, vx, vb, h1.mono hl, h2.mono hl, h3.mono hl, h4⟩
 ·exact h
theorem Yz {a : ACode} {pre : List AOper} {x : Opd} {xs : List Opd} (h : Tq a = some (pre, x, xs)) : a = .reg (pre ++ [⟨none, .dfr x xs, none⟩]) := by
 unfold Tq at h
 split at h
 ·rename_i os
  split at h
  ·rename_i x' xs' hl
   injection h with h; injection h with e1 e2; injection e2 with e2 e3
   subst e1; subst e2; subst e3
   obtain ⟨ys, he⟩ := List.getLast?_eq_some_iff.1 hl
   subst he; simp
  ·cases h
 ·cases h
theorem Pf {ds : List Deferred} {aos : List AOper} {K : AS → Prop} {ops : Array Oper} {Q : Exit → Act → World → Prop} {m : Nat} (hc : Dz P ef ops nt ops.toList = some aos) : ∀ (l : List Nat) {G : Gh} {s : AS} {a : Act} {w : World}, (∀ i ∈ l, i < ops.size) → RelS P w0 nt ds G s a w → awOps P (l.map (UJ aos)) K s →
  (∀ a' w', After P w0 nt ds G K a' w' → wpOps P ops Q [m] a' w') → wpOps P ops Q (l ++ [m]) a w
 | [], G, s, a, w, _, hr, h, hq => hq a w ⟨G, s, h, Gh.Le.rfl_ G, hr⟩
 | i :: l, G, s, a, w, hl, hr, h, hq => by
  have hi : i < ops.size := hl i List.mem_cons_self
  obtain ⟨ao, e1, e2⟩ := GH hc (i := i) (o := ops[i]) (by simp [hi])
  have hat : UJ aos i = ao := by simp [UJ, List.getD, e1]
  rw [List.cons_append, wpOps_cons]
  simp only [List.map_cons, hat] at h
  refine Rt (by simp [hi]) e2 hr h fun a' w' ⟨G1, s1, h1, h2, h3⟩ => ?_
  exact Pf hc l (fun j hj => hl j (List.mem_cons_of_mem _ hj)) h3 h1 fun a2 w2 h4 => hq a2 w2 (h4.weak h2)
theorem Zc {op : Op} {x : Opd} {xs : List Opd} (h : cOp P ef op = some (.dfr x xs)) : ∃ c t, op = .defer c ∧ c.callee = .value (.tmp t) ∧ x = .t t ∧ Qb c.args.toList = some xs := by
 unfold cOp at h
 split at h
 case h_27 c =>
  split at h
  ·rename_i t ht
   obtain ⟨ys, h1, h2⟩ := Option.map_eq_some_iff.1 h
   injection h2 with e1 e2
   subst e1; subst e2
   exact ⟨_, t, rfl, ht, rfl, h1⟩
  ·cases h
 all_goals first
  | (cases h; done)
  | (exfalso; (try unfold Vg at h); (try unfold Hi at h); (try unfold SS at h); (repeat' split at h) <;> first | (cases h; done) | (obtain ⟨_, _, e⟩ := Option.map_eq_some_iff.1 h; cases e; done) | skip)
theorem A0o {G : Gh} {s : AS} {a : Act} {w : World} {o : Oper} {x : Opd} {xs : List Opd} (hr : RelS P w0 nt [] G s a w) (hc : cOp P ef o.op = some (.dfr x xs)) (hx : ∃ f u v, ev s.e x = .fn f u v) :
  ∃ d, (execOp a.eval o).run P w = .ok (.defer d) w ∧ DfrIs G d (ev s.e x) (xs.map (ev s.e)) := by
 obtain ⟨c, t, hop, hcal, rfl, hxs⟩ := Zc hc
 have ht := hr.tm
 obtain ⟨f, u, v, hev⟩ := hx
 have hrep := Hh (G := G) (a := a) (e := s.e) hxs ht
 have hfr := ht t
 have hev' : get s.e t = .fn f u v := hev
 rw [hev'] at hfr
 generalize hfv : a.tmps.getD t undef = fv at hfr
 cases hfr with
 | fn h1 h2 =>
  rename_i va vb
  refine ⟨{ target := .fn (.func f) vb.toArray, args := va.toArray ++ (c.args.map a.eval) }, ?_, ?_⟩
  ·simp only [execOp, hop, resolve, hcal, Act.eval, hfv, Deferred.ofValue, Sem.run_bind, Sem.run_pure, Result.andThen_ok]
  ·rw [hev]
   exact ⟨va, _, vb, h1, hrep, h2, by rw [← Array.toList_map]⟩
theorem Un {id : Nat} {ops : Array Oper} {pre : List AOper} {x : Opd} {xs : List Opd} {K : AS → Prop} {Q : Exit → Act → World → Prop} {G : Gh} {s : AS} {a : Act} {w : World} (hc : Dz P ef ops nt ops.toList = some (pre ++ [⟨none, .dfr x xs, none⟩])) (hr : RelS P w0 nt [] G s a w)
  (h : awOps P pre (fun s1 => (∃ f u v, ev s1.e x = .fn f u v) ∧ K s1) s) (hq : ∀ G' s' a' w' d, K s' → G.Le G' → RelS P w0 nt [d] G' s' a' w' → DfrIs G' d (ev s'.e x) (xs.map (ev s'.e)) → Q .normal a' w') : (Code.region id ops false).wp P Q a w := by
 have hlen := I3 hc
 rw [List.length_append, List.length_singleton] at hlen
 have hlen : ops.size = pre.length + 1 := by simpa using hlen.symm
 refine wp_region ?_
 rw [hlen, List.range_succ]
 refine Pf hc (List.range pre.length) (fun i hi => by simp at hi; omega) hr (K := fun s1 => (∃ f u v, ev s1.e x = .fn f u v) ∧ K s1) ?_ ?_
 ·have : (List.range pre.length).map (UJ (pre ++ [⟨none, .dfr x xs, none⟩])) = pre := by
   have h1 := Gr (pre ++ [⟨none, .dfr x xs, none⟩])
   rw [List.length_append, List.length_singleton, List.range_succ, List.map_append] at h1
   exact (List.append_inj' h1 (by simp)).1
  rw [this]; exact h
 ·rintro a1 w1 ⟨G1, s1, ⟨hx, hK⟩, hle, hr1⟩
  have hm : pre.length < ops.size := by omega
  obtain ⟨ao, e1, e2⟩ := GH hc (i := pre.length) (o := ops[pre.length]) (by simp [hm])
  have hao : ao = ⟨none, .dfr x xs, none⟩ := by simpa using e1.symm
  subst hao
  unfold IL at e2
  split at e2
  ·rename_i op hop
   split at e2
   ·rename_i hdst
    split at e2
    ·rename_i hg
     injection e2 with e2
     injection e2 with d1 d2
     subst d2
     obtain ⟨d, hrun, hd⟩ := A0o hr1 hop hx
     rw [wpOps_cons]
     unfold wpOp
     simp only [hm, getElem?_pos]
     rw [if_pos (by simp [Region.wanted, hg])]
     refine .inl ?_
     unfold Oper.wp
     rw [hrun]
     simp only [Oper.upon, d1]
     refine hq G1 s1 _ w1 d hK hle ?_ hd
     exact ⟨hr1.r0, hr1.sz, by simp [Act.put, hr1.df], hr1.ld, hr1.tm⟩
    ·split at e2
     ·simp at e2
     ·cases e2
   ·cases e2
  ·cases e2
theorem Tz : ∀ (ac : ACode) {c : Code} {Qa : AExit → AS → Prop} {Q : Exit → Act → World → Prop} {G : Gh} {s : AS} {a : Act} {w : World}, Bx P ef nt c = some (bare ac) → RelS P w0 nt [] G s a w → XO P ac Qa s →
  (∀ e s' G' a' w', Qa e s' → G.Le G' → RelS P w0 nt [] G' s' a' w' → Q (exR e) a' w') →
  (∀ e s' G' a' w' d fv xs, Zf P fv xs Qa e s' → DfrIs G' d fv xs → G.Le G' → RelS P w0 nt [d] G' s' a' w' → Q (exR e) a' w') → c.wp P Q a w := by
 have plain : ∀ (ac : ACode) {c : Code} {Qa : AExit → AS → Prop} {Q : Exit → Act → World → Prop} {G : Gh} {s : AS} {a : Act} {w : World}, (∀ Q s, XO P ac Q s = aw P ac Q s) → Bx P ef nt c = some (bare ac) → RelS P w0 nt [] G s a w → XO P ac Qa s →
  (∀ e s' G' a' w', Qa e s' → G.Le G' → RelS P w0 nt [] G' s' a' w' → Q (exR e) a' w') → c.wp P Q a w := by
  intro ac c Qa Q G s a w he hc hr h hq
  rw [he] at h
  exact I2 ac hc hr h hq
 intro ac
 induction ac with
 | seq x y ihx ihy =>
  intro c Qa Q G s a w hc hr h hq hq2
  cases c <;> simp only [Bx, bare] at hc <;> first | (simp at hc; done) | skip
  case seq c1 c2 =>
   split at hc
   ·rename_i x' y' h1 h2
    injection hc with hc
    injection hc with e1 e2
    subst e1; subst e2
    unfold XO at h
    split at h
    ·rename_i pre xo xs hl
     have hxe := Yz hl
     subst hxe
     simp only [bare] at h1
     cases c1 <;> simp only [Bx] at h1 <;> first | (simp at h1; done) | skip
     case region id ops draw =>
      have hdraw := Xm h1 (by simp [A2o, AOp.isD])
      subst hdraw
      obtain ⟨_, h3⟩ := PL h1
      refine wp_seq (Un h3 hr h fun G' s' a' w' d hK hle hr' hd => ?_)
      exact I2 y h2 hr' hK fun e s2 G2 a2 w2 q2 l2 r2 => hq2 e s2 G2 a2 w2 d _ _ q2 (hd.mono l2) (hle.tr l2) r2
     all_goals first | (split at h1 <;> simp at h1; done)
    ·refine wp_seq (I2 x h1 hr h fun e s' G' a' w1 hqa hle hr' => ?_)
     cases e with
     | normal => exact ihy h2 hr' hqa (fun e2 s2 G2 a2 w2 q2 l2 r2 => hq e2 s2 G2 a2 w2 q2 (hle.tr l2) r2) fun e2 s2 G2 a2 w2 d fv xs q2 k2 l2 r2 => hq2 e2 s2 G2 a2 w2 d fv xs q2 k2 (hle.tr l2) r2
     | exit id => exact hq _ s' G' a' w1 hqa hle hr'
     | ret => exact hq _ s' G' a' w1 hqa hle hr'
   ·cases hc
  all_goals first | (split at hc <;> simp at hc; done) | (rcases C1 hc with ⟨_, hk⟩ | ⟨_, _, _, hk⟩ | hk <;> cases hk; done)
 | kp ks x ih =>
  intro c Qa Q G s a w hc hr h hq hq2
  simp only [bare] at hc
  simp only [XO] at h
  exact ih hc (hr.env (fun t => QE s.e ks t)) h hq hq2
 | skip => intro c Qa Q G s a w hc hr h hq _; exact plain _ (fun _ _ => rfl) hc hr h hq
 | segs l => intro c Qa Q G s a w hc hr h hq _; exact plain _ (fun _ _ => rfl) hc hr h hq
 | reg l => intro c Qa Q G s a w hc hr h hq _; exact plain _ (fun _ _ => rfl) hc hr h hq
 | regD m S l => intro c Qa Q G s a w hc hr h hq _; exact plain _ (fun _ _ => rfl) hc hr h hq
 | cond c x y => intro c Qa Q G s a w hc hr h hq _; exact plain _ (fun _ _ => rfl) hc hr h hq
 | block i c => intro c Qa Q G s a w hc hr h hq _; exact plain _ (fun _ _ => rfl) hc hr h hq
 | loop c => intro c Qa Q G s a w hc hr h hq _; exact plain _ (fun _ _ => rfl) hc hr h hq
 | exit i => intro c Qa Q G s a w hc hr h hq _; exact plain _ (fun _ _ => rfl) hc hr h hq
 | ret => intro c Qa Q G s a w hc hr h hq _; exact plain _ (fun _ _ => rfl) hc hr h hq
 | bad => intro c Qa Q G s a w hc hr h hq _; exact plain _ (fun _ _ => rfl) hc hr h hq
 | ke ks c => intro c Qa Q G s a w hc hr h hq _; exact plain _ (fun _ _ => rfl) hc hr h hq
 | gh c => intro c Qa Q G s a w hc hr h hq _; exact plain _ (fun _ _ => rfl) hc hr h hq
theorem JP {f : Nat} {fn : Func} {c : AFun} {args : List AV} {n : Nat} {H : A3} {R : Gk} (hf : P.funcs[f]? = some fn)
  (hc : (O7 P ef fn).map (fun x => (x.nargs, x.nt, x.res, x.code)) = some (c.nargs, c.nt, c.res, bare c.code)) (ha : args.length = c.nargs)
  (h : (∀ g, n ≤ g → H g = none) → XO P c.code (fin R n c.res) ⟨E3 args, n, H⟩) : ACalls P f args n H R := by
 intro hs w0 G w vs hld h0 hrep
 have hcode := h hs
 obtain ⟨fc, hfc, hpr⟩ := Option.map_eq_some_iff.1 hc
 simp only [Prod.mk.injEq] at hpr
 obtain ⟨p1, p2, p3, p4⟩ := hpr
 unfold O7 at hfc
 split at hfc
 ·rename_i code hb
  split at hfc
  ·rename_i ac r hcc hcr
   split at hfc
   ·rename_i hsz
    injection hfc with hfc
    subst hfc
    simp only at p1 p2 p3 p4
    have hvl : vs.length = fn.params.size + fn.nfree := by rw [hrep.len, ha, ← p1]
    have hrel : RelS P w0 fn.ntmps [] G ⟨E3 args, n, H⟩ { tmps := vs.toArray ++ Array.replicate (fn.ntmps - vs.toArray.size) undef, defers := [] } w := by
     refine ⟨h0, by simp; omega, rfl, hld, fun t => ?_⟩
     have AO := Lv args t 0
     simp only [Nat.zero_le, if_true, Nat.sub_zero] at AO
     show Rep G _ (get ((args.zipIdx 0).map fun x => (x.2, x.1)) t)
     rw [AO]
     cases hat : args[t]? with
     | none => exact .any
     | some x =>
      obtain ⟨v, hv, hrv⟩ := hrep.at hat
      have hlt := (List.getElem?_eq_some_iff.1 hv).1
      have : (vs.toArray ++ Array.replicate (fn.ntmps - vs.toArray.size) undef).getD t undef = v := by
       rw [Array.getD_eq_getD_getElem?, Array.getElem?_append_left (by simpa using hlt)]
       simp [hv]
      rw [this]; exact hrv
    -- a frame that leaves
    have fin' : ∀ (ds : List Deferred) (s' : AS) (G' : Gh) (a' : Act) (w1 : World), G.Le G' → RelS P w0 fn.ntmps ds G' s' a' w1 → fin R n c.res .ret s' →
      ∃ v, (results fn a'.tmps).run P w1 = .ok v w1 ∧ ∃ (v' : Value) (r : AV) (G' : Gh) (n' : Nat) (H' : A3), Ending.returned v = .returned v' ∧ R r n' H' ∧ Rep G' v' r ∧ G.Le G' ∧ n ≤ n' ∧ Rel0 P w0 G' n' H' w1 := by
     rintro ds s' G' a' w1 hle hr' ⟨x, n', H', ⟨x0, h1, hx0⟩, h2, h3, h4, h5, h6⟩
     rw [← p3] at h1
     obtain ⟨v, e1, e2⟩ := JS hr' hcr h1
     have e2 : Rep G' v x := e2.sim hx0
     exact ⟨v, e1, v, x, G', n', H', rfl, h6, e2, hle, h2, hr'.r0.less (by have := h0.lo; omega) h3 h4 h5⟩
    refine calls_of_wp_defers hf hb (Tz c.code (by rw [← p4]; exact hcc) hrel hcode (fun e s' G' a' w1 hq hle hr' => ?_) fun e s' G' a' w1 d fv xs hq hd hle hr' => ?_)
    ·have hdf : a'.defers = [] := hr'.df
     cases e with
     | normal => simp only [exR, bodyPostD, hdf]; exact fin' _ s' G' a' w1 hle hr' hq
     | ret => simp only [exR, bodyPostD, hdf]; exact fin' _ s' G' a' w1 hle hr' hq
     | exit id => exact hq.elim
    ·have hdf : a'.defers = [d] := hr'.df
     have key : Za P xs (fun n' H' => fin R n c.res .ret ⟨s'.e, n', H'⟩) s'.n s'.H fv → Leaves P fn a'.tmps (fun e w1 => ∃ (v' : Value) (r : AV) (G' : Gh) (n' : Nat) (H' : A3), e = .returned v' ∧ R r n' H' ∧ Rep G' v' r ∧ G.Le G' ∧ n ≤ n' ∧ Rel0 P w0 G' n' H' w1) [d] .returning w1 := by
      intro hk
      unfold Za at hk
      split at hk
      ·rename_i fc fst cap
       obtain ⟨hcb, R', hA, hK⟩ := hk
       obtain ⟨va, vx, vb, k1, k2, k3, rfl⟩ := hd
       unfold Ec at hcb
       split at hcb
       ·rename_i fn2 hfn2
        have hrep2 := (k1.append k2).append k3
        refine leaves_cons (f := fc) (args := (va ++ vx ++ vb).toArray) (by simp) ?_ ((hA hr'.r0.supp w0 G' w1 _ .returning hld hr'.r0 hrep2).mono ?_)
        ·simp only [invoke]
         rw [Ht hfn2 hcb]
         congr 2
         simp
        ·rintro e u' w' ⟨rfl, v, G2, n2, H2, rfl, hR', hle2, hn2, h02⟩
         simp only [settle]
         exact fin' [_] ⟨s'.e, n2, H2⟩ G2 a' w' (hle.tr hle2) ⟨h02, hr'.sz, hr'.df, hld, fun t => (hr'.tm t).mono hle2⟩ (hK n2 H2 hn2 h02.supp hR')
       ·cases hcb
      ·exact hk.elim
     cases e with
     | normal => simp only [exR, bodyPostD, hdf]; exact key hq
     | ret => simp only [exR, bodyPostD, hdf]; exact key hq
     | exit id => exact hq.elim
   ·cases hfc
  ·cases hfc
 ·cases hfc
end
end
def AUpd (P : Program) (f : Nat) (args : List AV) (n : Nat) (H : A3) (v : AV) (g : Nat) (ob : AObj) : Prop := ACalls P f args n H fun r n' H' => r = v ∧ n' = n ∧ H' = upd H g (some ob)
theorem Y6 {H : A3} {g : Nat} {a : AObj} (h : H g = some a) : upd H g (some a) = H := by
 funext k; simp only [upd]; split
 ·rename_i hk; subst hk; exact h.symm
 ·rfl
section
variable {P : Program} {f : Nat} {n : Nat} {H : A3} {v : AV}
theorem AUpd.sim {args args' : List AV} {g : Nat} {ob : AObj} (h : AUpd P f args' n H v g ob) (hs : A5 args args') : AUpd P f args n H v g ob := ACalls.sim h hs
theorem UO {ef : List Nat} {fn : Func} {c : AFun} {args : List AV} {g : Nat} {ob ob0 : AObj} (hf : P.funcs[f]? = some fn)
  (hc : (O7 P ef fn).map (fun x => (x.nargs, x.nt, x.res, x.code)) = some (c.nargs, c.nt, c.res, bare c.code)) (ha : args.length = c.nargs) (hg : H g = some ob0)
  (h : (∀ g, n ≤ g → H g = none) → aw P c.code (Ga v n (upd H g (some ob)) c.res) ⟨E3 args, n, H⟩) : AUpd P f args n H v g ob := by
 refine AK hf hc ha fun hs => ?_
 have hgn : g < n := by
  rcases Nat.lt_or_ge g n with h1 | h1
  ·exact h1
  ·rw [hs g h1] at hg; cases hg
 have hs' : ∀ k, n ≤ k → upd H g (some ob) k = none := fun k hk => by rw [upd_ne (by omega)]; exact hs k hk
 refine P4 (h hs) fun e s' hq => ?_
 cases e with
 | normal => exact ⟨v, n, _, hq.1, Nat.le_refl _, hq.2.1, hs', hq.2.2, rfl, rfl, rfl⟩
 | ret => exact ⟨v, n, _, hq.1, Nat.le_refl _, hq.2.1, hs', hq.2.2, rfl, rfl, rfl⟩
 | exit id => exact hq
theorem CallK.ofU {args args' : List AV} {d : Option Nat} {K : AS → Prop} {e : AH} {g : Nat} {ob : AObj} (h : AUpd P f args' n H v g ob) (hs : A5 args args') (hk : K ⟨AD e d v, n, upd H g (some ob)⟩) : CallK P f args d K ⟨e, n, H⟩ :=
 ⟨_, h.sim hs, fun r n' H' _ _ ⟨e1, e2, e3⟩ => by subst e1; subst e2; subst e3; exact hk⟩
def AHp (P : Program) (f : Nat) (args : List AV) (n : Nat) (H : A3) (v : AV) (H2 : A3) : Prop := ACalls P f args n H fun r n' H' => r = v ∧ n' = n ∧ H' = H2
theorem AHp.sim {args args' : List AV} {H2 : A3} (h : AHp P f args' n H v H2) (hs : A5 args args') : AHp P f args n H v H2 := ACalls.sim h hs
theorem Owns.at_ {n0 : Nat} {H0 : A3} {bs : List (Nat × AObj)} {os : List OwnR} {g : Nat} {a : AObj} (h : Owns n0 (upd H0 g (some a)) bs os n H) (hg : g < n0) : H g = some a := by
 rw [h.mem.same g hg]; exact AN _ _ _
end
open Go.RowKit
section
variable {P : Program} {w w0 : World} {G : Gh} {n : Nat} {H : A3}
theorem ACalls.frz {f : Nat} {args : List AV} {R R' : Gk} (h : ACalls P f args n H R) (k : ∀ r n' H', n ≤ n' → R r n' H' → ∃ (g : Nat) (e : TypeId) (sz : Nat) (l : List AV), H' g = some (.grow e (AG l)) ∧ BJ P e = sz ∧ 0 < sz ∧ (∀ x ∈ l, x.cells.length = sz) ∧ R' (Dg g sz l r) n' (upd H' g none)) : ACalls P f args n H R' :=
 fun hs w0 G w vs hl hr hv => (h hs w0 G w vs hl hr hv).mono fun e w' ⟨v, r, G', n', H', e1, e2, e3, e4, e5, e6⟩ => by
  obtain ⟨g, te, sz, l, q1, q2, q3, q4, q5⟩ := k r n' H' e5 e2
  obtain ⟨us, c, hc, hLe, hrel, hrl, hsl, hcm, hcs, h1⟩ := e6.still q1
  have hlen : l.length ≤ c := by
   have e : (AG l).length = l.length * sz := by
    clear q1 hrl hcs h1 q5
    induction l with
    | nil => simp [AG]
    | cons x l ih =>
     have := ih fun y hy => q4 y (List.mem_cons_of_mem _ hy)
     have h2 := q4 x List.mem_cons_self
     simp only [AG, List.flatMap_cons, List.length_append] at this ⊢
     rw [this, h2, List.length_cons, Nat.succ_mul]; omega
   rw [e, q2] at hcs
   exact Nat.le_of_mul_le_mul_right hcs q3
  exact ⟨v, _, G'.still g us, n', _, e1, q5, Rep.frz hLe hc hrl hsl ⟨hlen, hcm, q3, q4, h1⟩ e3, e4.tr hLe, e5, hrel⟩
theorem ACalls.forget {f : Nat} {args : List AV} {R R' : Gk} (h : ACalls P f args n H R) (k : ∀ r n' H', n ≤ n' → R r n' H' → SameB n H H' ∧ R' r n H) : ACalls P f args n H R' :=
 fun hs w0 G w vs hl hr hv => (h hs w0 G w vs hl hr hv).mono fun e w' ⟨v, r, G', n', H', e1, e2, e3, e4, e5, e6⟩ =>
  ⟨v, r, G', n, H, e1, (k r n' H' e5 e2).2, e3, e4, Nat.le_refl _, e6.less hr.lo e5 hs (k r n' H' e5 e2).1⟩
end
def Ex (r r' : List Nat) : Prop := ∀ g a : Nat, r[g]? = some a → r'[g]? = some a
theorem Ex.rfl_ (r : List Nat) : Ex r r := fun _ _ h => h
theorem Ex.tr {a b c : List Nat} (h : Ex a b) (k : Ex b c) : Ex a c := fun g x h1 => k g x (h g x h1)
theorem Ex.app (r l : List Nat) : Ex r (r ++ l) := fun g a h => by
 rw [List.getElem?_append_left (List.getElem?_eq_some_iff.1 h).1]; exact h
def RnT (r : List Nat) : Tok → Tok → Prop
 | .nil, t => t = .nil
 | .ro, t => t = .ro
 | .own g, t => ∃ g', t = .own g' ∧ r[g]? = some g'
mutual
def Rn (r : List Nat) : AV → AV → Prop
 | .sl z l t, y => ∃ l' t', y = .sl z l' t' ∧ RnL r l l' ∧ RnT r t t'
 | .agg l, y => ∃ l', y = .agg l' ∧ RnL r l l'
 | .tup l, y => ∃ l', y = .tup l' ∧ RnL r l l'
 | .dat e l, y => ∃ l', y = .dat e l' ∧ RnL r l l'
 | .fn f a b, y => ∃ a' b', y = .fn f a' b' ∧ RnL r a a' ∧ RnL r b b'
 | .ref x, y => ∃ x', y = .ref x' ∧ Rn r x x'
 | .ifc t x, y => ∃ x', y = .ifc t x' ∧ Rn r x x'
 | .ptr g o, y => ∃ g', y = .ptr g' o ∧ r[g]? = some g'
 | .mp g, y => ∃ g', y = .mp g' ∧ r[g]? = some g'
 | .slm z g o n, y => ∃ g', y = .slm z g' o n ∧ r[g]? = some g'
 | .slg z g n, y => ∃ g', y = .slg z g' n ∧ r[g]? = some g'
 | .bool b, y => y = .bool b
 | .int k n, y => y = .int k n
 | .str s, y => y = .str s
 | .np, y => y = .np
 | .nfn, y => y = .nfn
 | .nmp, y => y = .nmp
 | .ub, y => y = .ub
 | .nif, y => y = .nif
 | .any, _ => True
 | .und, y => y = .und
def RnL (r : List Nat) : List AV → List AV → Prop
 | [], y => y = []
 | x :: xs, y => ∃ x' xs', y = x' :: xs' ∧ Rn r x x' ∧ RnL r xs xs'
end
theorem RnT.mono {r r' : List Nat} (h : Ex r r') : ∀ {x y : Tok}, RnT r x y → RnT r' x y
 | .nil, _, e => e
 | .ro, _, e => e
 | .own _, _, ⟨g, e, k⟩ => ⟨g, e, h _ _ k⟩
mutual
theorem Rn.mono {r r' : List Nat} (h : Ex r r') : ∀ {x y : AV}, Rn r x y → Rn r' x y
 | .sl _ _ _, _, k => by simp only [Rn] at k ⊢; obtain ⟨l', t', e, a, b⟩ := k; exact ⟨l', t', e, RnL.mono h a, b.mono h⟩
 | .agg _, _, k => by simp only [Rn] at k ⊢; obtain ⟨l', e, a⟩ := k; exact ⟨l', e, RnL.mono h a⟩
 | .tup _, _, k => by simp only [Rn] at k ⊢; obtain ⟨l', e, a⟩ := k; exact ⟨l', e, RnL.mono h a⟩
 | .dat _ _, _, k => by simp only [Rn] at k ⊢; obtain ⟨l', e, a⟩ := k; exact ⟨l', e, RnL.mono h a⟩
 | .fn _ _ _, _, k => by simp only [Rn] at k ⊢; obtain ⟨l', m', e, a, b⟩ := k; exact ⟨l', m', e, RnL.mono h a, RnL.mono h b⟩
 | .ref _, _, k => by simp only [Rn] at k ⊢; obtain ⟨l', e, a⟩ := k; exact ⟨l', e, Rn.mono h a⟩
 | .ifc _ _, _, k => by simp only [Rn] at k ⊢; obtain ⟨l', e, a⟩ := k; exact ⟨l', e, Rn.mono h a⟩
 | .ptr _ _, _, k => by simp only [Rn] at k ⊢; obtain ⟨l', e, a⟩ := k; exact ⟨l', e, h _ _ a⟩
 | .mp _, _, k => by simp only [Rn] at k ⊢; obtain ⟨l', e, a⟩ := k; exact ⟨l', e, h _ _ a⟩
 | .slm _ _ _ _, _, k => by simp only [Rn] at k ⊢; obtain ⟨l', e, a⟩ := k; exact ⟨l', e, h _ _ a⟩
 | .slg _ _ _, _, k => by simp only [Rn] at k ⊢; obtain ⟨l', e, a⟩ := k; exact ⟨l', e, h _ _ a⟩
 | .any, _, _ => by simp only [Rn]
 | .bool _, _, k | .int _ _, _, k | .str _, _, k | .np, _, k | .nfn, _, k | .nmp, _, k | .ub, _, k | .nif, _, k | .und, _, k => by simp only [Rn] at k ⊢; exact k
theorem RnL.mono {r r' : List Nat} (h : Ex r r') : ∀ {x y : List AV}, RnL r x y → RnL r' x y
 | [], _, k => by simp only [RnL] at k ⊢; exact k
 | _ :: _, _, k => by simp only [RnL] at k ⊢; obtain ⟨x', l', e, a, b⟩ := k; exact ⟨x', l', e, Rn.mono h a, RnL.mono h b⟩
end
mutual
def Lk : AV → Bool
 | .sl _ l t => (match t with | .own _ => false | _ => true) && IN l
 | .agg l | .tup l | .dat _ l => IN l
 | .fn _ a b => IN a && IN b
 | .ref x | .ifc _ x => Lk x
 | .ptr _ _ | .mp _ | .slm _ _ _ _ | .slg _ _ _ | .any => false
 | _ => true
def IN : List AV → Bool
 | [] => true
 | x :: xs => Lk x && IN xs
end
mutual
theorem Rn.of_nid {r : List Nat} : ∀ {x : AV}, Lk x = true → Rn r x x
 | .sl _ l t, h => by
  simp only [Lk, Bool.and_eq_true] at h
  refine ⟨l, t, rfl, RnL.of_nid h.2, ?_⟩
  cases t <;> simp_all [RnT]
 | .agg _, h | .tup _, h | .dat _ _, h => by simp only [Lk] at h; exact ⟨_, rfl, RnL.of_nid h⟩
 | .fn _ _ _, h => by simp only [Lk, Bool.and_eq_true] at h; exact ⟨_, _, rfl, RnL.of_nid h.1, RnL.of_nid h.2⟩
 | .ref _, h | .ifc _ _, h => by simp only [Lk] at h; exact ⟨_, rfl, Rn.of_nid h⟩
 | .ptr _ _, h | .mp _, h | .slm _ _ _ _, h | .slg _ _ _, h | .any, h => by simp [Lk] at h
 | .bool _, _ | .int _ _, _ | .str _, _ | .np, _ | .nfn, _ | .nmp, _ | .ub, _ | .nif, _ | .und, _ => by simp only [Rn]
theorem RnL.of_nid {r : List Nat} : ∀ {x : List AV}, IN x = true → RnL r x x
 | [], _ => rfl
 | _ :: _, h => by simp only [IN, Bool.and_eq_true] at h; exact ⟨_, _, rfl, Rn.of_nid h.1, RnL.of_nid h.2⟩
end
mutual
def Mj : AV → AV → Bool
 | .bool a, .bool b => decide (a = b)
 | .int k a, .int l b => decide (k = l) && decide (a = b)
 | .str a, .str b => decide (a = b)
 | .ptr g o, .ptr g' o' => decide (g = g') && decide (o = o')
 | .np, .np | .nfn, .nfn | .nmp, .nmp | .ub, .ub | .nif, .nif | .und, .und => true
 | .ref x, .ref y => Mj x y
 | .sl z l t, .sl z' l' t' => decide (z = z') && ((match t, t' with | .nil, .nil | .ro, .ro => true | .own g, .own g' => decide (g = g') | _, _ => false) && W4 l l')
 | .agg l, .agg m | .tup l, .tup m => W4 l m
 | .fn f a b, .fn f' a' b' => decide (f = f') && (W4 a a' && W4 b b')
 | .mp g, .mp g' => decide (g = g')
 | .slm a b c d, .slm a' b' c' d' => decide (a = a') && (decide (b = b') && (decide (c = c') && decide (d = d')))
 | .slg a b c, .slg a' b' c' => decide (a = a') && (decide (b = b') && decide (c = c'))
 | .ifc t v, .ifc t' v' => decide (t = t') && Mj v v'
 | .dat e l, .dat e' l' => decide (e = e') && W4 l l'
 | _, _ => false
def W4 : List AV → List AV → Bool
 | [], [] => true
 | x :: xs, y :: ys => Mj x y && W4 xs ys
 | _, _ => false
end
mutual
theorem Rn.one_ {r r' : List Nat} (hx : Ex r r') : ∀ {x x' y z : AV}, Mj x x' = true → Rn r x y → Rn r' x' z → z = y
 | .sl _ _ t, x', _, _, e, h, k => by
  cases x' <;> simp [Mj] at e
  rename_i t'
  obtain ⟨rfl, e1, e2⟩ := e
  simp only [Rn] at h k
  obtain ⟨l, t1, rfl, a, b⟩ := h; obtain ⟨m, t2, rfl, c, d⟩ := k
  have := RnL.one_ hx e2 a c; subst this
  congr 1
  cases t <;> cases t' <;> simp only [RnT] at b d <;> simp at e1
  ·rw [b, d]
  ·rw [b, d]
  ·subst e1; obtain ⟨g, rfl, e⟩ := b; obtain ⟨g', rfl, f⟩ := d
   have := hx _ _ e; rw [f] at this; injection this with this; rw [this]
 | .agg _, x', _, _, e, h, k | .tup _, x', _, _, e, h, k => by
  cases x' <;> simp [Mj] at e
  simp only [Rn] at h k
  obtain ⟨l, rfl, a⟩ := h; obtain ⟨m, rfl, c⟩ := k
  rw [RnL.one_ hx e a c]
 | .dat _ _, x', _, _, e, h, k => by
  cases x' <;> simp [Mj] at e
  obtain ⟨rfl, e⟩ := e
  simp only [Rn] at h k
  obtain ⟨l, rfl, a⟩ := h; obtain ⟨m, rfl, c⟩ := k
  rw [RnL.one_ hx e a c]
 | .fn _ _ _, x', _, _, e, h, k => by
  cases x' <;> simp [Mj] at e
  obtain ⟨rfl, e1, e2⟩ := e
  simp only [Rn] at h k
  obtain ⟨l, l2, rfl, a, b⟩ := h; obtain ⟨m, m2, rfl, c, d⟩ := k
  rw [RnL.one_ hx e1 a c, RnL.one_ hx e2 b d]
 | .ref _, x', _, _, e, h, k => by
  cases x' <;> simp [Mj] at e
  simp only [Rn] at h k
  obtain ⟨l, rfl, a⟩ := h; obtain ⟨m, rfl, c⟩ := k
  rw [Rn.one_ hx e a c]
 | .ifc _ _, x', _, _, e, h, k => by
  cases x' <;> simp [Mj] at e
  obtain ⟨rfl, e⟩ := e
  simp only [Rn] at h k
  obtain ⟨l, rfl, a⟩ := h; obtain ⟨m, rfl, c⟩ := k
  rw [Rn.one_ hx e a c]
 | .ptr _ _, x', _, _, e, h, k | .mp _, x', _, _, e, h, k | .slm _ _ _ _, x', _, _, e, h, k | .slg _ _ _, x', _, _, e, h, k => by
  cases x' <;> simp [Mj] at e
  simp only [Rn] at h k
  obtain ⟨l, rfl, a⟩ := h; obtain ⟨m, rfl, c⟩ := k
  have := hx _ _ a
  simp_all
 | .bool _, x', _, _, e, h, k | .int _ _, x', _, _, e, h, k | .str _, x', _, _, e, h, k | .np, x', _, _, e, h, k | .nfn, x', _, _, e, h, k | .nmp, x', _, _, e, h, k | .ub, x', _, _, e, h, k | .nif, x', _, _, e, h, k | .und, x', _, _, e, h, k => by
  cases x' <;> simp [Mj] at e <;> simp_all [Rn]
 | .any, x', _, _, e, h, k => by simp [Mj] at e
theorem RnL.one_ {r r' : List Nat} (hx : Ex r r') : ∀ {x x' y z : List AV}, W4 x x' = true → RnL r x y → RnL r' x' z → z = y
 | [], x', _, _, e, h, k => by cases x' <;> simp [W4] at e; simp only [RnL] at h k; rw [h, k]
 | _ :: _, x', _, _, e, h, k => by
  cases x' <;> simp [W4] at e
  simp only [RnL] at h k
  obtain ⟨x, l, rfl, a, b⟩ := h; obtain ⟨y, m, rfl, c, d⟩ := k
  rw [Rn.one_ hx e.1 a c, RnL.one_ hx e.2 b d]
end
mutual
theorem Rn.eq_nid {r : List Nat} : ∀ {x y : AV}, Lk x = true → Rn r x y → y = x
 | .sl _ l t, _, h, k => by
  simp only [Lk, Bool.and_eq_true] at h
  simp only [Rn] at k; obtain ⟨l', t', rfl, a, b⟩ := k
  rw [RnL.eq_nid h.2 a]
  cases t <;> simp only [RnT] at b
  ·rw [b]
  ·rw [b]
  ·simp at h
 | .agg _, _, h, k | .tup _, _, h, k | .dat _ _, _, h, k => by simp only [Lk] at h; simp only [Rn] at k; obtain ⟨l, rfl, a⟩ := k; rw [RnL.eq_nid h a]
 | .fn _ _ _, _, h, k => by simp only [Lk, Bool.and_eq_true] at h; simp only [Rn] at k; obtain ⟨l, m, rfl, a, b⟩ := k; rw [RnL.eq_nid h.1 a, RnL.eq_nid h.2 b]
 | .ref _, _, h, k | .ifc _ _, _, h, k => by simp only [Lk] at h; simp only [Rn] at k; obtain ⟨l, rfl, a⟩ := k; rw [Rn.eq_nid h a]
 | .ptr _ _, _, h, _ | .mp _, _, h, _ | .slm _ _ _ _, _, h, _ | .slg _ _ _, _, h, _ | .any, _, h, _ => by simp [Lk] at h
 | .bool _, _, _, k | .int _ _, _, _, k | .str _, _, _, k | .np, _, _, k | .nfn, _, _, k | .nmp, _, _, k | .ub, _, _, k | .nif, _, _, k | .und, _, _, k => by simpa only [Rn] using k
theorem RnL.eq_nid {r : List Nat} : ∀ {x y : List AV}, IN x = true → RnL r x y → y = x
 | [], _, _, k => by simpa only [RnL] using k
 | _ :: _, _, h, k => by simp only [IN, Bool.and_eq_true] at h; simp only [RnL] at k; obtain ⟨x, l, rfl, a, b⟩ := k; rw [Rn.eq_nid h.1 a, RnL.eq_nid h.2 b]
end
def SY : AV → Bool
 | .any => false
 | _ => true
theorem ER {x : AV} {s : Cm} (h : x.fits s = true) : SY x = true := by cases x <;> first | rfl | (cases s <;> simp [AV.fits] at h)
section
variable {r : List Nat}
theorem RnL.len : ∀ {l m : List AV}, RnL r l m → m.length = l.length
 | [], _, h => by simp only [RnL] at h; rw [h]
 | _ :: _, _, h => by simp only [RnL] at h; obtain ⟨x, l, rfl, _, b⟩ := h; simp [RnL.len b]
theorem RnL.at_ : ∀ {l m : List AV} {i : Nat} {x : AV}, RnL r l m → l[i]? = some x → ∃ y, m[i]? = some y ∧ Rn r x y
 | [], _, _, _, _, h => by simp at h
 | _ :: _, _, 0, _, h, k => by simp only [RnL] at h; obtain ⟨x, l, rfl, a, b⟩ := h; simp at k; subst k; exact ⟨_, rfl, a⟩
 | _ :: _, _, _ + 1, _, h, k => by simp only [RnL] at h; obtain ⟨x, l, rfl, a, b⟩ := h; simp at k; simpa using RnL.at_ b k
theorem RnL.app : ∀ {a b c d : List AV}, RnL r a b → RnL r c d → RnL r (a ++ c) (b ++ d)
 | [], _, _, _, h, k => by simp only [RnL] at h; subst h; exact k
 | _ :: _, _, _, _, h, k => by simp only [RnL] at h; obtain ⟨x, l, rfl, a, b⟩ := h; exact ⟨_, _, rfl, a, RnL.app b k⟩
theorem RnL.tk : ∀ {a b : List AV} (n : Nat), RnL r a b → RnL r (a.take n) (b.take n)
 | [], _, _, h => by simp only [RnL] at h; subst h; simp [RnL]
 | _ :: _, _, 0, h => by simp [RnL]
 | _ :: _, _, n + 1, h => by simp only [RnL] at h; obtain ⟨x, l, rfl, a, b⟩ := h; exact ⟨_, _, rfl, a, RnL.tk n b⟩
theorem RnL.dp : ∀ {a b : List AV} (n : Nat), RnL r a b → RnL r (a.drop n) (b.drop n)
 | [], _, _, h => by simp only [RnL] at h; subst h; simp [RnL]
 | _ :: _, _, 0, h => by simpa using h
 | _ :: _, _, n + 1, h => by simp only [RnL] at h; obtain ⟨x, l, rfl, a, b⟩ := h; simpa using RnL.dp n b
theorem RnL.mp {α : Type} {f g : α → AV} : ∀ {l : List α}, (∀ x ∈ l, Rn r (f x) (g x)) → RnL r (l.map f) (l.map g)
 | [], _ => rfl
 | x :: l, h => ⟨_, _, rfl, h x List.mem_cons_self, RnL.mp fun y hy => h y (List.mem_cons_of_mem _ hy)⟩
theorem Rn.cells {x y : AV} (h : Rn r x y) (hn : SY x = true) : RnL r x.cells y.cells := by
 cases x
 case any => simp [SY] at hn
 case agg l => simp only [Rn] at h; obtain ⟨l', rfl, a⟩ := h; exact a
 all_goals
  have h' := h
  simp only [Rn] at h'
  first
   | (subst h'; exact ⟨_, [], rfl, h, rfl⟩)
   | (obtain ⟨_, rfl, _⟩ := h'; exact ⟨_, [], rfl, h, rfl⟩)
   | (obtain ⟨_, _, rfl, _⟩ := h'; exact ⟨_, [], rfl, h, rfl⟩)
theorem Rn.one {x y : AV} (h : Rn r x y) (k : x.one = true) : y.one = true := by
 cases x <;> simp only [Rn] at h <;> first
  | (subst h; exact k)
  | (obtain ⟨_, rfl, _⟩ := h; exact k)
  | (obtain ⟨_, _, rfl, _⟩ := h; exact k)
  | simp [AV.one] at k
theorem Rn.fits {x y : AV} (h : Rn r x y) {s : Cm} (k : x.fits s = true) : y.fits s = true := by
 cases x
 case any => cases s <;> simp [AV.fits] at k
 case agg l => simp only [Rn] at h; obtain ⟨l', rfl, a⟩ := h; cases s <;> simp_all [AV.fits, a.len]
 all_goals
  simp only [Rn] at h
  first
   | (subst h; exact k)
   | (obtain ⟨_, rfl, _⟩ := h; cases s <;> simp_all [AV.fits]; done)
   | (obtain ⟨_, _, rfl, _⟩ := h; cases s <;> simp_all [AV.fits]; done)
theorem RnL.ones : ∀ {l m : List AV}, RnL r l m → ones l → ones m
 | [], _, h, _ => by simp only [RnL] at h; subst h; simp [Go.Proofs.YtnfjgphfaemjcaaGreatDoor.ones]
 | _ :: _, _, h, k => by
  simp only [RnL] at h; obtain ⟨x, l, rfl, a, b⟩ := h
  intro z hz
  rcases List.mem_cons.1 hz with rfl | hz
  ·exact a.one (k _ List.mem_cons_self)
  ·exact RnL.ones b (fun w hw => k w (List.mem_cons_of_mem _ hw)) z hz
theorem RnL.flat : ∀ {l m : List AV}, RnL r l m → l.all SY = true → RnL r (AG l) (AG m)
 | [], _, h, _ => by simp only [RnL] at h; subst h; rfl
 | _ :: _, _, h, k => by
  simp only [RnL] at h; obtain ⟨x, l, rfl, a, b⟩ := h
  simp only [List.all_cons, Bool.and_eq_true] at k
  simp only [AG, List.flatMap_cons]; exact (a.cells k.1).app (RnL.flat b k.2)
theorem RnL.part {cs ds : List AV} (h : RnL r cs ds) {o : Nat} {s : Cm} {v : AV} (k : part cs o s = some v) : ∃ u, part ds o s = some u ∧ Rn r v u := by
 cases s with
 | none => exact h.at_ k
 | some s =>
  simp only [Go.Proofs.YtnfjgphfaemjcaaGreatDoor.part] at k ⊢
  split at k
  ·rename_i hl
   injection k with k; subst k
   rw [h.len, if_pos hl]
   exact ⟨_, rfl, _, rfl, (h.dp o).tk s⟩
  ·cases k
theorem PC : ∀ {l m : List AV} {b : List UInt8}, RnL r l m → bytesOf l = some b → bytesOf m = some b
 | [], _, _, h, k => by simp only [RnL] at h; subst h; exact k
 | x :: l, _, _, h, k => by
  simp only [RnL] at h; obtain ⟨y, m, rfl, a, b⟩ := h
  unfold bytesOf at k
  split at k
  ·rename_i e; cases e
  ·rename_i n r' e
   injection e with e1 e2; subst e1; subst e2
   simp only [Rn] at a; subst a
   obtain ⟨b', h1, h2⟩ := Option.map_eq_some_iff.1 k
   simp only [bytesOf, PC b h1, Option.map_some, h2]
  ·cases k
theorem A5z {l m : List AV} (h : RnL r l m) (k : l.all QX = true) : m.all QX = true := by
 rw [List.all_eq_true] at k ⊢
 intro x hx
 obtain ⟨i, hi⟩ := List.getElem?_of_mem hx
 have hlt := (List.getElem?_eq_some_iff.1 hi).1
 rw [h.len] at hlt
 obtain ⟨y, h1, h2⟩ := h.at_ (List.getElem?_eq_getElem hlt)
 rw [hi] at h1; injection h1 with h1; subst h1
 have h3 := k _ (List.getElem_mem hlt)
 generalize l[i] = z at *
 unfold QX at h3
 split at h3
 ·simp only [Rn] at h2; subst h2; exact h3
 ·cases h3
theorem SM : ∀ {ks : List FK} {a b a' b' : List AV} {t : Bool}, RnL r a a' → RnL r b b' → CH ks a b = some t → CH ks a' b' = some t
 | [], [], [], _, _, _, h, k, e => by simp only [RnL] at h k; subst h; subst k; exact e
 | f :: ks, x :: xs, y :: ys, _, _, _, h, k, e => by
  simp only [RnL] at h k
  obtain ⟨x', xs', rfl, h1, h2⟩ := h; obtain ⟨y', ys', rfl, k1, k2⟩ := k
  cases f <;> cases x <;> (try (simp [CH] at e; done)) <;> cases y <;> (try (simp [CH] at e; done)) <;>
   (simp only [Rn] at h1 k1; subst h1; subst k1; simp only [CH] at e ⊢)
  ·split at e
   ·rename_i hk
    obtain ⟨t', e1, e2⟩ := Option.map_eq_some_iff.1 e
    rw [if_pos hk, SM h2 k2 e1]; simpa using e2
   ·cases e
  ·obtain ⟨t', e1, e2⟩ := Option.map_eq_some_iff.1 e
   rw [SM h2 k2 e1]; simpa using e2
  ·obtain ⟨t', e1, e2⟩ := Option.map_eq_some_iff.1 e
   rw [SM h2 k2 e1]; simpa using e2
 | [], _ :: _, _, _, _, _, _, _, e | [], [], _ :: _, _, _, _, _, _, e | _ :: _, [], _, _, _, _, _, _, e | _ :: _, _ :: _, [], _, _, _, _, _, e => by simp [CH] at e
theorem So : ∀ {ps qs : List (Nat × AV)} {cs ds : List AV}, RnL r cs ds → ps.map (·.1) = qs.map (·.1) → RnL r (ps.map (·.2)) (qs.map (·.2)) → (ps.all fun p => SY p.2) = true → RnL r (Fo cs ps) (Fo ds qs)
 | [], [], _, _, h, _, _, _ => h
 | [], _ :: _, _, _, _, e, _, _ => by simp at e
 | _ :: _, [], _, _, _, e, _, _ => by simp at e
 | (o, v) :: ps, (o', v') :: qs, _, _, h, e, k, na => by
  simp only [List.map_cons, RnL, List.cons.injEq] at k e
  obtain ⟨x, xs, ⟨rfl, rfl⟩, k1, k2⟩ := k
  obtain ⟨rfl, e⟩ := e
  simp only [Fo]
  simp only [List.all_cons, Bool.and_eq_true] at na
  have hc := k1.cells na.1
  refine So (((h.tk o).app hc).app ?_) e k2 na.2
  rw [hc.len]; exact h.dp _
theorem Pp : ∀ {n : Nat} {ps qs : List (Nat × Cm × AV)}, ps.map (fun p => (p.1, p.2.1)) = qs.map (fun p => (p.1, p.2.1)) → RnL r (ps.map (·.2.2)) (qs.map (·.2.2)) → FA n ps = true → FA n qs = true
 | _, [], [], _, _, h => h
 | _, [], _ :: _, e, _, _ => by simp at e
 | _, _ :: _, [], e, _, _ => by simp at e
 | n, (o, s, v) :: ps, (o', s', v') :: qs, e, k, h => by
  simp only [List.map_cons, RnL, List.cons.injEq, Prod.mk.injEq] at k e
  obtain ⟨x, xs, ⟨rfl, rfl⟩, k1, k2⟩ := k
  obtain ⟨⟨rfl, rfl⟩, e⟩ := e
  simp only [FA, Bool.and_eq_true, decide_eq_true_eq] at h ⊢
  exact ⟨⟨k1.fits h.1.1, by rw [(k1.cells (ER h.1.1)).len]; exact h.1.2⟩, Pp e k2 h.2⟩
theorem M1 : ∀ {n : Nat} {ps : List (Nat × Cm × AV)}, FA n ps = true → (ps.all fun p => SY p.2.2) = true
 | _, [], _ => rfl
 | _, (o, s, v) :: ps, h => by
  simp only [FA, Bool.and_eq_true] at h
  simp only [List.all_cons, Bool.and_eq_true]
  exact ⟨ER h.1.1, M1 h.2⟩
def RnM (r : List Nat) : List (AV × AV) → List (AV × AV) → Prop
 | [], y => y = []
 | (k, v) :: es, y => ∃ v' es', y = (k, v') :: es' ∧ Rn r v v' ∧ RnM r es es' ∧ Lk k = true
theorem RnM.find {k : AV} : ∀ {es fs : List (AV × AV)}, RnM r es fs → (BR k es = none ∧ BR k fs = none) ∨ ∃ x y, BR k es = some x ∧ BR k fs = some y ∧ Rn r x y
 | [], _, h => by simp only [RnM] at h; subst h; exact .inl ⟨rfl, rfl⟩
 | (k', v) :: es, _, h => by
  simp only [RnM] at h; obtain ⟨v', es', rfl, a, b, _⟩ := h
  simp only [BR]
  split
  ·exact .inr ⟨_, _, rfl, rfl, a⟩
  ·exact RnM.find b
theorem RnM.len : ∀ {es fs : List (AV × AV)}, RnM r es fs → fs.length = es.length
 | [], _, h => by simp only [RnM] at h; rw [h]
 | (_, _) :: _, _, h => by simp only [RnM] at h; obtain ⟨x, l, rfl, _, b, _⟩ := h; simp [RnM.len b]
theorem RnM.at_ : ∀ {es fs : List (AV × AV)} {i : Nat} {k v : AV}, RnM r es fs → es[i]? = some (k, v) → ∃ u, fs[i]? = some (k, u) ∧ Rn r v u ∧ Lk k = true
 | [], _, _, _, _, _, h => by simp at h
 | (_, _) :: _, _, 0, _, _, h, k => by simp only [RnM] at h; obtain ⟨x, l, rfl, a, b, c⟩ := h; simp at k; obtain ⟨rfl, rfl⟩ := k; exact ⟨_, rfl, a, c⟩
 | (_, _) :: _, _, _ + 1, _, _, h, k => by simp only [RnM] at h; obtain ⟨x, l, rfl, a, b, _⟩ := h; simp at k; simpa using RnM.at_ b k
theorem RnM.set {k v u : AV} (hk : Lk k = true) (hv : Rn r v u) : ∀ {es fs : List (AV × AV)}, RnM r es fs → RnM r (C0 k v es) (C0 k u fs)
 | [], _, h => by simp only [RnM] at h; subst h; exact ⟨_, _, rfl, hv, rfl, hk⟩
 | (k', v') :: es, _, h => by
  simp only [RnM] at h; obtain ⟨v', es', rfl, a, b, c⟩ := h
  simp only [C0]
  split
  ·exact ⟨_, _, rfl, hv, b, hk⟩
  ·exact ⟨_, _, rfl, a, RnM.set hk hv b, c⟩
def RnO (r : List Nat) : AObj → AObj → Prop
 | .cells e cs, o => ∃ cs', o = .cells e cs' ∧ RnL r cs cs'
 | .grow e cs, o => ∃ cs', o = .grow e cs' ∧ RnL r cs cs'
 | .row e m, o => o = .row e m
 | .map kk es, o => ∃ es', o = .map kk es' ∧ RnM r es es'
 | .iter m len left cur, o => ∃ m' left', o = .iter m' len left' cur ∧ r[m]? = some m' ∧ (cur = none → left' = left)
theorem RnM.mono {r r' : List Nat} (h : Ex r r') : ∀ {x y : List (AV × AV)}, RnM r x y → RnM r' x y
 | [], _, k => k
 | _ :: _, _, k => by simp only [RnM] at k ⊢; obtain ⟨v, es, e, a, b, c⟩ := k; exact ⟨v, es, e, a.mono h, b.mono h, c⟩
theorem RnO.mono {r r' : List Nat} (h : Ex r r') {x y : AObj} (k : RnO r x y) : RnO r' x y := by
 cases x <;> simp only [RnO] at k ⊢
 ·obtain ⟨c, e, a⟩ := k; exact ⟨c, e, a.mono h⟩
 ·exact k
 ·obtain ⟨c, e, a⟩ := k; exact ⟨c, e, a.mono h⟩
 ·obtain ⟨m', left', e, a, b⟩ := k; exact ⟨m', left', e, h _ _ a, b⟩
 ·obtain ⟨c, e, a⟩ := k; exact ⟨c, e, a.mono h⟩
def eqM : List (AV × AV) → List (AV × AV) → Bool
 | [], [] => true
 | x :: xs, y :: ys => Mj x.1 y.1 && (Mj x.2 y.2 && eqM xs ys)
 | _, _ => false
def eqO : AObj → AObj → Bool
 | .cells e l, .cells e' l' | .grow e l, .grow e' l' => decide (e = e') && W4 l l'
 | .row e m, .row e' m' => decide (e = e') && decide (m = m')
 | .map k l, .map k' l' => decide (k = k') && eqM l l'
 | _, _ => false
mutual
theorem QB : ∀ {x y : AV}, Mj x y = true → x = y
 | .ref x, y, h => by cases y <;> simp [Mj] at h; rw [QB h]
 | .ifc t x, y, h => by cases y <;> simp [Mj] at h; rw [h.1, QB h.2]
 | .agg l, y, h => by cases y <;> simp [Mj] at h; rw [IC h]
 | .tup l, y, h => by cases y <;> simp [Mj] at h; rw [IC h]
 | .dat e l, y, h => by cases y <;> simp [Mj] at h; rw [h.1, IC h.2]
 | .fn f a b, y, h => by cases y <;> simp [Mj] at h; rw [h.1, IC h.2.1, IC h.2.2]
 | .sl z l t, y, h => by
  cases y <;> simp [Mj] at h
  rename_i z' l' t'
  rw [h.1, IC h.2.2]
  have := h.2.1
  cases t <;> cases t' <;> simp_all
 | .bool _, y, h | .int _ _, y, h | .str _, y, h | .ptr _ _, y, h | .np, y, h | .nfn, y, h | .nmp, y, h | .ub, y, h | .nif, y, h | .any, y, h | .und, y, h | .mp _, y, h | .slm _ _ _ _, y, h | .slg _ _ _, y, h => by
  cases y <;> simp_all [Mj]
theorem IC : ∀ {x y : List AV}, W4 x y = true → x = y
 | [], y, h => by cases y <;> simp [W4] at h; rfl
 | x :: xs, y, h => by cases y <;> simp [W4] at h; rw [QB h.1, IC h.2]
end
theorem RnM.one_ {r r' : List Nat} (hx : Ex r r') : ∀ {x x' y z : List (AV × AV)}, eqM x x' = true → RnM r x y → RnM r' x' z → z = y
 | [], x', _, _, e, h, k => by cases x' <;> simp [eqM] at e; simp only [RnM] at h k; rw [h, k]
 | (a, b) :: _, x', _, _, e, h, k => by
  cases x' with
  | nil => simp [eqM] at e
  | cons w ws =>
   obtain ⟨c, d⟩ := w
   simp only [eqM, Bool.and_eq_true] at e
   simp only [RnM] at h k
   obtain ⟨x, l, rfl, a, b, _⟩ := h; obtain ⟨y, m, rfl, c, d, _⟩ := k
   rw [Rn.one_ hx e.2.1 a c, RnM.one_ hx e.2.2 b d, QB e.1]
theorem RnO.one_ {r r' : List Nat} (hx : Ex r r') {x x' y z : AObj} (e : eqO x x' = true) (h : RnO r x y) (k : RnO r' x' z) : z = y := by
 cases x <;> cases x' <;> simp [eqO] at e <;> simp only [RnO] at h k
 ·obtain ⟨x, rfl, a⟩ := h; obtain ⟨y, rfl, c⟩ := k; rw [RnL.one_ hx e.2 a c, e.1]
 ·rw [h, k, e.1, e.2]
 ·obtain ⟨x, rfl, a⟩ := h; obtain ⟨y, rfl, c⟩ := k; rw [RnM.one_ hx e.2 a c, e.1]
 ·obtain ⟨x, rfl, a⟩ := h; obtain ⟨y, rfl, c⟩ := k; rw [RnL.one_ hx e.2 a c, e.1]
end
end Go.Proofs.YtnfjgphfaemjcaaGreatDoor
