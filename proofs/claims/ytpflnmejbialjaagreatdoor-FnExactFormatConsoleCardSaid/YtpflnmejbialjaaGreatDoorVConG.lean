/-
  The picture of a console: the reference's.
-/
import Derived.Test.YtpflnmejbialjaaGreatDoorVConF
/-
  The picture of a console: the reference's.
-/
namespace Go.Proofs.YtpflnmejbialjaaGreatDoor
set_option linter.unusedSimpArgs false
set_option linter.unusedVariables false
open Go.RowKit

set_option maxRecDepth 100000 in
set_option maxHeartbeats 8000000 in
theorem specForm_any (W H : Int) (a1 : Option Addr) (n1 c1 : Nat) (xs1 : List Int) (a2 : Option Addr) (n2 c2 : Nat) (xs2 : List Int) (a3 : Option Addr) (n3 c3 : Nat) (xs3 : List Int) (t : Int) (a4 : Option Addr) (n4 c4 : Nat) (ph : List PhaseI) (a5 : Option Addr) (n5 c5 : Nat) (av : List Int) (D P : Bs) (ct : Int) (w : World)
    (h1 : Ints w a1 n1 c1 xs1) (h2 : Ints w a2 n2 c2 xs2) (h3 : Ints w a3 n3 c3 xs3) (h4 : Rd FPhase w a4 n4 c4 ph) (h5 : Ints w a5 n5 c5 av) (hl : D.length + P.length ≤ 4194304) :
    Calls Tryz.prog 5 #[conV W H a1 n1 c1 a2 n2 c2 a3 n3 c3 t a4 n4 c4 a5 n5 c5 (bsA D) (bsA P) ct] w fun e w' => e = .returned (.tuple #[.string (bsA (formR W H xs1 xs2 xs3 t ph av D P ct)), .bool (consB W H xs1 xs2 xs3 t ph av D P ct)]) ∧ Below w.heap.size w w' := by
  have hM := Mem.start w
  have HIS := Lib.hid (fun (w' : World) (hb : Below w.heap.size w w') => l28Good_any W H a1 n1 c1 xs1 a2 n2 c2 xs2 a3 n3 c3 xs3 t a4 n4 c4 ph a5 n5 c5 av D P ct w' (h1.ext hb) (h2.ext hb) (h3.ext hb) (h4.ext hb) (h5.ext hb) hl)
  cases hq : consB W H xs1 xs2 xs3 t ph av D P ct
  · rw [hq] at HIS
    have HF := Lib.hid (show formR W H xs1 xs2 xs3 t ph av D P ct = [] by rw [formR, hq]; rfl)
    clear hq
    go_enter Tryz.func5, Tryz.ntmps5
    go_upto_region 1 with fail
    apply Mem.atWpA
    · (repeat' (first | with_reducible exact hM | with_reducible exact hMp | with_reducible apply Mem.drew | with_reducible apply Mem.drewN | with_reducible apply Mem.alloc | with_reducible apply Mem.set | with_reducible exact Sto.row | ((with_reducible refine Sto.rowEq2 ?_ ?_); omega; rfl) | ((with_reducible refine Sto.rowEq ?_); omega) | with_reducible apply Sto.int | with_reducible apply Sto.there | with_reducible assumption | (unfold I64; omega) | (with_reducible (have hMx := Mem.undrew hM; exact hMx)) | (with_reducible (have hMx := Mem.undrew hMp; exact hMx))))
    clear hM
    intro wst hM
    (try simp only [World.size_alloc, World.size_setCell, World.heap_drewN, heapDrew, Nat.add_assoc, Nat.reduceAdd, List.setIfInBounds_toArray, List.set_cons_zero, List.set_cons_succ, List.cons_append, List.nil_append] at hM)
    obtain ⟨k0, f0, l0⟩ := hM.row .here
    go_wp2_with fail
    clear k0 f0 l0
    apply Mem.atA
    · (repeat' (first | with_reducible exact hM | with_reducible exact hMp | with_reducible apply Mem.drew | with_reducible apply Mem.drewN | with_reducible apply Mem.alloc | with_reducible apply Mem.set | with_reducible exact Sto.row | ((with_reducible refine Sto.rowEq2 ?_ ?_); omega; rfl) | ((with_reducible refine Sto.rowEq ?_); omega) | with_reducible apply Sto.int | with_reducible apply Sto.there | with_reducible assumption | (unfold I64; omega) | (with_reducible (have hMx := Mem.undrew hM; exact hMx)) | (with_reducible (have hMx := Mem.undrew hMp; exact hMx))))
    clear hM
    intro wst hM
    (try simp only [World.size_alloc, World.size_setCell, World.heap_drewN, heapDrew, Nat.add_assoc, Nat.reduceAdd, List.setIfInBounds_toArray, List.set_cons_zero, List.set_cons_succ, List.cons_append, List.nil_append] at hM)
    (first | refine (HIS.out _ hM.below).mono ?_)
    rintro e wc1 ⟨rfl, hb⟩
    replace hM := hM.ext hb
    clear hb
    go_wp2
    go_ret2
    exact ⟨by rw [HF.out]; rfl, (by apply Mem.below; (repeat' (first | with_reducible exact hM | with_reducible exact hMp | with_reducible apply Mem.drew | with_reducible apply Mem.drewN | with_reducible apply Mem.alloc | with_reducible apply Mem.set | with_reducible exact Sto.row | ((with_reducible refine Sto.rowEq2 ?_ ?_); omega; rfl) | ((with_reducible refine Sto.rowEq ?_); omega) | with_reducible apply Sto.int | with_reducible apply Sto.there | with_reducible assumption | (unfold I64; omega) | (with_reducible (have hMx := Mem.undrew hM; exact hMx)) | (with_reducible (have hMx := Mem.undrew hMp; exact hMx)))))⟩
  rw [hq] at HIS
  have hfc := con_facts hq h1.len h2.len
  have hfr : formR W H xs1 xs2 xs3 t ph av D P ct = conT W.toNat xs1 xs2 av n1 t.toNat ct.toNat := by rw [formR, hq, if_pos rfl, h1.len]
  rw [hfr]
  clear hq hfr
  obtain ⟨⟨Wn, rfl, W1, W2⟩, ⟨n1p, n25⟩, hn2, hx, ⟨tn, rfl, ht9⟩, ⟨cn, rfl, hc60⟩⟩ := hfc
  subst hn2
  rw [Int.toNat_natCast, Int.toNat_natCast, Int.toNat_natCast]
  have HX := Lib.hid hx; clear hx
  have HL := Lib.hid h1.len
  have S1 := bsA_size
  have S2 := bsA_app
  have C1 := tickW_eq
  have C2 := recsW_eq
  have C3 := newlW_eq
  have C4 := starW_eq
  have C5 := spentW_eq
  have C6 := markW_eq
  have C7 := lettW_eq
  have L1 : tickW.length = 5 := rfl
  have L2 : recsW.length = 10 := rfl
  have L3 : newlW.length = 1 := rfl
  have L4 : starW.length = 1 := rfl
  have L5 : spentW.length = 1 := rfl
  have L6 : markW.length = 1 := rfl
  have L7 : lettW.length = 21 := rfl
  have d1 := digits_len (n := tn) (by omega)
  have d2 := digits_len (n := cn) (by omega)
  have HR : Hid (conT Wn xs1 xs2 av n2 tn cn = picTo Wn (conC xs1 xs2 av) n2 ++ tickW ++ Lib.decDigits tn ++ recsW ++ Lib.decDigits cn ++ newlW) := Lib.hid rfl
  obtain ⟨dt, hdt⟩ : ∃ d, Lib.decDigits tn = d := ⟨_, rfl⟩
  obtain ⟨dc, hdc⟩ : ∃ d, Lib.decDigits cn = d := ⟨_, rfl⟩
  have HI1 := Lib.hid (fun w => l1Num_any tn w (by omega))
  have HI2 := Lib.hid (fun w => l1Num_any cn w (by omega))
  rw [hdt, hdc] at HR
  rw [hdt] at d1 HI1
  rw [hdc] at d2 HI2
  clear hdt hdc
  have HA := Lib.hid (fun w' (x : Int) (hb : Below w.heap.size w w') => l1Has_any a5 n5 c5 av x w' (h5.ext hb))
  go_enter Tryz.func5, Tryz.ntmps5
  go_upto_region 1 with fail
  apply Mem.atWpA
  · (repeat' (first | with_reducible exact hM | with_reducible exact hMp | with_reducible apply Mem.drew | with_reducible apply Mem.drewN | with_reducible apply Mem.alloc | with_reducible apply Mem.set | with_reducible exact Sto.row | ((with_reducible refine Sto.rowEq2 ?_ ?_); omega; rfl) | ((with_reducible refine Sto.rowEq ?_); omega) | with_reducible apply Sto.int | with_reducible apply Sto.there | with_reducible assumption | (unfold I64; omega) | (with_reducible (have hMx := Mem.undrew hM; exact hMx)) | (with_reducible (have hMx := Mem.undrew hMp; exact hMx))))
  clear hM
  intro wst hM
  (try simp only [World.size_alloc, World.size_setCell, World.heap_drewN, heapDrew, Nat.add_assoc, Nat.reduceAdd, List.setIfInBounds_toArray, List.set_cons_zero, List.set_cons_succ, List.cons_append, List.nil_append] at hM)
  obtain ⟨k0, f0, l0⟩ := hM.row .here
  go_wp2_with fail
  clear k0 f0 l0
  apply Mem.atA
  · (repeat' (first | with_reducible exact hM | with_reducible exact hMp | with_reducible apply Mem.drew | with_reducible apply Mem.drewN | with_reducible apply Mem.alloc | with_reducible apply Mem.set | with_reducible exact Sto.row | ((with_reducible refine Sto.rowEq2 ?_ ?_); omega; rfl) | ((with_reducible refine Sto.rowEq ?_); omega) | with_reducible apply Sto.int | with_reducible apply Sto.there | with_reducible assumption | (unfold I64; omega) | (with_reducible (have hMx := Mem.undrew hM; exact hMx)) | (with_reducible (have hMx := Mem.undrew hMp; exact hMx))))
  clear hM
  intro wst hM
  (try simp only [World.size_alloc, World.size_setCell, World.heap_drewN, heapDrew, Nat.add_assoc, Nat.reduceAdd, List.setIfInBounds_toArray, List.set_cons_zero, List.set_cons_succ, List.cons_append, List.nil_append] at hM)
  (first | refine (HIS.out _ hM.below).mono ?_)
  rintro e wb ⟨rfl, hb⟩
  replace hM := hM.ext hb
  clear hb
  obtain ⟨k0, f0, l0⟩ := hM.row .here
  go_upto_region 4 with fail
  clear k0 f0 l0
  apply Mem.atWpA
  · (repeat' (first | with_reducible exact hM | with_reducible exact hMp | with_reducible apply Mem.drew | with_reducible apply Mem.drewN | with_reducible apply Mem.alloc | with_reducible apply Mem.set | with_reducible exact Sto.row | ((with_reducible refine Sto.rowEq2 ?_ ?_); omega; rfl) | ((with_reducible refine Sto.rowEq ?_); omega) | with_reducible apply Sto.int | with_reducible apply Sto.there | with_reducible assumption | (unfold I64; omega) | (with_reducible (have hMx := Mem.undrew hM; exact hMx)) | (with_reducible (have hMx := Mem.undrew hMp; exact hMx))))
  clear hM
  intro wst hM
  (try simp only [World.size_alloc, World.size_setCell, World.heap_drewN, heapDrew, Nat.add_assoc, Nat.reduceAdd, List.setIfInBounds_toArray, List.set_cons_zero, List.set_cons_succ, List.cons_append, List.nil_append] at hM)
  generalize wb.heap.size = bi at hM ⊢
  obtain ⟨k0, f0, l0⟩ := hM.row .here
  go_wp2_with fail
  clear k0 f0 l0
  go_loopw [5, 6] (fun s5 s6 wr => ∃ k : Nat, k ≤ n2 ∧ s6 = .int .i64 k ∧ s5 = .string (bsA (picTo Wn (conC xs1 xs2 av) k)) ∧ Mem w.heap.size w wr [rowE bi 37 #[.int .i64 Wn, .int .i64 H, .slice a1 n2 c1, .slice a2 n2 c2, .slice a3 n3 c3, .int .i64 tn], rowE w.heap.size 41 #[.int .i64 Wn, .int .i64 H, .slice a1 n2 c1, .slice a2 n2 c2, .slice a3 n3 c3, .int .i64 tn, .slice a4 n4 c4, .slice a5 n5 c5, .string (bsA D), .string (bsA P), .int .i64 cn]]) (fun _ s6 _ => n2 - (intOf s6).toNat)
  case atStart => exact ⟨0, Nat.zero_le _, rfl, rfl, hM⟩
  case round =>
    clear hM
    obtain ⟨k, hk, rfl, rfl, hM⟩ := hrel
    have hpl := pic_len (by omega : 0 < Wn) (conC xs1 xs2 av) k
    have hkw : k / Wn ≤ k := Nat.div_le_self _ _
    have hst : picTo Wn (conC xs1 xs2 av) (k + 1) = picTo Wn (conC xs1 xs2 av) k ++ (conC xs1 xs2 av k :: lineE Wn k) := rfl
    have HP0 := Lib.hid (fun (hkn : k = n2) => (by rw [hkn] : picTo Wn (conC xs1 xs2 av) k = picTo Wn (conC xs1 xs2 av) n2))
    obtain ⟨Pp, hPp⟩ : ∃ P, picTo Wn (conC xs1 xs2 av) k = P := ⟨_, rfl⟩
    rw [hPp] at hpl hst HP0 ⊢
    have hp50 : Pp.length ≤ 50 := by omega
    clear hpl hPp hkw
    by_cases hlt : k < n2
    · have hxk := HX.out _ (getD_mem (xs := xs1) (k := k) (by rw [HL.out]; exact hlt))
      obtain ⟨bb, off, rfl, -, hc⟩ := (h1.ext hM.below).at' _ hlt
      have hck := hc k hlt
      obtain ⟨bf, off2, rfl, -, hc2⟩ := (h2.ext hM.below).at' _ hlt
      have hcf := hc2 k hlt
      clear hc hc2
      have hcc : conC xs1 xs2 av k = if 0 < xs2.getD k 0 then 42 else if xs2.getD k 0 < 0 then 120 else if hasI av k then 33 else cellC (xs1.getD k 0) := rfl
      obtain ⟨f, hf⟩ : ∃ v, xs2.getD k 0 = v := ⟨_, rfl⟩
      obtain ⟨v, hv⟩ : ∃ v, xs1.getD k 0 = v := ⟨_, rfl⟩
      rw [hv] at hxk hck
      rw [hf] at hcf
      rw [hf, hv] at hcc
      clear hv hf
      obtain ⟨m, rfl⟩ := Int.eq_ofNat_of_zero_le hxk.1
      have hm20 : m ≤ 20 := by omega
      have HCC := Lib.hid hcc; have HST := Lib.hid hst
      clear hcc hst hxk
      obtain ⟨cc, hccx⟩ : ∃ c, conC xs1 xs2 av k = c := ⟨_, rfl⟩
      rw [hccx] at HCC HST
      clear hccx
      have i0 : (0 : Int) ≤ (k : Int) := by omega
      have i1 : (k : Int) < (n2 : Int) := by omega
      have hw1 : IntKind.i64.wrap ((m : Int) + 1) = (m : Int) + 1 := wrap_in (by omega)
      obtain ⟨k0, f0, l0⟩ := hM.row .here
      obtain ⟨k1, f1, l1⟩ := hM.row (.there .here)
      go_upto_block 2 with fail
      go_cut [5] (fun s5 wx => s5 = .string (bsA (Pp ++ [cc])) ∧ Mem w.heap.size w wx [rowE bi 37 #[.int .i64 Wn, .int .i64 H, .slice (some ⟨bb, off, none⟩) n2 c1, .slice (some ⟨bf, off2, none⟩) n2 c2, .slice a3 n3 c3, .int .i64 tn], rowE w.heap.size 41 #[.int .i64 Wn, .int .i64 H, .slice (some ⟨bb, off, none⟩) n2 c1, .slice (some ⟨bf, off2, none⟩) n2 c2, .slice a3 n3 c3, .int .i64 tn, .slice a4 n4 c4, .slice a5 n5 c5, .string (bsA D), .string (bsA P), .int .i64 cn]])
      case first =>
        by_cases hf0 : 0 < f
        · have HE := Lib.hid (show [cc] = starW by rw [HCC.out, if_pos hf0]; rfl)
          have hcat : ¬ 9223372036854775807 < Pp.length + starW.length := by omega
          go_wp2_with fail
          go_meet
          exact ⟨by rw [HE.out], hM⟩
        by_cases hf1 : f < 0
        · have HE := Lib.hid (show [cc] = spentW by rw [HCC.out, if_neg hf0, if_pos hf1]; rfl)
          have hcat : ¬ 9223372036854775807 < Pp.length + spentW.length := by omega
          go_wp2_with fail
          go_meet
          exact ⟨by rw [HE.out], hM⟩
        cases hh : hasI av k
        · have HE := Lib.hid (show [cc] = [cellC (m : Int)] by rw [HCC.out, if_neg hf0, if_neg hf1, hh]; rfl)
          have E1 := lett_at hm20
          have LC : ([cellC (m : Int)] : Bs).length = 1 := rfl
          generalize [cellC (m : Int)] = u at E1 LC HE
          have hcat : ¬ 9223372036854775807 < Pp.length + u.length := by omega
          have HAH := Lib.hid (fun w' hb => HA.out w' (k : Int) hb)
          rw [hh] at HAH
          clear hh
          go_wp2_with fail
          refine (HAH.out _ hM.below).mono ?_
          rintro e w5 ⟨rfl, rfl⟩
          go_wp2_with fail
          go_meet
          exact ⟨by rw [HE.out], hM⟩
        · have HE := Lib.hid (show [cc] = markW by rw [HCC.out, if_neg hf0, if_neg hf1, hh]; rfl)
          have hcat : ¬ 9223372036854775807 < Pp.length + markW.length := by omega
          have HAH := Lib.hid (fun w' hb => HA.out w' (k : Int) hb)
          rw [hh] at HAH
          clear hh
          go_wp2_with fail
          refine (HAH.out _ hM.below).mono ?_
          rintro e w5 ⟨rfl, rfl⟩
          go_wp2_with fail
          go_meet
          exact ⟨by rw [HE.out], hM⟩
      case rest =>
        clear hM k0 f0 l0 k1 f1 l1
        obtain ⟨rfl, hM⟩ := hcut
        have hpu : (Pp ++ [cc]).length ≤ 51 := by rw [List.length_append]; simp; omega
        have HS2 := Lib.hid (show picTo Wn (conC xs1 xs2 av) (k + 1) = (Pp ++ [cc]) ++ lineE Wn k by rw [HST.out, List.append_assoc]; rfl)
        generalize Pp ++ [cc] = P2 at hpu HS2 ⊢
        obtain ⟨r, hr⟩ : ∃ r, k % Wn = r := ⟨_, rfl⟩
        have hrl : r < Wn := by rw [← hr]; exact Nat.mod_lt _ (by omega)
        have hmt : (k : Int).tmod (Wn : Int) = (r : Int) := by rw [Int.tmod_eq_emod_of_nonneg (by omega), ← Int.natCast_emod, hr]
        have hme : (k : Int) % (Wn : Int) = (r : Int) := by rw [← Int.natCast_emod, hr]
        have hle : lineE Wn k = if r = Wn - 1 then [10] else [] := by rw [lineE, hr]
        have HLE := Lib.hid hle; clear hle hr
        have hwW : IntKind.i64.wrap ((Wn : Int) - 1) = (Wn : Int) - 1 := wrap_in (by omega)
        have hne : ((Wn : Int) != 0) = true := by simp; omega
        have q0 : (Wn : Int) ≠ 0 := by omega
        by_cases hrl : r = Wn - 1
        · have e1 : ((r : Int) == (Wn : Int) - 1) = true := by rw [beq_iff_eq]; omega
          have HS3 := Lib.hid (show picTo Wn (conC xs1 xs2 av) (k + 1) = P2 ++ newlW by rw [HS2.out, HLE.out, if_pos hrl]; rfl)
          have hcat2 : ¬ 9223372036854775807 < P2.length + newlW.length := by omega
          clear hrl
          obtain ⟨k0, f0, l0⟩ := hM.row .here
          go_upto_region 16 with fail
          go_quiet (fail)
          go_wp2
          go_roundw
          case rel => exact ⟨k + 1, by omega, by go_num, by rw [HS3.out], by (repeat' (first | with_reducible exact hM | with_reducible exact hMp | with_reducible apply Mem.drew | with_reducible apply Mem.drewN | with_reducible apply Mem.alloc | with_reducible apply Mem.set | with_reducible exact Sto.row | ((with_reducible refine Sto.rowEq2 ?_ ?_); omega; rfl) | ((with_reducible refine Sto.rowEq ?_); omega) | with_reducible apply Sto.int | with_reducible apply Sto.there | with_reducible assumption | (unfold I64; omega) | (with_reducible (have hMx := Mem.undrew hM; exact hMx)) | (with_reducible (have hMx := Mem.undrew hMp; exact hMx))))⟩
          case measure => simp [intOf]; omega
        · have e1 : ((r : Int) == (Wn : Int) - 1) = false := by rw [beq_eq_false_iff_ne]; omega
          have HS3 := Lib.hid (show picTo Wn (conC xs1 xs2 av) (k + 1) = P2 by rw [HS2.out, HLE.out, if_neg hrl, List.append_nil])
          clear hrl
          obtain ⟨k0, f0, l0⟩ := hM.row .here
          go_upto_region 16 with fail
          go_quiet (fail)
          go_wp2
          go_roundw
          case rel => exact ⟨k + 1, by omega, by go_num, by rw [HS3.out], by (repeat' (first | with_reducible exact hM | with_reducible exact hMp | with_reducible apply Mem.drew | with_reducible apply Mem.drewN | with_reducible apply Mem.alloc | with_reducible apply Mem.set | with_reducible exact Sto.row | ((with_reducible refine Sto.rowEq2 ?_ ?_); omega; rfl) | ((with_reducible refine Sto.rowEq ?_); omega) | with_reducible apply Sto.int | with_reducible apply Sto.there | with_reducible assumption | (unfold I64; omega) | (with_reducible (have hMx := Mem.undrew hM; exact hMx)) | (with_reducible (have hMx := Mem.undrew hMp; exact hMx))))⟩
          case measure => simp [intOf]; omega
    · obtain rfl : k = n2 := by omega
      have HR2 : Hid (conT Wn xs1 xs2 av k tn cn = Pp ++ tickW ++ dt ++ recsW ++ dc ++ newlW) := Lib.hid (by rw [HR.out, ← HP0.out rfl])
      have e1 : ¬ 9223372036854775807 < Pp.length + tickW.length := by omega
      have e2 : ¬ 9223372036854775807 < (Pp ++ tickW).length + dt.length := by rw [List.length_append]; omega
      have e3 : ¬ 9223372036854775807 < (Pp ++ tickW ++ dt).length + recsW.length := by rw [List.length_append, List.length_append]; omega
      have e4 : ¬ 9223372036854775807 < (Pp ++ tickW ++ dt ++ recsW).length + dc.length := by rw [List.length_append, List.length_append, List.length_append]; omega
      have e5 : ¬ 9223372036854775807 < (Pp ++ tickW ++ dt ++ recsW ++ dc).length + newlW.length := by rw [List.length_append, List.length_append, List.length_append, List.length_append]; omega
      have e3' : ¬ 9223372036854775807 < (Pp ++ (tickW ++ dt)).length + recsW.length := by rw [List.length_append, List.length_append]; omega
      have e4' : ¬ 9223372036854775807 < (Pp ++ (tickW ++ (dt ++ recsW))).length + dc.length := by rw [List.length_append, List.length_append, List.length_append]; omega
      have e5' : ¬ 9223372036854775807 < (Pp ++ (tickW ++ (dt ++ (recsW ++ dc)))).length + newlW.length := by rw [List.length_append, List.length_append, List.length_append, List.length_append]; omega
      obtain ⟨k0, f0, l0⟩ := hM.row .here
      obtain ⟨k1, f1, l1⟩ := hM.row (.there .here)
      go_upto_region 18 with fail
      clear k0 f0 l0 k1 f1 l1
      apply Mem.atWpA
      · (repeat' (first | with_reducible exact hM | with_reducible exact hMp | with_reducible apply Mem.drew | with_reducible apply Mem.drewN | with_reducible apply Mem.alloc | with_reducible apply Mem.set | with_reducible exact Sto.row | ((with_reducible refine Sto.rowEq2 ?_ ?_); omega; rfl) | ((with_reducible refine Sto.rowEq ?_); omega) | with_reducible apply Sto.int | with_reducible apply Sto.there | with_reducible assumption | (unfold I64; omega) | (with_reducible (have hMx := Mem.undrew hM; exact hMx)) | (with_reducible (have hMx := Mem.undrew hMp; exact hMx))))
      clear hM
      intro wst hM
      (try simp only [World.size_alloc, World.size_setCell, World.heap_drewN, heapDrew, Nat.add_assoc, Nat.reduceAdd, List.setIfInBounds_toArray, List.set_cons_zero, List.set_cons_succ, List.cons_append, List.nil_append] at hM)
      refine AtT.startA hM hM 14 (by kernel_rfl) ?_
      clear hM
      intro wd hM
      have hS := hM
      refine AtT.taked (i := 0) (v := ?_) (some 69) rfl rfl (by kernel_rfl) (by kernel_rfl) (by kernel_rfl) (by kernel_rfl) (fun _ _ _ h => h) (Or.inl ⟨by kernel_rfl, ?_⟩) hS ?_
      rotate_left
      · (intro wS hSw; (try dsimp only at hSw); go_simp; (try rw [if_neg (by omega)]); try with_reducible rfl)
      simp only [Act.put, List.setIfInBounds_toArray, List.set_cons_zero, List.set_cons_succ]
      refine AtT.taked (i := 1) (v := ?_) (some 70) rfl rfl (by kernel_rfl) (by kernel_rfl) (by kernel_rfl) (by kernel_rfl) (fun _ _ _ h => h) (Or.inl ⟨by kernel_rfl, ?_⟩) hS ?_
      rotate_left
      · (intro wS hSw; (try dsimp only at hSw); go_simp; (try rw [if_neg (by omega)]); try with_reducible rfl)
      simp only [Act.put, List.setIfInBounds_toArray, List.set_cons_zero, List.set_cons_succ]
      refine AtT.taked (i := 2) (v := ?_) (some 71) rfl rfl (by kernel_rfl) (by kernel_rfl) (by kernel_rfl) (by kernel_rfl) (fun _ _ _ h => h) (Or.inl ⟨by kernel_rfl, ?_⟩) hS ?_
      rotate_left
      · (intro wS hSw; (try dsimp only at hSw); go_simp; (try rw [if_neg (by omega)]); try with_reducible rfl)
      simp only [Act.put, List.setIfInBounds_toArray, List.set_cons_zero, List.set_cons_succ]
      refine AtT.taked (i := 3) (v := ?_) (some 72) rfl rfl (by kernel_rfl) (by kernel_rfl) (by kernel_rfl) (by kernel_rfl) (fun _ _ _ h => h) (Or.inl ⟨by kernel_rfl, ?_⟩) hS ?_
      rotate_left
      · (intro wS hSw; (try dsimp only at hSw); have kr0 := (Mem.row hSw .here).cell; have kr1 := (Mem.row hSw (.there .here)).cell; go_simp; (try rw [if_neg (by omega)]); try with_reducible rfl)
      simp only [Act.put, List.setIfInBounds_toArray, List.set_cons_zero, List.set_cons_succ]
      refine AtT.taked (i := 7) (v := ?_) (some 76) rfl rfl (by kernel_rfl) (by kernel_rfl) (by kernel_rfl) (by kernel_rfl) (fun _ _ _ h => h) (Or.inl ⟨by kernel_rfl, ?_⟩) hS ?_
      rotate_left
      · (intro wS hSw; (try dsimp only at hSw); go_simp; (try rw [if_neg (by omega)]); try with_reducible rfl)
      simp only [Act.put, List.setIfInBounds_toArray, List.set_cons_zero, List.set_cons_succ]
      refine AtT.taked (i := 8) (v := ?_) (some 77) rfl rfl (by kernel_rfl) (by kernel_rfl) (by kernel_rfl) (by kernel_rfl) (fun _ _ _ h => h) (Or.inl ⟨by kernel_rfl, ?_⟩) hS ?_
      rotate_left
      · (intro wS hSw; (try dsimp only at hSw); go_simp; (try rw [if_neg (by omega)]); try with_reducible rfl)
      simp only [Act.put, List.setIfInBounds_toArray, List.set_cons_zero, List.set_cons_succ]
      refine AtT.taked (i := 9) (v := ?_) (some 78) rfl rfl (by kernel_rfl) (by kernel_rfl) (by kernel_rfl) (by kernel_rfl) (fun _ _ _ h => h) (Or.inl ⟨by kernel_rfl, ?_⟩) hS ?_
      rotate_left
      · (intro wS hSw; (try dsimp only at hSw); have kr0 := (Mem.row hSw .here).cell; have kr1 := (Mem.row hSw (.there .here)).cell; go_simp; (try rw [if_neg (by omega)]); try with_reducible rfl)
      simp only [Act.put, List.setIfInBounds_toArray, List.set_cons_zero, List.set_cons_succ]
      refine AtT.only (i := 4) (by kernel_rfl) rfl rfl ?_
      intro K hK
      go_simp
      refine (HI1.out _).mono ?_
      rintro e w5 ⟨rfl, hb⟩
      replace hM := hM.ext hb
      clear hb
      try dsimp only
      refine hK.out _ _ (hM) ?_
      clear hK K hS
      have hS := hM
      refine AtT.taked (i := 5) (v := ?_) (some 74) rfl rfl (by kernel_rfl) (by kernel_rfl) (by kernel_rfl) (by kernel_rfl) (fun _ _ _ h => h) (Or.inl ⟨by kernel_rfl, ?_⟩) hS ?_
      rotate_left
      · (intro wS hSw; (try dsimp only at hSw); go_simp; (try rw [if_neg (by omega)]); try with_reducible rfl)
      simp only [Act.put, List.setIfInBounds_toArray, List.set_cons_zero, List.set_cons_succ]
      refine AtT.taked (i := 6) (v := ?_) (some 75) rfl rfl (by kernel_rfl) (by kernel_rfl) (by kernel_rfl) (by kernel_rfl) (fun _ _ _ h => h) (Or.inl ⟨by kernel_rfl, ?_⟩) hS ?_
      rotate_left
      · (intro wS hSw; (try dsimp only at hSw); go_simp; (try rw [if_neg (by omega)]); try with_reducible rfl)
      simp only [Act.put, List.setIfInBounds_toArray, List.set_cons_zero, List.set_cons_succ]
      refine AtT.only (i := 10) (by kernel_rfl) rfl rfl ?_
      intro K hK
      go_simp
      refine (HI2.out _).mono ?_
      rintro e w6 ⟨rfl, hb⟩
      replace hM := hM.ext hb
      clear hb
      try dsimp only
      refine hK.out _ _ (hM) ?_
      clear hK K hS
      have hS := hM
      refine AtT.taked (i := 11) (v := ?_) (some 80) rfl rfl (by kernel_rfl) (by kernel_rfl) (by kernel_rfl) (by kernel_rfl) (fun _ _ _ h => h) (Or.inl ⟨by kernel_rfl, ?_⟩) hS ?_
      rotate_left
      · (intro wS hSw; (try dsimp only at hSw); go_simp; (try rw [if_neg (by omega)]); try with_reducible rfl)
      simp only [Act.put, List.setIfInBounds_toArray, List.set_cons_zero, List.set_cons_succ]
      refine AtT.taked (i := 12) (v := ?_) (some 81) rfl rfl (by kernel_rfl) (by kernel_rfl) (by kernel_rfl) (by kernel_rfl) (fun _ _ _ h => h) (Or.inl ⟨by kernel_rfl, ?_⟩) hS ?_
      rotate_left
      · (intro wS hSw; (try dsimp only at hSw); go_simp; (try rw [if_neg (by omega)]); try with_reducible rfl)
      simp only [Act.put, List.setIfInBounds_toArray, List.set_cons_zero, List.set_cons_succ]
      refine AtT.taked (i := 13) (v := ?_) (some 2) rfl rfl (by kernel_rfl) (by kernel_rfl) (by kernel_rfl) (by kernel_rfl) (fun _ _ _ h => h) (Or.inl ⟨by kernel_rfl, ?_⟩) hS ?_
      rotate_left
      · (intro wS hSw; (try dsimp only at hSw); go_simp; (try rw [if_neg (by omega)]); try with_reducible rfl)
      simp only [Act.put, List.setIfInBounds_toArray, List.set_cons_zero, List.set_cons_succ]
      refine AtT.last (by kernel_rfl) rfl (by kernel_rfl) ?_
      intro K hK
      clear hS
      go_simp
      refine hK.out _ _ ?_
      clear hK K
      go_wp2
      go_ret2
      exact ⟨by rw [HR2.out]; first | rfl | simp [List.append_assoc], (by apply Mem.below; (repeat' (first | with_reducible exact hM | with_reducible exact hMp | with_reducible apply Mem.drew | with_reducible apply Mem.drewN | with_reducible apply Mem.alloc | with_reducible apply Mem.set | with_reducible exact Sto.row | ((with_reducible refine Sto.rowEq2 ?_ ?_); omega; rfl) | ((with_reducible refine Sto.rowEq ?_); omega) | with_reducible apply Sto.int | with_reducible apply Sto.there | with_reducible assumption | (unfold I64; omega) | (with_reducible (have hMx := Mem.undrew hM; exact hMx)) | (with_reducible (have hMx := Mem.undrew hMp; exact hMx)))))⟩
end Go.Proofs.YtpflnmejbialjaaGreatDoor
