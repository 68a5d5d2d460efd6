/-
  Phases: the specification's test is phasesB.
-/
import Derived.Test.YtojfbcgfeojdfaaGreatKRise
/-
  Phases: the specification's test is phasesB.
-/
namespace Go.Proofs.YtojfbcgfeojdfaaGreat
set_option linter.unusedSimpArgs false
set_option linter.unusedVariables false
open Go.RowKit

set_option maxRecDepth 100000 in
set_option maxHeartbeats 4000000 in
set_option maxRecDepth 100000 in
set_option maxHeartbeats 30000000 in
theorem l4Phases_any (a1 : Option Addr) (n1 c1 : Nat) (ph : List PhaseI) (w : World) (h1 : Rd FPhase w a1 n1 c1 ph) :
    Calls Tryz.prog 80 #[.slice a1 n1 c1] w (fun e w' => e = .returned (.bool (phasesB ph)) ∧ Below w.heap.size w w') := by
  have hM := Mem.start w
  have hrm := h1.nroom
  have HL := Lib.hid h1.len
  have HBAD := Lib.hid (fun k (hk : k < n1) => phases_bad (l := ph) (k := k) (by rw [h1.len]; exact hk))
  cases hin : inB n1 1 6
  · have HR := Lib.hid (phases_len (l := ph) (by rw [h1.len]; exact hin))
    have HIN := Lib.hid hin; clear hin
    go_enter Tryz.func80, Tryz.ntmps80
    go_wp2_with (go_at_call 81; refine (l1In_any _ _ _ _).mono ?_; rintro e w' ⟨rfl, rfl⟩; rw [HIN.out])
    go_ret
    exact ⟨rb HR.out.symm, (by apply Mem.below; (exact memA))⟩
  have hb := inB_true hin
  have hz1 : 0 < n1 := by omega
  obtain ⟨bl, offl, rfl, -, -⟩ := h1.at' _ hz1
  obtain ⟨-, hz, -⟩ := h1.cellPhase hz1
  obtain ⟨z, hzz⟩ : ∃ z, (ph.getD 0 PhaseI.zero).fr = z := ⟨_, rfl⟩
  have HNZ := Lib.hid (fun (hh : (ph.getD 0 PhaseI.zero).fr ≠ 0) => phases_zero (l := ph) (by rw [h1.len]; exact hin) hh)
  rw [hzz, show offl + 0 * 2 = offl by omega] at hz
  have HZ := Lib.hid hzz
  have HIN := Lib.hid hin; clear hin hzz hb
  have z0 : (0 : Int) < (n1 : Int) := by omega
  by_cases hz0 : z = 0
  case neg =>
    have HR := Lib.hid (HNZ.out (by rw [HZ.out]; exact hz0))
    go_enter Tryz.func80, Tryz.ntmps80
    go_wp2_with (go_at_call 81; refine (l1In_any _ _ _ _).mono ?_; rintro e w' ⟨rfl, rfl⟩; rw [HIN.out])
    go_ret
    exact ⟨rb HR.out.symm, (by apply Mem.below; (exact memA))⟩
  subst hz0
  have HEND := Lib.hid (fun (hh : phTo ph n1 = true) => show phasesB ph = true by rw [phases_to, h1.len, hh, HIN.out]; rfl)
  go_enter Tryz.func80, Tryz.ntmps80
  go_wp2_with (go_at_call 81; refine (l1In_any _ _ _ _).mono ?_; rintro e w' ⟨rfl, rfl⟩; rw [HIN.out])
  clear hz
  go_loopw [3] (fun s3 wr => ∃ k : Nat, k ≤ n1 ∧ s3 = .int .i64 k ∧ phTo ph k = true ∧ Mem w.heap.size w wr []) (fun s3 _ => n1 - (intOf s3).toNat)
  case atStart => exact ⟨0, Nat.zero_le _, rfl, rfl, hM⟩
  case round =>
    clear hM
    obtain ⟨k, hk, rfl, hto, hM⟩ := hrel
    have HTO := Lib.hid hto; clear hto
    by_cases hlt : k < n1
    · obtain ⟨v, hv⟩ : ∃ v, ph.getD k PhaseI.zero = v := ⟨_, rfl⟩
      have HOK : Hid (phOK ph k = (inB v.fr 0 9999 && inB v.sp 1 9 && (if k = 0 then decide (v.fr = 0) else decide ((ph.getD (k - 1) PhaseI.zero).fr < v.fr)))) := Lib.hid (by rw [phOK, hv])
      obtain ⟨vf, vs⟩ := v
      dsimp only at HOK
      have HV := Lib.hid hv
      clear hv
      have i0 : (0 : Int) ≤ (k : Int) := by omega
      have i1 : (k : Int) < (n1 : Int) := by omega
      go_wp2_with fail
      apply Mem.atWp
      · exact memA
      clear hM
      intro hM
      cases ha : inB vf 0 9999
      · have HR := Lib.hid (HBAD.out k hlt (by rw [HOK.out, ha]; rfl))
        have HA := Lib.hid ha; clear ha
        refine AtT.startA hM hM 33 (by kernel_rfl) ?_
        clear hM
        intro wd hM
        have hS := hM
        refine AtT.tk 0 ?_ 21 ?_ hS ?_
        rotate_left
        · (intro wS hSw; (try dsimp only at hSw); go_simp; (try rw [if_neg (by omega)]); try with_reducible rfl)
        simp only [Act.put, sA]
        refine AtT.tk 1 ?_ 22 ?_ hS ?_
        rotate_left
        · (intro wS hSw; (try dsimp only at hSw); go_simp; (try rw [if_neg (by omega)]); try with_reducible rfl)
        simp only [Act.put, sA]
        refine AtT.tk 2 ?_ 23 ?_ hS ?_
        rotate_left
        · (intro wS hSw; (try dsimp only at hSw); have hc0 := ((h1.ext hSw.below).cellPhase hlt).2.1; have hc1 := ((h1.ext hSw.below).cellPhase hlt).2.2; rw [HV.out] at hc0 hc1; dsimp only at hc0 hc1; go_simp; (try rw [if_neg (by omega)]); try with_reducible rfl)
        simp only [Act.put, sA]
        refine AtT.tk 3 ?_ 24 ?_ hS ?_
        rotate_left
        · (intro wS hSw; (try dsimp only at hSw); go_simp; (try rw [if_neg (by omega)]); try with_reducible rfl)
        simp only [Act.put, sA]
        refine AtT.tk 4 ?_ 25 ?_ hS ?_
        rotate_left
        · (intro wS hSw; (try dsimp only at hSw); have hc0 := ((h1.ext hSw.below).cellPhase hlt).2.1; have hc1 := ((h1.ext hSw.below).cellPhase hlt).2.2; rw [HV.out] at hc0 hc1; dsimp only at hc0 hc1; go_simp; (try rw [if_neg (by omega)]); try with_reducible rfl)
        simp only [Act.put, sA]
        refine AtT.only (i := 5) (by kernel_rfl) rfl rfl ?_
        intro K hK
        go_simp
        refine (phTickS_any _ _).mono ?_
        rw [HA.out]
        rintro e w3 ⟨rfl, rfl⟩
        try dsimp only
        refine hK.out _ _ (hM) ?_
        clear hK K hS
        have hS := hM
        refine AtT.tk 6 ?_ 27 ?_ hS ?_
        rotate_left
        · (intro wS hSw; (try dsimp only at hSw); go_simp; (try rw [if_neg (by omega)]); try with_reducible rfl)
        simp only [Act.put, sA]
        refine AtT.tk 7 ?_ 28 ?_ hS ?_
        rotate_left
        · (intro wS hSw; (try dsimp only at hSw); go_simp; (try rw [if_neg (by omega)]); try with_reducible rfl)
        simp only [Act.put, sA]
        refine AtT.tn 8 29 hS ?_
        simp only [Act.put, sA]
        refine AtT.tn 9 30 hS ?_
        simp only [Act.put, sA]
        refine AtT.tn 10 31 hS ?_
        simp only [Act.put, sA]
        refine AtT.tn 11 32 hS ?_
        simp only [Act.put, sA]
        refine AtT.tn 12 33 hS ?_
        simp only [Act.put, sA]
        refine AtT.tn 13 34 hS ?_
        simp only [Act.put, sA]
        refine AtT.tn 14 35 hS ?_
        simp only [Act.put, sA]
        refine AtT.tk 15 ?_ 36 ?_ hS ?_
        rotate_left
        · (intro wS hSw; (try dsimp only at hSw); go_simp; (try rw [if_neg (by omega)]); try with_reducible rfl)
        simp only [Act.put, sA]
        refine AtT.tk 16 ?_ 37 ?_ hS ?_
        rotate_left
        · (intro wS hSw; (try dsimp only at hSw); go_simp; (try rw [if_neg (by omega)]); try with_reducible rfl)
        simp only [Act.put, sA]
        refine AtT.tn 17 38 hS ?_
        simp only [Act.put, sA]
        refine AtT.tn 18 39 hS ?_
        simp only [Act.put, sA]
        refine AtT.tn 19 40 hS ?_
        simp only [Act.put, sA]
        refine AtT.tn 20 41 hS ?_
        simp only [Act.put, sA]
        refine AtT.tn 21 42 hS ?_
        simp only [Act.put, sA]
        refine AtT.tn 22 43 hS ?_
        simp only [Act.put, sA]
        refine AtT.tn 23 44 hS ?_
        simp only [Act.put, sA]
        refine AtT.tn 24 45 hS ?_
        simp only [Act.put, sA]
        refine AtT.tn 25 46 hS ?_
        simp only [Act.put, sA]
        refine AtT.tn 26 47 hS ?_
        simp only [Act.put, sA]
        refine AtT.tn 27 48 hS ?_
        simp only [Act.put, sA]
        refine AtT.tn 28 49 hS ?_
        simp only [Act.put, sA]
        refine AtT.tn 29 50 hS ?_
        simp only [Act.put, sA]
        refine AtT.tn 30 51 hS ?_
        simp only [Act.put, sA]
        refine AtT.tn 31 52 hS ?_
        simp only [Act.put, sA]
        refine AtT.tn 32 53 hS ?_
        simp only [Act.put, sA]
        refine AtT.last (by kernel_rfl) rfl (by kernel_rfl) ?_
        intro K hK
        clear hS
        go_simp
        refine hK.out _ _ ?_
        clear hK K
        go_wp2
        go_ret
        exact ⟨rb HR.out.symm, hM.below⟩
      cases hb : inB vs 1 9
      · have HR := Lib.hid (HBAD.out k hlt (by rw [HOK.out, ha, hb]; rfl))
        have HA := Lib.hid ha; clear ha
        have HB := Lib.hid hb; clear hb
        refine AtT.startA hM hM 33 (by kernel_rfl) ?_
        clear hM
        intro wd hM
        have hS := hM
        refine AtT.tk 0 ?_ 21 ?_ hS ?_
        rotate_left
        · (intro wS hSw; (try dsimp only at hSw); go_simp; (try rw [if_neg (by omega)]); try with_reducible rfl)
        simp only [Act.put, sA]
        refine AtT.tk 1 ?_ 22 ?_ hS ?_
        rotate_left
        · (intro wS hSw; (try dsimp only at hSw); go_simp; (try rw [if_neg (by omega)]); try with_reducible rfl)
        simp only [Act.put, sA]
        refine AtT.tk 2 ?_ 23 ?_ hS ?_
        rotate_left
        · (intro wS hSw; (try dsimp only at hSw); have hc0 := ((h1.ext hSw.below).cellPhase hlt).2.1; have hc1 := ((h1.ext hSw.below).cellPhase hlt).2.2; rw [HV.out] at hc0 hc1; dsimp only at hc0 hc1; go_simp; (try rw [if_neg (by omega)]); try with_reducible rfl)
        simp only [Act.put, sA]
        refine AtT.tk 3 ?_ 24 ?_ hS ?_
        rotate_left
        · (intro wS hSw; (try dsimp only at hSw); go_simp; (try rw [if_neg (by omega)]); try with_reducible rfl)
        simp only [Act.put, sA]
        refine AtT.tk 4 ?_ 25 ?_ hS ?_
        rotate_left
        · (intro wS hSw; (try dsimp only at hSw); have hc0 := ((h1.ext hSw.below).cellPhase hlt).2.1; have hc1 := ((h1.ext hSw.below).cellPhase hlt).2.2; rw [HV.out] at hc0 hc1; dsimp only at hc0 hc1; go_simp; (try rw [if_neg (by omega)]); try with_reducible rfl)
        simp only [Act.put, sA]
        refine AtT.only (i := 5) (by kernel_rfl) rfl rfl ?_
        intro K hK
        go_simp
        refine (phTickS_any _ _).mono ?_
        rw [HA.out]
        rintro e w3 ⟨rfl, rfl⟩
        try dsimp only
        refine hK.out _ _ (hM) ?_
        clear hK K hS
        have hS := hM
        refine AtT.tk 6 ?_ 27 ?_ hS ?_
        rotate_left
        · (intro wS hSw; (try dsimp only at hSw); go_simp; (try rw [if_neg (by omega)]); try with_reducible rfl)
        simp only [Act.put, sA]
        refine AtT.tk 7 ?_ 28 ?_ hS ?_
        rotate_left
        · (intro wS hSw; (try dsimp only at hSw); go_simp; (try rw [if_neg (by omega)]); try with_reducible rfl)
        simp only [Act.put, sA]
        refine AtT.tk 8 ?_ 29 ?_ hS ?_
        rotate_left
        · (intro wS hSw; (try dsimp only at hSw); go_simp; (try rw [if_neg (by omega)]); try with_reducible rfl)
        simp only [Act.put, sA]
        refine AtT.tk 9 ?_ 30 ?_ hS ?_
        rotate_left
        · (intro wS hSw; (try dsimp only at hSw); go_simp; (try rw [if_neg (by omega)]); try with_reducible rfl)
        simp only [Act.put, sA]
        refine AtT.tk 10 ?_ 31 ?_ hS ?_
        rotate_left
        · (intro wS hSw; (try dsimp only at hSw); have hc0 := ((h1.ext hSw.below).cellPhase hlt).2.1; have hc1 := ((h1.ext hSw.below).cellPhase hlt).2.2; rw [HV.out] at hc0 hc1; dsimp only at hc0 hc1; go_simp; (try rw [if_neg (by omega)]); try with_reducible rfl)
        simp only [Act.put, sA]
        refine AtT.tk 11 ?_ 32 ?_ hS ?_
        rotate_left
        · (intro wS hSw; (try dsimp only at hSw); go_simp; (try rw [if_neg (by omega)]); try with_reducible rfl)
        simp only [Act.put, sA]
        refine AtT.tk 12 ?_ 33 ?_ hS ?_
        rotate_left
        · (intro wS hSw; (try dsimp only at hSw); have hc0 := ((h1.ext hSw.below).cellPhase hlt).2.1; have hc1 := ((h1.ext hSw.below).cellPhase hlt).2.2; rw [HV.out] at hc0 hc1; dsimp only at hc0 hc1; go_simp; (try rw [if_neg (by omega)]); try with_reducible rfl)
        simp only [Act.put, sA]
        refine AtT.only (i := 13) (by kernel_rfl) rfl rfl ?_
        intro K hK
        go_simp
        refine (l1In_any _ _ _ _).mono ?_
        rw [HB.out]
        rintro e w3 ⟨rfl, rfl⟩
        try dsimp only
        refine hK.out _ _ (hM) ?_
        clear hK K hS
        have hS := hM
        refine AtT.tk 14 ?_ 35 ?_ hS ?_
        rotate_left
        · (intro wS hSw; (try dsimp only at hSw); go_simp; (try rw [if_neg (by omega)]); try with_reducible rfl)
        simp only [Act.put, sA]
        refine AtT.tk 15 ?_ 36 ?_ hS ?_
        rotate_left
        · (intro wS hSw; (try dsimp only at hSw); go_simp; (try rw [if_neg (by omega)]); try with_reducible rfl)
        simp only [Act.put, sA]
        refine AtT.tk 16 ?_ 37 ?_ hS ?_
        rotate_left
        · (intro wS hSw; (try dsimp only at hSw); go_simp; (try rw [if_neg (by omega)]); try with_reducible rfl)
        simp only [Act.put, sA]
        refine AtT.tn 17 38 hS ?_
        simp only [Act.put, sA]
        refine AtT.tn 18 39 hS ?_
        simp only [Act.put, sA]
        refine AtT.tn 19 40 hS ?_
        simp only [Act.put, sA]
        refine AtT.tn 20 41 hS ?_
        simp only [Act.put, sA]
        refine AtT.tn 21 42 hS ?_
        simp only [Act.put, sA]
        refine AtT.tn 22 43 hS ?_
        simp only [Act.put, sA]
        refine AtT.tn 23 44 hS ?_
        simp only [Act.put, sA]
        refine AtT.tn 24 45 hS ?_
        simp only [Act.put, sA]
        refine AtT.tn 25 46 hS ?_
        simp only [Act.put, sA]
        refine AtT.tn 26 47 hS ?_
        simp only [Act.put, sA]
        refine AtT.tn 27 48 hS ?_
        simp only [Act.put, sA]
        refine AtT.tn 28 49 hS ?_
        simp only [Act.put, sA]
        refine AtT.tn 29 50 hS ?_
        simp only [Act.put, sA]
        refine AtT.tn 30 51 hS ?_
        simp only [Act.put, sA]
        refine AtT.tn 31 52 hS ?_
        simp only [Act.put, sA]
        refine AtT.tn 32 53 hS ?_
        simp only [Act.put, sA]
        refine AtT.last (by kernel_rfl) rfl (by kernel_rfl) ?_
        intro K hK
        clear hS
        go_simp
        refine hK.out _ _ ?_
        clear hK K
        go_wp2
        go_ret
        exact ⟨rb HR.out.symm, hM.below⟩
      have HOK1 : Hid (phOK ph k = (if k = 0 then decide (vf = 0) else decide ((ph.getD (k - 1) PhaseI.zero).fr < vf))) := Lib.hid (by rw [HOK.out, ha, hb]; rfl)
      have HA := Lib.hid ha; clear ha
      have HB := Lib.hid hb; clear hb
      by_cases hk0 : k = 0
      · subst hk0
        have e0 : ((0 : Nat) : Int) = 0 := rfl
        have hvz : vf = 0 := by have := HZ.out; rw [HV.out] at this; exact this
        have HR := Lib.hid (show phTo ph (0 + 1) = true by rw [phTo_succ, HTO.out, HOK1.out, if_pos rfl]; simpa using hvz)
        clear hvz
        refine AtT.startA hM hM 33 (by kernel_rfl) ?_
        clear hM
        intro wd hM
        have hS := hM
        refine AtT.tk 0 ?_ 21 ?_ hS ?_
        rotate_left
        · (intro wS hSw; (try dsimp only at hSw); go_simp; (try rw [if_neg (by omega)]); try with_reducible rfl)
        simp only [Act.put, sA]
        refine AtT.tk 1 ?_ 22 ?_ hS ?_
        rotate_left
        · (intro wS hSw; (try dsimp only at hSw); go_simp; (try rw [if_neg (by omega)]); try with_reducible rfl)
        simp only [Act.put, sA]
        refine AtT.tk 2 ?_ 23 ?_ hS ?_
        rotate_left
        · (intro wS hSw; (try dsimp only at hSw); have hc0 := ((h1.ext hSw.below).cellPhase hlt).2.1; have hc1 := ((h1.ext hSw.below).cellPhase hlt).2.2; rw [HV.out] at hc0 hc1; dsimp only at hc0 hc1; rw [Nat.zero_mul, Nat.add_zero] at hc0 hc1; go_simp; (try rw [if_neg (by omega)]); try with_reducible rfl)
        simp only [Act.put, sA]
        refine AtT.tk 3 ?_ 24 ?_ hS ?_
        rotate_left
        · (intro wS hSw; (try dsimp only at hSw); go_simp; (try rw [if_neg (by omega)]); try with_reducible rfl)
        simp only [Act.put, sA]
        refine AtT.tk 4 ?_ 25 ?_ hS ?_
        rotate_left
        · (intro wS hSw; (try dsimp only at hSw); have hc0 := ((h1.ext hSw.below).cellPhase hlt).2.1; have hc1 := ((h1.ext hSw.below).cellPhase hlt).2.2; rw [HV.out] at hc0 hc1; dsimp only at hc0 hc1; rw [Nat.zero_mul, Nat.add_zero] at hc0 hc1; go_simp; (try rw [if_neg (by omega)]); try with_reducible rfl)
        simp only [Act.put, sA]
        refine AtT.only (i := 5) (by kernel_rfl) rfl rfl ?_
        intro K hK
        go_simp
        refine (phTickS_any _ _).mono ?_
        rw [HA.out]
        rintro e w3 ⟨rfl, rfl⟩
        try dsimp only
        refine hK.out _ _ (hM) ?_
        clear hK K hS
        have hS := hM
        refine AtT.tk 6 ?_ 27 ?_ hS ?_
        rotate_left
        · (intro wS hSw; (try dsimp only at hSw); go_simp; (try rw [if_neg (by omega)]); try with_reducible rfl)
        simp only [Act.put, sA]
        refine AtT.tk 7 ?_ 28 ?_ hS ?_
        rotate_left
        · (intro wS hSw; (try dsimp only at hSw); go_simp; (try rw [if_neg (by omega)]); try with_reducible rfl)
        simp only [Act.put, sA]
        refine AtT.tk 8 ?_ 29 ?_ hS ?_
        rotate_left
        · (intro wS hSw; (try dsimp only at hSw); go_simp; (try rw [if_neg (by omega)]); try with_reducible rfl)
        simp only [Act.put, sA]
        refine AtT.tk 9 ?_ 30 ?_ hS ?_
        rotate_left
        · (intro wS hSw; (try dsimp only at hSw); go_simp; (try rw [if_neg (by omega)]); try with_reducible rfl)
        simp only [Act.put, sA]
        refine AtT.tk 10 ?_ 31 ?_ hS ?_
        rotate_left
        · (intro wS hSw; (try dsimp only at hSw); have hc0 := ((h1.ext hSw.below).cellPhase hlt).2.1; have hc1 := ((h1.ext hSw.below).cellPhase hlt).2.2; rw [HV.out] at hc0 hc1; dsimp only at hc0 hc1; rw [Nat.zero_mul, Nat.add_zero] at hc0 hc1; go_simp; (try rw [if_neg (by omega)]); try with_reducible rfl)
        simp only [Act.put, sA]
        refine AtT.tk 11 ?_ 32 ?_ hS ?_
        rotate_left
        · (intro wS hSw; (try dsimp only at hSw); go_simp; (try rw [if_neg (by omega)]); try with_reducible rfl)
        simp only [Act.put, sA]
        refine AtT.tk 12 ?_ 33 ?_ hS ?_
        rotate_left
        · (intro wS hSw; (try dsimp only at hSw); have hc0 := ((h1.ext hSw.below).cellPhase hlt).2.1; have hc1 := ((h1.ext hSw.below).cellPhase hlt).2.2; rw [HV.out] at hc0 hc1; dsimp only at hc0 hc1; rw [Nat.zero_mul, Nat.add_zero] at hc0 hc1; go_simp; (try rw [if_neg (by omega)]); try with_reducible rfl)
        simp only [Act.put, sA]
        refine AtT.only (i := 13) (by kernel_rfl) rfl rfl ?_
        intro K hK
        go_simp
        refine (l1In_any _ _ _ _).mono ?_
        rw [HB.out]
        rintro e w3 ⟨rfl, rfl⟩
        try dsimp only
        refine hK.out _ _ (hM) ?_
        clear hK K hS
        have hS := hM
        refine AtT.tk 14 ?_ 35 ?_ hS ?_
        rotate_left
        · (intro wS hSw; (try dsimp only at hSw); go_simp; (try rw [if_neg (by omega)]); try with_reducible rfl)
        simp only [Act.put, sA]
        refine AtT.tk 15 ?_ 36 ?_ hS ?_
        rotate_left
        · (intro wS hSw; (try dsimp only at hSw); go_simp; (try rw [if_neg (by omega)]); try with_reducible rfl)
        simp only [Act.put, sA]
        refine AtT.tk 16 ?_ 37 ?_ hS ?_
        rotate_left
        · (intro wS hSw; (try dsimp only at hSw); go_simp; (try rw [if_neg (by omega)]); try with_reducible rfl)
        simp only [Act.put, sA]
        refine AtT.tk 17 ?_ 38 ?_ hS ?_
        rotate_left
        · (intro wS hSw; (try dsimp only at hSw); go_simp; (try rw [if_neg (by omega)]); try with_reducible rfl)
        simp only [Act.put, sA]
        refine AtT.tk 18 ?_ 39 ?_ hS ?_
        rotate_left
        · (intro wS hSw; (try dsimp only at hSw); go_simp; (try rw [if_neg (by omega)]); try with_reducible rfl)
        simp only [Act.put, sA]
        refine AtT.tk 19 ?_ 40 ?_ hS ?_
        rotate_left
        · (intro wS hSw; (try dsimp only at hSw); go_simp; (try rw [if_neg (by omega)]); try with_reducible rfl)
        simp only [Act.put, sA]
        refine AtT.tn 20 41 hS ?_
        simp only [Act.put, sA]
        refine AtT.tn 21 42 hS ?_
        simp only [Act.put, sA]
        refine AtT.tn 22 43 hS ?_
        simp only [Act.put, sA]
        refine AtT.tn 23 44 hS ?_
        simp only [Act.put, sA]
        refine AtT.tn 24 45 hS ?_
        simp only [Act.put, sA]
        refine AtT.tn 25 46 hS ?_
        simp only [Act.put, sA]
        refine AtT.tn 26 47 hS ?_
        simp only [Act.put, sA]
        refine AtT.tn 27 48 hS ?_
        simp only [Act.put, sA]
        refine AtT.tn 28 49 hS ?_
        simp only [Act.put, sA]
        refine AtT.tn 29 50 hS ?_
        simp only [Act.put, sA]
        refine AtT.tn 30 51 hS ?_
        simp only [Act.put, sA]
        refine AtT.tn 31 52 hS ?_
        simp only [Act.put, sA]
        refine AtT.tk 32 ?_ 53 ?_ hS ?_
        rotate_left
        · (intro wS hSw; (try dsimp only at hSw); go_simp; (try rw [if_neg (by omega)]); try with_reducible rfl)
        simp only [Act.put, sA]
        refine AtT.last (by kernel_rfl) rfl (by kernel_rfl) ?_
        intro K hK
        clear hS
        go_simp
        refine hK.out _ _ ?_
        clear hK K
        go_wp2
        go_roundw
        case rel => exact ⟨0 + 1, by omega, by go_num, HR.out, hM⟩
        case measure => simp [intOf]; omega
      obtain ⟨j, rfl⟩ : ∃ j, k = j + 1 := ⟨k - 1, by omega⟩
      have hj : j < n1 := by omega
      have hwj : IntKind.i64.wrap (((j + 1 : Nat) : Int) - 1) = (j : Int) := by rw [wrap_in (by omega)]; omega
      have hwj2 : IntKind.i64.wrap (j : Int) = (j : Int) := wrap_in (by omega)
      have e0 : ¬ ((j + 1 : Nat) : Int) = 0 := by omega
      have e1 : (0 : Int) < ((j + 1 : Nat) : Int) := by omega
      have j0 : (0 : Int) ≤ (j : Int) := by omega
      have i2 : (0 : Int) ≤ (j : Int) + 1 := by omega
      have i3 : (j : Int) + 1 < (n1 : Int) := by omega
      have j1 : (j : Int) < (n1 : Int) := by omega
      obtain ⟨u, hu⟩ : ∃ u, (ph.getD j PhaseI.zero).fr = u := ⟨_, rfl⟩
      have HOK2 : Hid (phOK ph (j + 1) = decide (u < vf)) := Lib.hid (by rw [HOK1.out, if_neg hk0, Nat.add_sub_cancel, hu])
      have HU := Lib.hid hu
      clear hu hk0
      refine AtT.startA hM hM 33 (by kernel_rfl) ?_
      clear hM
      intro wd hM
      have hS := hM
      refine AtT.tk 0 ?_ 21 ?_ hS ?_
      rotate_left
      · (intro wS hSw; (try dsimp only at hSw); go_simp; (try rw [if_neg (by omega)]); try with_reducible rfl)
      simp only [Act.put, sA]
      refine AtT.tk 1 ?_ 22 ?_ hS ?_
      rotate_left
      · (intro wS hSw; (try dsimp only at hSw); go_simp; (try rw [if_neg (by omega)]); try with_reducible rfl)
      simp only [Act.put, sA]
      refine AtT.tk 2 ?_ 23 ?_ hS ?_
      rotate_left
      · (intro wS hSw; (try dsimp only at hSw); have hc0 := ((h1.ext hSw.below).cellPhase hlt).2.1; have hc1 := ((h1.ext hSw.below).cellPhase hlt).2.2; rw [HV.out] at hc0 hc1; dsimp only at hc0 hc1; have hd0 := ((h1.ext hSw.below).cellPhase hj).2.1; rw [HU.out] at hd0; go_simp; (try rw [if_neg (by omega)]); try with_reducible rfl)
      simp only [Act.put, sA]
      refine AtT.tk 3 ?_ 24 ?_ hS ?_
      rotate_left
      · (intro wS hSw; (try dsimp only at hSw); go_simp; (try rw [if_neg (by omega)]); try with_reducible rfl)
      simp only [Act.put, sA]
      refine AtT.tk 4 ?_ 25 ?_ hS ?_
      rotate_left
      · (intro wS hSw; (try dsimp only at hSw); have hc0 := ((h1.ext hSw.below).cellPhase hlt).2.1; have hc1 := ((h1.ext hSw.below).cellPhase hlt).2.2; rw [HV.out] at hc0 hc1; dsimp only at hc0 hc1; have hd0 := ((h1.ext hSw.below).cellPhase hj).2.1; rw [HU.out] at hd0; go_simp; (try rw [if_neg (by omega)]); try with_reducible rfl)
      simp only [Act.put, sA]
      refine AtT.only (i := 5) (by kernel_rfl) rfl rfl ?_
      intro K hK
      go_simp
      refine (phTickS_any _ _).mono ?_
      rw [HA.out]
      rintro e w3 ⟨rfl, rfl⟩
      try dsimp only
      refine hK.out _ _ (hM) ?_
      clear hK K hS
      have hS := hM
      refine AtT.tk 6 ?_ 27 ?_ hS ?_
      rotate_left
      · (intro wS hSw; (try dsimp only at hSw); go_simp; (try rw [if_neg (by omega)]); try with_reducible rfl)
      simp only [Act.put, sA]
      refine AtT.tk 7 ?_ 28 ?_ hS ?_
      rotate_left
      · (intro wS hSw; (try dsimp only at hSw); go_simp; (try rw [if_neg (by omega)]); try with_reducible rfl)
      simp only [Act.put, sA]
      refine AtT.tk 8 ?_ 29 ?_ hS ?_
      rotate_left
      · (intro wS hSw; (try dsimp only at hSw); go_simp; (try rw [if_neg (by omega)]); try with_reducible rfl)
      simp only [Act.put, sA]
      refine AtT.tk 9 ?_ 30 ?_ hS ?_
      rotate_left
      · (intro wS hSw; (try dsimp only at hSw); go_simp; (try rw [if_neg (by omega)]); try with_reducible rfl)
      simp only [Act.put, sA]
      refine AtT.tk 10 ?_ 31 ?_ hS ?_
      rotate_left
      · (intro wS hSw; (try dsimp only at hSw); have hc0 := ((h1.ext hSw.below).cellPhase hlt).2.1; have hc1 := ((h1.ext hSw.below).cellPhase hlt).2.2; rw [HV.out] at hc0 hc1; dsimp only at hc0 hc1; have hd0 := ((h1.ext hSw.below).cellPhase hj).2.1; rw [HU.out] at hd0; go_simp; (try rw [if_neg (by omega)]); try with_reducible rfl)
      simp only [Act.put, sA]
      refine AtT.tk 11 ?_ 32 ?_ hS ?_
      rotate_left
      · (intro wS hSw; (try dsimp only at hSw); go_simp; (try rw [if_neg (by omega)]); try with_reducible rfl)
      simp only [Act.put, sA]
      refine AtT.tk 12 ?_ 33 ?_ hS ?_
      rotate_left
      · (intro wS hSw; (try dsimp only at hSw); have hc0 := ((h1.ext hSw.below).cellPhase hlt).2.1; have hc1 := ((h1.ext hSw.below).cellPhase hlt).2.2; rw [HV.out] at hc0 hc1; dsimp only at hc0 hc1; have hd0 := ((h1.ext hSw.below).cellPhase hj).2.1; rw [HU.out] at hd0; go_simp; (try rw [if_neg (by omega)]); try with_reducible rfl)
      simp only [Act.put, sA]
      refine AtT.only (i := 13) (by kernel_rfl) rfl rfl ?_
      intro K hK
      go_simp
      refine (l1In_any _ _ _ _).mono ?_
      rw [HB.out]
      rintro e w3 ⟨rfl, rfl⟩
      try dsimp only
      refine hK.out _ _ (hM) ?_
      clear hK K hS
      have hS := hM
      refine AtT.tk 14 ?_ 35 ?_ hS ?_
      rotate_left
      · (intro wS hSw; (try dsimp only at hSw); go_simp; (try rw [if_neg (by omega)]); try with_reducible rfl)
      simp only [Act.put, sA]
      refine AtT.tk 15 ?_ 36 ?_ hS ?_
      rotate_left
      · (intro wS hSw; (try dsimp only at hSw); go_simp; (try rw [if_neg (by omega)]); try with_reducible rfl)
      simp only [Act.put, sA]
      refine AtT.tk 16 ?_ 37 ?_ hS ?_
      rotate_left
      · (intro wS hSw; (try dsimp only at hSw); go_simp; (try rw [if_neg (by omega)]); try with_reducible rfl)
      simp only [Act.put, sA]
      refine AtT.tk 17 ?_ 38 ?_ hS ?_
      rotate_left
      · (intro wS hSw; (try dsimp only at hSw); go_simp; (try rw [if_neg (by omega)]); try with_reducible rfl)
      simp only [Act.put, sA]
      refine AtT.tk 18 ?_ 39 ?_ hS ?_
      rotate_left
      · (intro wS hSw; (try dsimp only at hSw); go_simp; (try rw [if_neg (by omega)]); try with_reducible rfl)
      simp only [Act.put, sA]
      refine AtT.tk 19 ?_ 40 ?_ hS ?_
      rotate_left
      · (intro wS hSw; (try dsimp only at hSw); go_simp; (try rw [if_neg (by omega)]); try with_reducible rfl)
      simp only [Act.put, sA]
      refine AtT.tk 20 ?_ 41 ?_ hS ?_
      rotate_left
      · (intro wS hSw; (try dsimp only at hSw); go_simp; (try rw [if_neg (by omega)]); try with_reducible rfl)
      simp only [Act.put, sA]
      refine AtT.tk 21 ?_ 42 ?_ hS ?_
      rotate_left
      · (intro wS hSw; (try dsimp only at hSw); go_simp; (try rw [if_neg (by omega)]); try with_reducible rfl)
      simp only [Act.put, sA]
      refine AtT.tk 22 ?_ 43 ?_ hS ?_
      rotate_left
      · (intro wS hSw; (try dsimp only at hSw); go_simp; (try rw [if_neg (by omega)]); try with_reducible rfl)
      simp only [Act.put, sA]
      refine AtT.tk 23 ?_ 44 ?_ hS ?_
      rotate_left
      · (intro wS hSw; (try dsimp only at hSw); have hc0 := ((h1.ext hSw.below).cellPhase hlt).2.1; have hc1 := ((h1.ext hSw.below).cellPhase hlt).2.2; rw [HV.out] at hc0 hc1; dsimp only at hc0 hc1; have hd0 := ((h1.ext hSw.below).cellPhase hj).2.1; rw [HU.out] at hd0; go_simp; (try rw [if_neg (by omega)]); try with_reducible rfl)
      simp only [Act.put, sA]
      refine AtT.tk 24 ?_ 45 ?_ hS ?_
      rotate_left
      · (intro wS hSw; (try dsimp only at hSw); go_simp; (try rw [if_neg (by omega)]); try with_reducible rfl)
      simp only [Act.put, sA]
      refine AtT.tk 25 ?_ 46 ?_ hS ?_
      rotate_left
      · (intro wS hSw; (try dsimp only at hSw); have hc0 := ((h1.ext hSw.below).cellPhase hlt).2.1; have hc1 := ((h1.ext hSw.below).cellPhase hlt).2.2; rw [HV.out] at hc0 hc1; dsimp only at hc0 hc1; have hd0 := ((h1.ext hSw.below).cellPhase hj).2.1; rw [HU.out] at hd0; go_simp; (try rw [if_neg (by omega)]); try with_reducible rfl)
      simp only [Act.put, sA]
      refine AtT.tk 26 ?_ 47 ?_ hS ?_
      rotate_left
      · (intro wS hSw; (try dsimp only at hSw); go_simp; (try rw [if_neg (by omega)]); try with_reducible rfl)
      simp only [Act.put, sA]
      refine AtT.tk 27 ?_ 48 ?_ hS ?_
      rotate_left
      · (intro wS hSw; (try dsimp only at hSw); go_simp; (try rw [if_neg (by omega)]); try with_reducible rfl)
      simp only [Act.put, sA]
      refine AtT.tk 28 ?_ 49 ?_ hS ?_
      rotate_left
      · (intro wS hSw; (try dsimp only at hSw); have hc0 := ((h1.ext hSw.below).cellPhase hlt).2.1; have hc1 := ((h1.ext hSw.below).cellPhase hlt).2.2; rw [HV.out] at hc0 hc1; dsimp only at hc0 hc1; have hd0 := ((h1.ext hSw.below).cellPhase hj).2.1; rw [HU.out] at hd0; go_simp; (try rw [if_neg (by omega)]); try with_reducible rfl)
      simp only [Act.put, sA]
      refine AtT.tk 29 ?_ 50 ?_ hS ?_
      rotate_left
      · (intro wS hSw; (try dsimp only at hSw); go_simp; (try rw [if_neg (by omega)]); try with_reducible rfl)
      simp only [Act.put, sA]
      refine AtT.tk 30 ?_ 51 ?_ hS ?_
      rotate_left
      · (intro wS hSw; (try dsimp only at hSw); have hc0 := ((h1.ext hSw.below).cellPhase hlt).2.1; have hc1 := ((h1.ext hSw.below).cellPhase hlt).2.2; rw [HV.out] at hc0 hc1; dsimp only at hc0 hc1; have hd0 := ((h1.ext hSw.below).cellPhase hj).2.1; rw [HU.out] at hd0; go_simp; (try rw [if_neg (by omega)]); try with_reducible rfl)
      simp only [Act.put, sA]
      refine AtT.tk 31 ?_ 52 ?_ hS ?_
      rotate_left
      · (intro wS hSw; (try dsimp only at hSw); go_simp; (try rw [if_neg (by omega)]); try with_reducible rfl)
      simp only [Act.put, sA]
      refine AtT.tk 32 ?_ 53 ?_ hS ?_
      rotate_left
      · (intro wS hSw; (try dsimp only at hSw); go_simp; (try rw [if_neg (by omega)]); try with_reducible rfl)
      simp only [Act.put, sA]
      refine AtT.last (by kernel_rfl) rfl (by kernel_rfl) ?_
      intro K hK
      clear hS
      go_simp
      refine hK.out _ _ ?_
      clear hK K
      by_cases hle : vf ≤ u
      · have HR := Lib.hid (HBAD.out _ hlt (by rw [HOK2.out]; simpa using hle))
        go_wp2
        go_ret
        exact ⟨rb HR.out.symm, hM.below⟩
      · have HR := Lib.hid (show phTo ph (j + 1 + 1) = true by rw [phTo_succ, HTO.out, HOK2.out]; simp; omega)
        go_wp2
        go_roundw
        case rel => exact ⟨j + 1 + 1, by omega, by go_num, HR.out, hM⟩
        case measure => simp [intOf]; omega
    · obtain rfl : k = n1 := by omega
      have HR := Lib.hid (HEND.out HTO.out)
      go_wp2
      go_ret
      exact ⟨rb HR.out.symm, hM.below⟩

end Go.Proofs.YtojfbcgfeojdfaaGreat
