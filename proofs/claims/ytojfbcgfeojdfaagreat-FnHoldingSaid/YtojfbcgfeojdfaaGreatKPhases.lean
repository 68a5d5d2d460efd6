/-
  Phases: the program's test is phasesB.
-/
import Derived.Test.YtojfbcgfeojdfaaGreatKRise
import Derived.Test.YtojfbcgfeojdfaaGreatKRegA
/-
  Phases: the program's test is phasesB.
-/
namespace Go.Proofs.YtojfbcgfeojdfaaGreat
set_option linter.unusedSimpArgs false
set_option linter.unusedVariables false
open Go.RowKit

set_option maxRecDepth 100000 in
set_option maxHeartbeats 4000000 in
set_option maxRecDepth 100000 in
set_option maxHeartbeats 30000000 in
theorem arePhases_any (a1 : Option Addr) (n1 c1 : Nat) (ph : List PhaseI) (w : World) (h1 : Rd FPhase w a1 n1 c1 ph) :
    Calls Tryz.prog 70 #[.slice a1 n1 c1] w (fun e w' => e = .returned (.bool (phasesB ph)) ∧ Below w.heap.size w w') := by
  have hM := Mem.start w
  have hrm := h1.nroom
  have HL := Lib.hid h1.len
  have HBAD := Lib.hid (fun k (hk : k < n1) => phases_bad (l := ph) (k := k) (by rw [h1.len]; exact hk))
  have HEND := Lib.hid (fun (hh : phTo ph n1 = true) => show phasesB ph = inB n1 1 6 by rw [phases_to, h1.len, hh, Bool.true_and])
  go_enter Tryz.func70, Tryz.ntmps70
  go_wp2_with fail
  go_loopw [7] (fun s7 wr => ∃ k : Nat, k ≤ n1 ∧ s7 = .int .i64 k ∧ phTo ph k = true ∧ Mem w.heap.size w wr []) (fun s7 _ => n1 - (intOf s7).toNat)
  case atStart => exact ⟨0, Nat.zero_le _, rfl, rfl, hM⟩
  case round =>
    clear hM
    obtain ⟨k, hk, rfl, hto, hM⟩ := hrel
    have HTO := Lib.hid hto; clear hto
    by_cases hlt : k < n1
    · obtain ⟨bl, offl, rfl, -, -⟩ := h1.at' _ hlt
      obtain ⟨-, hc0, hc1⟩ := (h1.ext hM.below).cellPhase hlt
      have hok : ∀ b, phOK ph k = b → phOK ph k = b := fun _ h => h
      obtain ⟨v, hv⟩ : ∃ v, ph.getD k PhaseI.zero = v := ⟨_, rfl⟩
      have HOK : Hid (phOK ph k = (inB v.fr 0 9999 && inB v.sp 1 9 && (if k = 0 then decide (v.fr = 0) else decide ((ph.getD (k - 1) PhaseI.zero).fr < v.fr)))) := Lib.hid (by rw [phOK, hv])
      rw [hv] at hc0 hc1
      have HV := Lib.hid hv
      clear hv hok
      obtain ⟨vf, vs⟩ := v
      dsimp only at hc0 hc1 HOK
      have i0 : (0 : Int) ≤ (k : Int) := by omega
      have i1 : (k : Int) < (n1 : Int) := by omega
      go_wp2_with fail
      apply Mem.atWp
      · exact memA
      clear hM
      intro hM
      cases ha : inB vf 0 9999
      · have HR := Lib.hid (HBAD.out k hlt (by rw [HOK.out, ha]; rfl))
        have HA := Lib.hid ha; clear ha
        as_aux_lemma =>
          refine AtT.startA hM hM 33 (by kernel_rfl) ?_
          clear hM
          intro wd hM
          have hS := hM
          refine AtT.tp 0 ?_ 12 [19, 18, 10, 9, 4, 2, 1] ?_ hS ?_
          rotate_left
          · (intro wS hSw; (try dsimp only at hSw); go_simp; (try rw [if_neg (by omega)]); try with_reducible rfl)
          simp only [Act.put, sA]
          refine AtT.tp 1 ?_ 13 [19, 18, 10, 9, 4, 2] ?_ hS ?_
          rotate_left
          · (intro wS hSw; (try dsimp only at hSw); have kr0 := (Mem.row hSw .here).cell; skip; go_simp; (try rw [if_neg (by omega)]); try with_reducible rfl)
          simp only [Act.put, sA]
          refine AtT.only (i := 2) (by kernel_rfl) rfl rfl ?_
          intro K hK
          go_simp
          refine (phTick_any _ _).mono ?_
          rw [HA.out]
          rintro e w3 ⟨rfl, rfl⟩
          try dsimp only
          refine hK.out _ _ (hM) ?_
          clear hK K hS
          have hS := hM
          refine AtT.tp 3 ?_ 15 [19, 18, 10, 9, 4] ?_ hS ?_
          rotate_left
          · (intro wS hSw; (try dsimp only at hSw); go_simp; (try rw [if_neg (by omega)]); try with_reducible rfl)
          simp only [Act.put, sA]
          refine AtT.tp 4 ?_ 16 [19, 18, 10, 9] ?_ hS ?_
          rotate_left
          · (intro wS hSw; (try dsimp only at hSw); go_simp; (try rw [if_neg (by omega)]); try with_reducible rfl)
          simp only [Act.put, sA]
          refine AtT.tq 5 17 [19, 18, 10, 7, 6] hS ?_
          simp only [Act.put, sA]
          refine AtT.tq 6 18 [19, 18, 10, 7] hS ?_
          simp only [Act.put, sA]
          refine AtT.tq 7 19 [19, 18, 10] hS ?_
          simp only [Act.put, sA]
          refine AtT.tq 8 20 [19, 18, 10, 9] hS ?_
          simp only [Act.put, sA]
          refine AtT.tp 9 ?_ 21 [19, 18, 10] ?_ hS ?_
          rotate_left
          · (intro wS hSw; (try dsimp only at hSw); go_simp; (try rw [if_neg (by omega)]); try with_reducible rfl)
          simp only [Act.put, sA]
          refine AtT.tp 10 ?_ 22 [19, 18] ?_ hS ?_
          rotate_left
          · (intro wS hSw; (try dsimp only at hSw); go_simp; (try rw [if_neg (by omega)]); try with_reducible rfl)
          simp only [Act.put, sA]
          refine AtT.tq 11 23 [19, 13, 12] hS ?_
          simp only [Act.put, sA]
          refine AtT.tq 12 24 [19, 13] hS ?_
          simp only [Act.put, sA]
          refine AtT.tq 13 25 [19] hS ?_
          simp only [Act.put, sA]
          refine AtT.tq 14 26 [19, 18, 17, 16, 15] hS ?_
          simp only [Act.put, sA]
          refine AtT.tq 15 27 [19, 18, 17, 16] hS ?_
          simp only [Act.put, sA]
          refine AtT.tq 16 28 [19, 18, 17] hS ?_
          simp only [Act.put, sA]
          refine AtT.tq 17 29 [19, 18] hS ?_
          simp only [Act.put, sA]
          refine AtT.tp 18 ?_ 30 [19] ?_ hS ?_
          rotate_left
          · (intro wS hSw; (try dsimp only at hSw); go_simp; (try rw [if_neg (by omega)]); try with_reducible rfl)
          simp only [Act.put, sA]
          refine AtT.tp 19 ?_ 31 [] ?_ hS ?_
          rotate_left
          · (intro wS hSw; (try dsimp only at hSw); go_simp; (try rw [if_neg (by omega)]); try with_reducible rfl)
          simp only [Act.put, sA]
          refine AtT.tq 20 32 [32, 22, 21] hS ?_
          simp only [Act.put, sA]
          refine AtT.tq 21 33 [32, 22] hS ?_
          simp only [Act.put, sA]
          refine AtT.tq 22 34 [32] hS ?_
          simp only [Act.put, sA]
          refine AtT.tq 23 35 [32, 31, 24] hS ?_
          simp only [Act.put, sA]
          refine AtT.tq 24 36 [32, 31] hS ?_
          simp only [Act.put, sA]
          refine AtT.tq 25 37 [32, 31, 30, 29, 28] hS ?_
          simp only [Act.put, sA]
          refine AtT.tq 26 38 [32, 31, 30, 29, 28, 27] hS ?_
          simp only [Act.put, sA]
          refine AtT.tq 27 39 [32, 31, 30, 29, 28] hS ?_
          simp only [Act.put, sA]
          refine AtT.tq 28 40 [32, 31, 30, 29] hS ?_
          simp only [Act.put, sA]
          refine AtT.tq 29 41 [32, 31, 30] hS ?_
          simp only [Act.put, sA]
          refine AtT.tq 30 42 [32, 31] hS ?_
          simp only [Act.put, sA]
          refine AtT.tq 31 43 [32] hS ?_
          simp only [Act.put, sA]
          refine AtT.tq 32 44 [] hS ?_
          simp only [Act.put, sA]
          refine AtT.last (by kernel_rfl) rfl (by kernel_rfl) ?_
          intro K hK
          clear hS
          go_simp
          refine hK.out _ _ ?_
          clear hK K
          go_wp2
          go_ret
          exact ⟨rb HR.out.symm, (by apply Mem.below; (exact memA))⟩
      cases hb : inB vs 1 9
      · have HR := Lib.hid (HBAD.out k hlt (by rw [HOK.out, ha, hb]; rfl))
        have HA := Lib.hid ha; clear ha
        have HB := Lib.hid hb; clear hb
        as_aux_lemma =>
          refine AtT.startA hM hM 33 (by kernel_rfl) ?_
          clear hM
          intro wd hM
          have hS := hM
          refine AtT.tp 0 ?_ 12 [19, 18, 10, 9, 4, 2, 1] ?_ hS ?_
          rotate_left
          · (intro wS hSw; (try dsimp only at hSw); go_simp; (try rw [if_neg (by omega)]); try with_reducible rfl)
          simp only [Act.put, sA]
          refine AtT.tp 1 ?_ 13 [19, 18, 10, 9, 4, 2] ?_ hS ?_
          rotate_left
          · (intro wS hSw; (try dsimp only at hSw); have kr0 := (Mem.row hSw .here).cell; skip; go_simp; (try rw [if_neg (by omega)]); try with_reducible rfl)
          simp only [Act.put, sA]
          refine AtT.only (i := 2) (by kernel_rfl) rfl rfl ?_
          intro K hK
          go_simp
          refine (phTick_any _ _).mono ?_
          rw [HA.out]
          rintro e w3 ⟨rfl, rfl⟩
          try dsimp only
          refine hK.out _ _ (hM) ?_
          clear hK K hS
          have hS := hM
          refine AtT.tp 3 ?_ 15 [19, 18, 10, 9, 4] ?_ hS ?_
          rotate_left
          · (intro wS hSw; (try dsimp only at hSw); go_simp; (try rw [if_neg (by omega)]); try with_reducible rfl)
          simp only [Act.put, sA]
          refine AtT.tp 4 ?_ 16 [19, 18, 10, 9] ?_ hS ?_
          rotate_left
          · (intro wS hSw; (try dsimp only at hSw); go_simp; (try rw [if_neg (by omega)]); try with_reducible rfl)
          simp only [Act.put, sA]
          refine AtT.tp 5 ?_ 17 [19, 18, 10, 7, 6] ?_ hS ?_
          rotate_left
          · (intro wS hSw; (try dsimp only at hSw); go_simp; (try rw [if_neg (by omega)]); try with_reducible rfl)
          simp only [Act.put, sA]
          refine AtT.tp 6 ?_ 18 [19, 18, 10, 7] ?_ hS ?_
          rotate_left
          · (intro wS hSw; (try dsimp only at hSw); have kr0 := (Mem.row hSw .here).cell; skip; go_simp; (try rw [if_neg (by omega)]); try with_reducible rfl)
          simp only [Act.put, sA]
          refine AtT.only (i := 7) (by kernel_rfl) rfl rfl ?_
          intro K hK
          go_simp
          refine (in_any _ _ _ _).mono ?_
          rw [HB.out]
          rintro e w3 ⟨rfl, rfl⟩
          try dsimp only
          refine hK.out _ _ (hM) ?_
          clear hK K hS
          have hS := hM
          refine AtT.tp 8 ?_ 20 [19, 18, 10, 9] ?_ hS ?_
          rotate_left
          · (intro wS hSw; (try dsimp only at hSw); go_simp; (try rw [if_neg (by omega)]); try with_reducible rfl)
          simp only [Act.put, sA]
          refine AtT.tp 9 ?_ 21 [19, 18, 10] ?_ hS ?_
          rotate_left
          · (intro wS hSw; (try dsimp only at hSw); go_simp; (try rw [if_neg (by omega)]); try with_reducible rfl)
          simp only [Act.put, sA]
          refine AtT.tp 10 ?_ 22 [19, 18] ?_ hS ?_
          rotate_left
          · (intro wS hSw; (try dsimp only at hSw); go_simp; (try rw [if_neg (by omega)]); try with_reducible rfl)
          simp only [Act.put, sA]
          refine AtT.tq 11 23 [19, 13, 12] hS ?_
          simp only [Act.put, sA]
          refine AtT.tq 12 24 [19, 13] hS ?_
          simp only [Act.put, sA]
          refine AtT.tq 13 25 [19] hS ?_
          simp only [Act.put, sA]
          refine AtT.tq 14 26 [19, 18, 17, 16, 15] hS ?_
          simp only [Act.put, sA]
          refine AtT.tq 15 27 [19, 18, 17, 16] hS ?_
          simp only [Act.put, sA]
          refine AtT.tq 16 28 [19, 18, 17] hS ?_
          simp only [Act.put, sA]
          refine AtT.tq 17 29 [19, 18] hS ?_
          simp only [Act.put, sA]
          refine AtT.tp 18 ?_ 30 [19] ?_ hS ?_
          rotate_left
          · (intro wS hSw; (try dsimp only at hSw); go_simp; (try rw [if_neg (by omega)]); try with_reducible rfl)
          simp only [Act.put, sA]
          refine AtT.tp 19 ?_ 31 [] ?_ hS ?_
          rotate_left
          · (intro wS hSw; (try dsimp only at hSw); go_simp; (try rw [if_neg (by omega)]); try with_reducible rfl)
          simp only [Act.put, sA]
          refine AtT.tq 20 32 [32, 22, 21] hS ?_
          simp only [Act.put, sA]
          refine AtT.tq 21 33 [32, 22] hS ?_
          simp only [Act.put, sA]
          refine AtT.tq 22 34 [32] hS ?_
          simp only [Act.put, sA]
          refine AtT.tq 23 35 [32, 31, 24] hS ?_
          simp only [Act.put, sA]
          refine AtT.tq 24 36 [32, 31] hS ?_
          simp only [Act.put, sA]
          refine AtT.tq 25 37 [32, 31, 30, 29, 28] hS ?_
          simp only [Act.put, sA]
          refine AtT.tq 26 38 [32, 31, 30, 29, 28, 27] hS ?_
          simp only [Act.put, sA]
          refine AtT.tq 27 39 [32, 31, 30, 29, 28] hS ?_
          simp only [Act.put, sA]
          refine AtT.tq 28 40 [32, 31, 30, 29] hS ?_
          simp only [Act.put, sA]
          refine AtT.tq 29 41 [32, 31, 30] hS ?_
          simp only [Act.put, sA]
          refine AtT.tq 30 42 [32, 31] hS ?_
          simp only [Act.put, sA]
          refine AtT.tq 31 43 [32] hS ?_
          simp only [Act.put, sA]
          refine AtT.tq 32 44 [] hS ?_
          simp only [Act.put, sA]
          refine AtT.last (by kernel_rfl) rfl (by kernel_rfl) ?_
          intro K hK
          clear hS
          go_simp
          refine hK.out _ _ ?_
          clear hK K
          go_wp2
          go_ret
          exact ⟨rb HR.out.symm, (by apply Mem.below; (exact memA))⟩
      have HOK1 : Hid (phOK ph k = (if k = 0 then decide (vf = 0) else decide ((ph.getD (k - 1) PhaseI.zero).fr < vf))) := Lib.hid (by rw [HOK.out, ha, hb]; rfl)
      have HA := Lib.hid ha; clear ha
      have HB := Lib.hid hb; clear hb
      by_cases hk0 : k = 0
      · subst hk0
        have e0 : ((0 : Nat) : Int) = 0 := rfl
        by_cases hv0 : vf = 0
        · have HR := Lib.hid (show phTo ph (0 + 1) = true by rw [phTo_succ, HTO.out, HOK1.out, if_pos rfl]; simpa using hv0)
          subst hv0
          as_aux_lemma =>
            refine AtT.startA hM hM 33 (by kernel_rfl) ?_
            clear hM
            intro wd hM
            have hS := hM
            refine AtT.tp 0 ?_ 12 [19, 18, 10, 9, 4, 2, 1] ?_ hS ?_
            rotate_left
            · (intro wS hSw; (try dsimp only at hSw); go_simp; (try rw [if_neg (by omega)]); try with_reducible rfl)
            simp only [Act.put, sA]
            refine AtT.tp 1 ?_ 13 [19, 18, 10, 9, 4, 2] ?_ hS ?_
            rotate_left
            · (intro wS hSw; (try dsimp only at hSw); have kr0 := (Mem.row hSw .here).cell; skip; go_simp; (try rw [if_neg (by omega)]); try with_reducible rfl)
            simp only [Act.put, sA]
            refine AtT.only (i := 2) (by kernel_rfl) rfl rfl ?_
            intro K hK
            go_simp
            refine (phTick_any _ _).mono ?_
            rw [HA.out]
            rintro e w3 ⟨rfl, rfl⟩
            try dsimp only
            refine hK.out _ _ (hM) ?_
            clear hK K hS
            have hS := hM
            refine AtT.tp 3 ?_ 15 [19, 18, 10, 9, 4] ?_ hS ?_
            rotate_left
            · (intro wS hSw; (try dsimp only at hSw); go_simp; (try rw [if_neg (by omega)]); try with_reducible rfl)
            simp only [Act.put, sA]
            refine AtT.tp 4 ?_ 16 [19, 18, 10, 9] ?_ hS ?_
            rotate_left
            · (intro wS hSw; (try dsimp only at hSw); go_simp; (try rw [if_neg (by omega)]); try with_reducible rfl)
            simp only [Act.put, sA]
            refine AtT.tp 5 ?_ 17 [19, 18, 10, 7, 6] ?_ hS ?_
            rotate_left
            · (intro wS hSw; (try dsimp only at hSw); go_simp; (try rw [if_neg (by omega)]); try with_reducible rfl)
            simp only [Act.put, sA]
            refine AtT.tp 6 ?_ 18 [19, 18, 10, 7] ?_ hS ?_
            rotate_left
            · (intro wS hSw; (try dsimp only at hSw); have kr0 := (Mem.row hSw .here).cell; skip; go_simp; (try rw [if_neg (by omega)]); try with_reducible rfl)
            simp only [Act.put, sA]
            refine AtT.only (i := 7) (by kernel_rfl) rfl rfl ?_
            intro K hK
            go_simp
            refine (in_any _ _ _ _).mono ?_
            rw [HB.out]
            rintro e w3 ⟨rfl, rfl⟩
            try dsimp only
            refine hK.out _ _ (hM) ?_
            clear hK K hS
            have hS := hM
            refine AtT.tp 8 ?_ 20 [19, 18, 10, 9] ?_ hS ?_
            rotate_left
            · (intro wS hSw; (try dsimp only at hSw); go_simp; (try rw [if_neg (by omega)]); try with_reducible rfl)
            simp only [Act.put, sA]
            refine AtT.tp 9 ?_ 21 [19, 18, 10] ?_ hS ?_
            rotate_left
            · (intro wS hSw; (try dsimp only at hSw); go_simp; (try rw [if_neg (by omega)]); try with_reducible rfl)
            simp only [Act.put, sA]
            refine AtT.tp 10 ?_ 22 [19, 18] ?_ hS ?_
            rotate_left
            · (intro wS hSw; (try dsimp only at hSw); go_simp; (try rw [if_neg (by omega)]); try with_reducible rfl)
            simp only [Act.put, sA]
            refine AtT.tp 11 ?_ 23 [19, 13, 12] ?_ hS ?_
            rotate_left
            · (intro wS hSw; (try dsimp only at hSw); go_simp; (try rw [if_neg (by omega)]); try with_reducible rfl)
            simp only [Act.put, sA]
            refine AtT.tp 12 ?_ 24 [19, 13] ?_ hS ?_
            rotate_left
            · (intro wS hSw; (try dsimp only at hSw); go_simp; (try rw [if_neg (by omega)]); try with_reducible rfl)
            simp only [Act.put, sA]
            refine AtT.tp 13 ?_ 25 [19] ?_ hS ?_
            rotate_left
            · (intro wS hSw; (try dsimp only at hSw); go_simp; (try rw [if_neg (by omega)]); try with_reducible rfl)
            simp only [Act.put, sA]
            refine AtT.tp 14 ?_ 26 [19, 18, 17, 16, 15] ?_ hS ?_
            rotate_left
            · (intro wS hSw; (try dsimp only at hSw); go_simp; (try rw [if_neg (by omega)]); try with_reducible rfl)
            simp only [Act.put, sA]
            refine AtT.tp 15 ?_ 27 [19, 18, 17, 16] ?_ hS ?_
            rotate_left
            · (intro wS hSw; (try dsimp only at hSw); have kr0 := (Mem.row hSw .here).cell; skip; go_simp; (try rw [if_neg (by omega)]); try with_reducible rfl)
            simp only [Act.put, sA]
            refine AtT.tp 16 ?_ 28 [19, 18, 17] ?_ hS ?_
            rotate_left
            · (intro wS hSw; (try dsimp only at hSw); go_simp; (try rw [if_neg (by omega)]); try with_reducible rfl)
            simp only [Act.put, sA]
            refine AtT.tp 17 ?_ 29 [19, 18] ?_ hS ?_
            rotate_left
            · (intro wS hSw; (try dsimp only at hSw); go_simp; (try rw [if_neg (by omega)]); try with_reducible rfl)
            simp only [Act.put, sA]
            refine AtT.tp 18 ?_ 30 [19] ?_ hS ?_
            rotate_left
            · (intro wS hSw; (try dsimp only at hSw); go_simp; (try rw [if_neg (by omega)]); try with_reducible rfl)
            simp only [Act.put, sA]
            refine AtT.tp 19 ?_ 31 [] ?_ hS ?_
            rotate_left
            · (intro wS hSw; (try dsimp only at hSw); go_simp; (try rw [if_neg (by omega)]); try with_reducible rfl)
            simp only [Act.put, sA]
            refine AtT.tp 20 ?_ 32 [32, 22, 21] ?_ hS ?_
            rotate_left
            · (intro wS hSw; (try dsimp only at hSw); go_simp; (try rw [if_neg (by omega)]); try with_reducible rfl)
            simp only [Act.put, sA]
            refine AtT.tp 21 ?_ 33 [32, 22] ?_ hS ?_
            rotate_left
            · (intro wS hSw; (try dsimp only at hSw); go_simp; (try rw [if_neg (by omega)]); try with_reducible rfl)
            simp only [Act.put, sA]
            refine AtT.tp 22 ?_ 34 [32] ?_ hS ?_
            rotate_left
            · (intro wS hSw; (try dsimp only at hSw); go_simp; (try rw [if_neg (by omega)]); try with_reducible rfl)
            simp only [Act.put, sA]
            refine AtT.tq 23 35 [32, 31, 24] hS ?_
            simp only [Act.put, sA]
            refine AtT.tq 24 36 [32, 31] hS ?_
            simp only [Act.put, sA]
            refine AtT.tq 25 37 [32, 31, 30, 29, 28] hS ?_
            simp only [Act.put, sA]
            refine AtT.tq 26 38 [32, 31, 30, 29, 28, 27] hS ?_
            simp only [Act.put, sA]
            refine AtT.tq 27 39 [32, 31, 30, 29, 28] hS ?_
            simp only [Act.put, sA]
            refine AtT.tq 28 40 [32, 31, 30, 29] hS ?_
            simp only [Act.put, sA]
            refine AtT.tq 29 41 [32, 31, 30] hS ?_
            simp only [Act.put, sA]
            refine AtT.tq 30 42 [32, 31] hS ?_
            simp only [Act.put, sA]
            refine AtT.tq 31 43 [32] hS ?_
            simp only [Act.put, sA]
            refine AtT.tp 32 ?_ 44 [] ?_ hS ?_
            rotate_left
            · (intro wS hSw; (try dsimp only at hSw); go_simp; (try rw [if_neg (by omega)]); try with_reducible rfl)
            simp only [Act.put, sA]
            refine AtT.last (by kernel_rfl) rfl (by kernel_rfl) ?_
            intro K hK
            clear hS
            go_simp
            refine hK.out _ _ ?_
            clear hK K
            go_wp2
            go_roundw
            case rel =>
              refine ⟨0 + 1, by omega, by go_num, HR.out, ?_⟩
              apply Mem.pick (is := [])
              · exact memA
              · decide
              · rfl
            case measure => simp [intOf]; omega
        · have hvz : (vf != 0) = true := by simpa using hv0
          have HR := Lib.hid (HBAD.out 0 hlt (by rw [HOK1.out, if_pos rfl]; simpa using hv0))
          as_aux_lemma =>
            refine AtT.startA hM hM 33 (by kernel_rfl) ?_
            clear hM
            intro wd hM
            have hS := hM
            refine AtT.tp 0 ?_ 12 [19, 18, 10, 9, 4, 2, 1] ?_ hS ?_
            rotate_left
            · (intro wS hSw; (try dsimp only at hSw); go_simp; (try rw [if_neg (by omega)]); try with_reducible rfl)
            simp only [Act.put, sA]
            refine AtT.tp 1 ?_ 13 [19, 18, 10, 9, 4, 2] ?_ hS ?_
            rotate_left
            · (intro wS hSw; (try dsimp only at hSw); have kr0 := (Mem.row hSw .here).cell; skip; go_simp; (try rw [if_neg (by omega)]); try with_reducible rfl)
            simp only [Act.put, sA]
            refine AtT.only (i := 2) (by kernel_rfl) rfl rfl ?_
            intro K hK
            go_simp
            refine (phTick_any _ _).mono ?_
            rw [HA.out]
            rintro e w3 ⟨rfl, rfl⟩
            try dsimp only
            refine hK.out _ _ (hM) ?_
            clear hK K hS
            have hS := hM
            refine AtT.tp 3 ?_ 15 [19, 18, 10, 9, 4] ?_ hS ?_
            rotate_left
            · (intro wS hSw; (try dsimp only at hSw); go_simp; (try rw [if_neg (by omega)]); try with_reducible rfl)
            simp only [Act.put, sA]
            refine AtT.tp 4 ?_ 16 [19, 18, 10, 9] ?_ hS ?_
            rotate_left
            · (intro wS hSw; (try dsimp only at hSw); go_simp; (try rw [if_neg (by omega)]); try with_reducible rfl)
            simp only [Act.put, sA]
            refine AtT.tp 5 ?_ 17 [19, 18, 10, 7, 6] ?_ hS ?_
            rotate_left
            · (intro wS hSw; (try dsimp only at hSw); go_simp; (try rw [if_neg (by omega)]); try with_reducible rfl)
            simp only [Act.put, sA]
            refine AtT.tp 6 ?_ 18 [19, 18, 10, 7] ?_ hS ?_
            rotate_left
            · (intro wS hSw; (try dsimp only at hSw); have kr0 := (Mem.row hSw .here).cell; skip; go_simp; (try rw [if_neg (by omega)]); try with_reducible rfl)
            simp only [Act.put, sA]
            refine AtT.only (i := 7) (by kernel_rfl) rfl rfl ?_
            intro K hK
            go_simp
            refine (in_any _ _ _ _).mono ?_
            rw [HB.out]
            rintro e w3 ⟨rfl, rfl⟩
            try dsimp only
            refine hK.out _ _ (hM) ?_
            clear hK K hS
            have hS := hM
            refine AtT.tp 8 ?_ 20 [19, 18, 10, 9] ?_ hS ?_
            rotate_left
            · (intro wS hSw; (try dsimp only at hSw); go_simp; (try rw [if_neg (by omega)]); try with_reducible rfl)
            simp only [Act.put, sA]
            refine AtT.tp 9 ?_ 21 [19, 18, 10] ?_ hS ?_
            rotate_left
            · (intro wS hSw; (try dsimp only at hSw); go_simp; (try rw [if_neg (by omega)]); try with_reducible rfl)
            simp only [Act.put, sA]
            refine AtT.tp 10 ?_ 22 [19, 18] ?_ hS ?_
            rotate_left
            · (intro wS hSw; (try dsimp only at hSw); go_simp; (try rw [if_neg (by omega)]); try with_reducible rfl)
            simp only [Act.put, sA]
            refine AtT.tp 11 ?_ 23 [19, 13, 12] ?_ hS ?_
            rotate_left
            · (intro wS hSw; (try dsimp only at hSw); go_simp; (try rw [if_neg (by omega)]); try with_reducible rfl)
            simp only [Act.put, sA]
            refine AtT.tp 12 ?_ 24 [19, 13] ?_ hS ?_
            rotate_left
            · (intro wS hSw; (try dsimp only at hSw); go_simp; (try rw [if_neg (by omega)]); try with_reducible rfl)
            simp only [Act.put, sA]
            refine AtT.tp 13 ?_ 25 [19] ?_ hS ?_
            rotate_left
            · (intro wS hSw; (try dsimp only at hSw); go_simp; (try rw [if_neg (by omega)]); try with_reducible rfl)
            simp only [Act.put, sA]
            refine AtT.tp 14 ?_ 26 [19, 18, 17, 16, 15] ?_ hS ?_
            rotate_left
            · (intro wS hSw; (try dsimp only at hSw); go_simp; (try rw [if_neg (by omega)]); try with_reducible rfl)
            simp only [Act.put, sA]
            refine AtT.tp 15 ?_ 27 [19, 18, 17, 16] ?_ hS ?_
            rotate_left
            · (intro wS hSw; (try dsimp only at hSw); have kr0 := (Mem.row hSw .here).cell; skip; go_simp; (try rw [if_neg (by omega)]); try with_reducible rfl)
            simp only [Act.put, sA]
            refine AtT.tp 16 ?_ 28 [19, 18, 17] ?_ hS ?_
            rotate_left
            · (intro wS hSw; (try dsimp only at hSw); go_simp; (try rw [if_neg (by omega)]); try with_reducible rfl)
            simp only [Act.put, sA]
            refine AtT.tp 17 ?_ 29 [19, 18] ?_ hS ?_
            rotate_left
            · (intro wS hSw; (try dsimp only at hSw); go_simp; (try rw [if_neg (by omega)]); try with_reducible rfl)
            simp only [Act.put, sA]
            refine AtT.tp 18 ?_ 30 [19] ?_ hS ?_
            rotate_left
            · (intro wS hSw; (try dsimp only at hSw); go_simp; (try rw [if_neg (by omega)]); try with_reducible rfl)
            simp only [Act.put, sA]
            refine AtT.tp 19 ?_ 31 [] ?_ hS ?_
            rotate_left
            · (intro wS hSw; (try dsimp only at hSw); go_simp; (try rw [if_neg (by omega)]); try with_reducible rfl)
            simp only [Act.put, sA]
            refine AtT.tq 20 32 [32, 22, 21] hS ?_
            simp only [Act.put, sA]
            refine AtT.tq 21 33 [32, 22] hS ?_
            simp only [Act.put, sA]
            refine AtT.tq 22 34 [32] hS ?_
            simp only [Act.put, sA]
            refine AtT.tq 23 35 [32, 31, 24] hS ?_
            simp only [Act.put, sA]
            refine AtT.tq 24 36 [32, 31] hS ?_
            simp only [Act.put, sA]
            refine AtT.tq 25 37 [32, 31, 30, 29, 28] hS ?_
            simp only [Act.put, sA]
            refine AtT.tq 26 38 [32, 31, 30, 29, 28, 27] hS ?_
            simp only [Act.put, sA]
            refine AtT.tq 27 39 [32, 31, 30, 29, 28] hS ?_
            simp only [Act.put, sA]
            refine AtT.tq 28 40 [32, 31, 30, 29] hS ?_
            simp only [Act.put, sA]
            refine AtT.tq 29 41 [32, 31, 30] hS ?_
            simp only [Act.put, sA]
            refine AtT.tq 30 42 [32, 31] hS ?_
            simp only [Act.put, sA]
            refine AtT.tq 31 43 [32] hS ?_
            simp only [Act.put, sA]
            refine AtT.tq 32 44 [] hS ?_
            simp only [Act.put, sA]
            refine AtT.last (by kernel_rfl) rfl (by kernel_rfl) ?_
            intro K hK
            clear hS
            go_simp
            refine hK.out _ _ ?_
            clear hK K
            go_wp2
            go_ret
            exact ⟨rb HR.out.symm, (by apply Mem.below; (exact memA))⟩
      obtain ⟨j, rfl⟩ : ∃ j, k = j + 1 := ⟨k - 1, by omega⟩
      have hj : j < n1 := by omega
      have hwj : IntKind.i64.wrap (((j + 1 : Nat) : Int) - 1) = (j : Int) := by rw [wrap_in (by omega)]; omega
      have hwj2 : IntKind.i64.wrap (j : Int) = (j : Int) := wrap_in (by omega)
      have e0 : ¬ ((j + 1 : Nat) : Int) = 0 := by omega
      have e1 : (0 : Int) < ((j + 1 : Nat) : Int) := by omega
      have j0 : (0 : Int) ≤ (j : Int) := by omega
      have j1 : (j : Int) < (n1 : Int) := by omega
      obtain ⟨u, hu⟩ : ∃ u, (ph.getD j PhaseI.zero).fr = u := ⟨_, rfl⟩
      have HOK2 : Hid (phOK ph (j + 1) = decide (u < vf)) := Lib.hid (by rw [HOK1.out, if_neg hk0, Nat.add_sub_cancel, hu])
      have HU := Lib.hid hu
      clear hu hk0
      by_cases hle : vf ≤ u
      · have HR := Lib.hid (HBAD.out _ hlt (by rw [HOK2.out]; simpa using hle))
        as_aux_lemma =>
          refine AtT.startA hM hM 33 (by kernel_rfl) ?_
          clear hM
          intro wd hM
          have hS := hM
          refine AtT.tp 0 ?_ 12 [19, 18, 10, 9, 4, 2, 1] ?_ hS ?_
          rotate_left
          · (intro wS hSw; (try dsimp only at hSw); go_simp; (try rw [if_neg (by omega)]); try with_reducible rfl)
          simp only [Act.put, sA]
          refine AtT.tp 1 ?_ 13 [19, 18, 10, 9, 4, 2] ?_ hS ?_
          rotate_left
          · (intro wS hSw; (try dsimp only at hSw); have kr0 := (Mem.row hSw .here).cell; have hd0 := ((h1.ext hSw.below).cellPhase hj).2.1; rw [HU.out] at hd0; go_simp; (try rw [if_neg (by omega)]); try with_reducible rfl)
          simp only [Act.put, sA]
          refine AtT.only (i := 2) (by kernel_rfl) rfl rfl ?_
          intro K hK
          go_simp
          refine (phTick_any _ _).mono ?_
          rw [HA.out]
          rintro e w3 ⟨rfl, rfl⟩
          try dsimp only
          refine hK.out _ _ (hM) ?_
          clear hK K hS
          have hS := hM
          refine AtT.tp 3 ?_ 15 [19, 18, 10, 9, 4] ?_ hS ?_
          rotate_left
          · (intro wS hSw; (try dsimp only at hSw); go_simp; (try rw [if_neg (by omega)]); try with_reducible rfl)
          simp only [Act.put, sA]
          refine AtT.tp 4 ?_ 16 [19, 18, 10, 9] ?_ hS ?_
          rotate_left
          · (intro wS hSw; (try dsimp only at hSw); go_simp; (try rw [if_neg (by omega)]); try with_reducible rfl)
          simp only [Act.put, sA]
          refine AtT.tp 5 ?_ 17 [19, 18, 10, 7, 6] ?_ hS ?_
          rotate_left
          · (intro wS hSw; (try dsimp only at hSw); go_simp; (try rw [if_neg (by omega)]); try with_reducible rfl)
          simp only [Act.put, sA]
          refine AtT.tp 6 ?_ 18 [19, 18, 10, 7] ?_ hS ?_
          rotate_left
          · (intro wS hSw; (try dsimp only at hSw); have kr0 := (Mem.row hSw .here).cell; have hd0 := ((h1.ext hSw.below).cellPhase hj).2.1; rw [HU.out] at hd0; go_simp; (try rw [if_neg (by omega)]); try with_reducible rfl)
          simp only [Act.put, sA]
          refine AtT.only (i := 7) (by kernel_rfl) rfl rfl ?_
          intro K hK
          go_simp
          refine (in_any _ _ _ _).mono ?_
          rw [HB.out]
          rintro e w3 ⟨rfl, rfl⟩
          try dsimp only
          refine hK.out _ _ (hM) ?_
          clear hK K hS
          have hS := hM
          refine AtT.tp 8 ?_ 20 [19, 18, 10, 9] ?_ hS ?_
          rotate_left
          · (intro wS hSw; (try dsimp only at hSw); go_simp; (try rw [if_neg (by omega)]); try with_reducible rfl)
          simp only [Act.put, sA]
          refine AtT.tp 9 ?_ 21 [19, 18, 10] ?_ hS ?_
          rotate_left
          · (intro wS hSw; (try dsimp only at hSw); go_simp; (try rw [if_neg (by omega)]); try with_reducible rfl)
          simp only [Act.put, sA]
          refine AtT.tp 10 ?_ 22 [19, 18] ?_ hS ?_
          rotate_left
          · (intro wS hSw; (try dsimp only at hSw); go_simp; (try rw [if_neg (by omega)]); try with_reducible rfl)
          simp only [Act.put, sA]
          refine AtT.tp 11 ?_ 23 [19, 13, 12] ?_ hS ?_
          rotate_left
          · (intro wS hSw; (try dsimp only at hSw); go_simp; (try rw [if_neg (by omega)]); try with_reducible rfl)
          simp only [Act.put, sA]
          refine AtT.tp 12 ?_ 24 [19, 13] ?_ hS ?_
          rotate_left
          · (intro wS hSw; (try dsimp only at hSw); go_simp; (try rw [if_neg (by omega)]); try with_reducible rfl)
          simp only [Act.put, sA]
          refine AtT.tp 13 ?_ 25 [19] ?_ hS ?_
          rotate_left
          · (intro wS hSw; (try dsimp only at hSw); go_simp; (try rw [if_neg (by omega)]); try with_reducible rfl)
          simp only [Act.put, sA]
          refine AtT.tq 14 26 [19, 18, 17, 16, 15] hS ?_
          simp only [Act.put, sA]
          refine AtT.tq 15 27 [19, 18, 17, 16] hS ?_
          simp only [Act.put, sA]
          refine AtT.tq 16 28 [19, 18, 17] hS ?_
          simp only [Act.put, sA]
          refine AtT.tp 17 ?_ 29 [19, 18] ?_ hS ?_
          rotate_left
          · (intro wS hSw; (try dsimp only at hSw); go_simp; (try rw [if_neg (by omega)]); try with_reducible rfl)
          simp only [Act.put, sA]
          refine AtT.tp 18 ?_ 30 [19] ?_ hS ?_
          rotate_left
          · (intro wS hSw; (try dsimp only at hSw); go_simp; (try rw [if_neg (by omega)]); try with_reducible rfl)
          simp only [Act.put, sA]
          refine AtT.tp 19 ?_ 31 [] ?_ hS ?_
          rotate_left
          · (intro wS hSw; (try dsimp only at hSw); go_simp; (try rw [if_neg (by omega)]); try with_reducible rfl)
          simp only [Act.put, sA]
          refine AtT.tp 20 ?_ 32 [32, 22, 21] ?_ hS ?_
          rotate_left
          · (intro wS hSw; (try dsimp only at hSw); go_simp; (try rw [if_neg (by omega)]); try with_reducible rfl)
          simp only [Act.put, sA]
          refine AtT.tp 21 ?_ 33 [32, 22] ?_ hS ?_
          rotate_left
          · (intro wS hSw; (try dsimp only at hSw); go_simp; (try rw [if_neg (by omega)]); try with_reducible rfl)
          simp only [Act.put, sA]
          refine AtT.tp 22 ?_ 34 [32] ?_ hS ?_
          rotate_left
          · (intro wS hSw; (try dsimp only at hSw); go_simp; (try rw [if_neg (by omega)]); try with_reducible rfl)
          simp only [Act.put, sA]
          refine AtT.tp 23 ?_ 35 [32, 31, 24] ?_ hS ?_
          rotate_left
          · (intro wS hSw; (try dsimp only at hSw); go_simp; (try rw [if_neg (by omega)]); try with_reducible rfl)
          simp only [Act.put, sA]
          refine AtT.tp 24 ?_ 36 [32, 31] ?_ hS ?_
          rotate_left
          · (intro wS hSw; (try dsimp only at hSw); have kr0 := (Mem.row hSw .here).cell; have hd0 := ((h1.ext hSw.below).cellPhase hj).2.1; rw [HU.out] at hd0; go_simp; (try rw [if_neg (by omega)]); try with_reducible rfl)
          simp only [Act.put, sA]
          refine AtT.tp 25 ?_ 37 [32, 31, 30, 29, 28] ?_ hS ?_
          rotate_left
          · (intro wS hSw; (try dsimp only at hSw); go_simp; (try rw [if_neg (by omega)]); try with_reducible rfl)
          simp only [Act.put, sA]
          refine AtT.tp 26 ?_ 38 [32, 31, 30, 29, 28, 27] ?_ hS ?_
          rotate_left
          · (intro wS hSw; (try dsimp only at hSw); go_simp; (try rw [if_neg (by omega)]); try with_reducible rfl)
          simp only [Act.put, sA]
          refine AtT.tp 27 ?_ 39 [32, 31, 30, 29, 28] ?_ hS ?_
          rotate_left
          · (intro wS hSw; (try dsimp only at hSw); go_simp; (try rw [if_neg (by omega)]); try with_reducible rfl)
          simp only [Act.put, sA]
          refine AtT.tp 28 ?_ 40 [32, 31, 30, 29] ?_ hS ?_
          rotate_left
          · (intro wS hSw; (try dsimp only at hSw); have kr0 := (Mem.row hSw .here).cell; have hd0 := ((h1.ext hSw.below).cellPhase hj).2.1; rw [HU.out] at hd0; go_simp; (try rw [if_neg (by omega)]); try with_reducible rfl)
          simp only [Act.put, sA]
          refine AtT.tp 29 ?_ 41 [32, 31, 30] ?_ hS ?_
          rotate_left
          · (intro wS hSw; (try dsimp only at hSw); go_simp; (try rw [if_neg (by omega)]); try with_reducible rfl)
          simp only [Act.put, sA]
          refine AtT.tp 30 ?_ 42 [32, 31] ?_ hS ?_
          rotate_left
          · (intro wS hSw; (try dsimp only at hSw); have kr0 := (Mem.row hSw .here).cell; have hd0 := ((h1.ext hSw.below).cellPhase hj).2.1; rw [HU.out] at hd0; go_simp; (try rw [if_neg (by omega)]); try with_reducible rfl)
          simp only [Act.put, sA]
          refine AtT.tp 31 ?_ 43 [32] ?_ hS ?_
          rotate_left
          · (intro wS hSw; (try dsimp only at hSw); go_simp; (try rw [if_neg (by omega)]); try with_reducible rfl)
          simp only [Act.put, sA]
          refine AtT.tp 32 ?_ 44 [] ?_ hS ?_
          rotate_left
          · (intro wS hSw; (try dsimp only at hSw); go_simp; (try rw [if_neg (by omega)]); try with_reducible rfl)
          simp only [Act.put, sA]
          refine AtT.last (by kernel_rfl) rfl (by kernel_rfl) ?_
          intro K hK
          clear hS
          go_simp
          refine hK.out _ _ ?_
          clear hK K
          go_wp2
          go_ret
          exact ⟨rb HR.out.symm, (by apply Mem.below; (exact memA))⟩
      · have HR := Lib.hid (show phTo ph (j + 1 + 1) = true by rw [phTo_succ, HTO.out, HOK2.out]; simp; omega)
        as_aux_lemma =>
          refine AtT.startA hM hM 33 (by kernel_rfl) ?_
          clear hM
          intro wd hM
          have hS := hM
          refine AtT.tp 0 ?_ 12 [19, 18, 10, 9, 4, 2, 1] ?_ hS ?_
          rotate_left
          · (intro wS hSw; (try dsimp only at hSw); go_simp; (try rw [if_neg (by omega)]); try with_reducible rfl)
          simp only [Act.put, sA]
          refine AtT.tp 1 ?_ 13 [19, 18, 10, 9, 4, 2] ?_ hS ?_
          rotate_left
          · (intro wS hSw; (try dsimp only at hSw); have kr0 := (Mem.row hSw .here).cell; have hd0 := ((h1.ext hSw.below).cellPhase hj).2.1; rw [HU.out] at hd0; go_simp; (try rw [if_neg (by omega)]); try with_reducible rfl)
          simp only [Act.put, sA]
          refine AtT.only (i := 2) (by kernel_rfl) rfl rfl ?_
          intro K hK
          go_simp
          refine (phTick_any _ _).mono ?_
          rw [HA.out]
          rintro e w3 ⟨rfl, rfl⟩
          try dsimp only
          refine hK.out _ _ (hM) ?_
          clear hK K hS
          have hS := hM
          refine AtT.tp 3 ?_ 15 [19, 18, 10, 9, 4] ?_ hS ?_
          rotate_left
          · (intro wS hSw; (try dsimp only at hSw); go_simp; (try rw [if_neg (by omega)]); try with_reducible rfl)
          simp only [Act.put, sA]
          refine AtT.tp 4 ?_ 16 [19, 18, 10, 9] ?_ hS ?_
          rotate_left
          · (intro wS hSw; (try dsimp only at hSw); go_simp; (try rw [if_neg (by omega)]); try with_reducible rfl)
          simp only [Act.put, sA]
          refine AtT.tp 5 ?_ 17 [19, 18, 10, 7, 6] ?_ hS ?_
          rotate_left
          · (intro wS hSw; (try dsimp only at hSw); go_simp; (try rw [if_neg (by omega)]); try with_reducible rfl)
          simp only [Act.put, sA]
          refine AtT.tp 6 ?_ 18 [19, 18, 10, 7] ?_ hS ?_
          rotate_left
          · (intro wS hSw; (try dsimp only at hSw); have kr0 := (Mem.row hSw .here).cell; have hd0 := ((h1.ext hSw.below).cellPhase hj).2.1; rw [HU.out] at hd0; go_simp; (try rw [if_neg (by omega)]); try with_reducible rfl)
          simp only [Act.put, sA]
          refine AtT.only (i := 7) (by kernel_rfl) rfl rfl ?_
          intro K hK
          go_simp
          refine (in_any _ _ _ _).mono ?_
          rw [HB.out]
          rintro e w3 ⟨rfl, rfl⟩
          try dsimp only
          refine hK.out _ _ (hM) ?_
          clear hK K hS
          have hS := hM
          refine AtT.tp 8 ?_ 20 [19, 18, 10, 9] ?_ hS ?_
          rotate_left
          · (intro wS hSw; (try dsimp only at hSw); go_simp; (try rw [if_neg (by omega)]); try with_reducible rfl)
          simp only [Act.put, sA]
          refine AtT.tp 9 ?_ 21 [19, 18, 10] ?_ hS ?_
          rotate_left
          · (intro wS hSw; (try dsimp only at hSw); go_simp; (try rw [if_neg (by omega)]); try with_reducible rfl)
          simp only [Act.put, sA]
          refine AtT.tp 10 ?_ 22 [19, 18] ?_ hS ?_
          rotate_left
          · (intro wS hSw; (try dsimp only at hSw); go_simp; (try rw [if_neg (by omega)]); try with_reducible rfl)
          simp only [Act.put, sA]
          refine AtT.tp 11 ?_ 23 [19, 13, 12] ?_ hS ?_
          rotate_left
          · (intro wS hSw; (try dsimp only at hSw); go_simp; (try rw [if_neg (by omega)]); try with_reducible rfl)
          simp only [Act.put, sA]
          refine AtT.tp 12 ?_ 24 [19, 13] ?_ hS ?_
          rotate_left
          · (intro wS hSw; (try dsimp only at hSw); go_simp; (try rw [if_neg (by omega)]); try with_reducible rfl)
          simp only [Act.put, sA]
          refine AtT.tp 13 ?_ 25 [19] ?_ hS ?_
          rotate_left
          · (intro wS hSw; (try dsimp only at hSw); go_simp; (try rw [if_neg (by omega)]); try with_reducible rfl)
          simp only [Act.put, sA]
          refine AtT.tq 14 26 [19, 18, 17, 16, 15] hS ?_
          simp only [Act.put, sA]
          refine AtT.tq 15 27 [19, 18, 17, 16] hS ?_
          simp only [Act.put, sA]
          refine AtT.tq 16 28 [19, 18, 17] hS ?_
          simp only [Act.put, sA]
          refine AtT.tp 17 ?_ 29 [19, 18] ?_ hS ?_
          rotate_left
          · (intro wS hSw; (try dsimp only at hSw); go_simp; (try rw [if_neg (by omega)]); try with_reducible rfl)
          simp only [Act.put, sA]
          refine AtT.tp 18 ?_ 30 [19] ?_ hS ?_
          rotate_left
          · (intro wS hSw; (try dsimp only at hSw); go_simp; (try rw [if_neg (by omega)]); try with_reducible rfl)
          simp only [Act.put, sA]
          refine AtT.tp 19 ?_ 31 [] ?_ hS ?_
          rotate_left
          · (intro wS hSw; (try dsimp only at hSw); go_simp; (try rw [if_neg (by omega)]); try with_reducible rfl)
          simp only [Act.put, sA]
          refine AtT.tp 20 ?_ 32 [32, 22, 21] ?_ hS ?_
          rotate_left
          · (intro wS hSw; (try dsimp only at hSw); go_simp; (try rw [if_neg (by omega)]); try with_reducible rfl)
          simp only [Act.put, sA]
          refine AtT.tp 21 ?_ 33 [32, 22] ?_ hS ?_
          rotate_left
          · (intro wS hSw; (try dsimp only at hSw); go_simp; (try rw [if_neg (by omega)]); try with_reducible rfl)
          simp only [Act.put, sA]
          refine AtT.tp 22 ?_ 34 [32] ?_ hS ?_
          rotate_left
          · (intro wS hSw; (try dsimp only at hSw); go_simp; (try rw [if_neg (by omega)]); try with_reducible rfl)
          simp only [Act.put, sA]
          refine AtT.tp 23 ?_ 35 [32, 31, 24] ?_ hS ?_
          rotate_left
          · (intro wS hSw; (try dsimp only at hSw); go_simp; (try rw [if_neg (by omega)]); try with_reducible rfl)
          simp only [Act.put, sA]
          refine AtT.tp 24 ?_ 36 [32, 31] ?_ hS ?_
          rotate_left
          · (intro wS hSw; (try dsimp only at hSw); have kr0 := (Mem.row hSw .here).cell; have hd0 := ((h1.ext hSw.below).cellPhase hj).2.1; rw [HU.out] at hd0; go_simp; (try rw [if_neg (by omega)]); try with_reducible rfl)
          simp only [Act.put, sA]
          refine AtT.tp 25 ?_ 37 [32, 31, 30, 29, 28] ?_ hS ?_
          rotate_left
          · (intro wS hSw; (try dsimp only at hSw); go_simp; (try rw [if_neg (by omega)]); try with_reducible rfl)
          simp only [Act.put, sA]
          refine AtT.tp 26 ?_ 38 [32, 31, 30, 29, 28, 27] ?_ hS ?_
          rotate_left
          · (intro wS hSw; (try dsimp only at hSw); go_simp; (try rw [if_neg (by omega)]); try with_reducible rfl)
          simp only [Act.put, sA]
          refine AtT.tp 27 ?_ 39 [32, 31, 30, 29, 28] ?_ hS ?_
          rotate_left
          · (intro wS hSw; (try dsimp only at hSw); go_simp; (try rw [if_neg (by omega)]); try with_reducible rfl)
          simp only [Act.put, sA]
          refine AtT.tp 28 ?_ 40 [32, 31, 30, 29] ?_ hS ?_
          rotate_left
          · (intro wS hSw; (try dsimp only at hSw); have kr0 := (Mem.row hSw .here).cell; have hd0 := ((h1.ext hSw.below).cellPhase hj).2.1; rw [HU.out] at hd0; go_simp; (try rw [if_neg (by omega)]); try with_reducible rfl)
          simp only [Act.put, sA]
          refine AtT.tp 29 ?_ 41 [32, 31, 30] ?_ hS ?_
          rotate_left
          · (intro wS hSw; (try dsimp only at hSw); go_simp; (try rw [if_neg (by omega)]); try with_reducible rfl)
          simp only [Act.put, sA]
          refine AtT.tp 30 ?_ 42 [32, 31] ?_ hS ?_
          rotate_left
          · (intro wS hSw; (try dsimp only at hSw); have kr0 := (Mem.row hSw .here).cell; have hd0 := ((h1.ext hSw.below).cellPhase hj).2.1; rw [HU.out] at hd0; go_simp; (try rw [if_neg (by omega)]); try with_reducible rfl)
          simp only [Act.put, sA]
          refine AtT.tp 31 ?_ 43 [32] ?_ hS ?_
          rotate_left
          · (intro wS hSw; (try dsimp only at hSw); go_simp; (try rw [if_neg (by omega)]); try with_reducible rfl)
          simp only [Act.put, sA]
          refine AtT.tp 32 ?_ 44 [] ?_ hS ?_
          rotate_left
          · (intro wS hSw; (try dsimp only at hSw); go_simp; (try rw [if_neg (by omega)]); try with_reducible rfl)
          simp only [Act.put, sA]
          refine AtT.last (by kernel_rfl) rfl (by kernel_rfl) ?_
          intro K hK
          clear hS
          go_simp
          refine hK.out _ _ ?_
          clear hK K
          go_wp2
          go_roundw
          case rel =>
            refine ⟨j + 1 + 1, by omega, by go_num, HR.out, ?_⟩
            apply Mem.pick (is := [])
            · exact memA
            · decide
            · rfl
          case measure => simp [intOf]; omega
    · obtain rfl : k = n1 := by omega
      have HB := Lib.hid (HEND.out HTO.out)
      go_wp2_with (go_at_call 71; refine (in_any _ _ _ _).mono ?_; rintro e w' ⟨rfl, rfl⟩)
      go_ret
      exact ⟨rb HB.out.symm, hM.below⟩

end Go.Proofs.YtojfbcgfeojdfaaGreat
