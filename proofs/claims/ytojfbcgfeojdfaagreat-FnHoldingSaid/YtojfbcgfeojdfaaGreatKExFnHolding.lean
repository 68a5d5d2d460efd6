/-
  The law FnHolding, walked.
-/
import Derived.Test.YtojfbcgfeojdfaaGreatKDrawHold
import Derived.Test.YtojfbcgfeojdfaaGreatKHoldT
import Derived.Test.YtojfbcgfeojdfaaGreatKMir
import Derived.Test.YtojfbcgfeojdfaaGreatKRd
import Derived.Test.YtojfbcgfeojdfaaGreatKDrawSmk
import Derived.Deep.DeepCutAuto
/-
  The law FnHolding, walked.
-/
namespace Go.Proofs.YtojfbcgfeojdfaaGreat
set_option linter.unusedSimpArgs false
set_option linter.unusedVariables false
open Go.RowKit

theorem getD_take_map {cu : List CutI} {k : Nat} (hk : k < cu.length) : (cu.map (fun c => c.cell)).take (k + 1) = (cu.map (fun c => c.cell)).take k ++ [(cu.getD k CutI.zero).cell] := by
  rw [← List.map_take, ← List.map_take, take_succV (z := CutI.zero) hk, List.map_append]
  rfl
set_option maxRecDepth 100000 in
set_option maxHeartbeats 30000000 in
theorem specAreCuts_any (W H : Int) (a : Option Addr) (n c : Nat) (xs : List Int) (a1 : Option Addr) (n1 c1 : Nat) (cu : List CutI) (w : World) (h : Ints w a n c xs) (h1 : Rd FCut w a1 n1 c1 cu) :
    Calls Tryz.prog 10 #[.agg #[.int .i64 W, .int .i64 H, .slice a n c], .slice a1 n1 c1] w (fun e w' => e = .returned (.bool (cutsB W H xs cu)) ∧ Below w.heap.size w w') := by
  have hM := Mem.start w
  obtain ⟨q, hq⟩ : ∃ q, cutsB W H xs cu = q := ⟨_, rfl⟩
  have HQ := Lib.hid hq; clear hq
  go_enter Tryz.func10, Tryz.ntmps10
  go_wp2_with fail
  apply Mem.atA
  · exact memA
  clear hM
  intro wst hM
  (try simp only [World.size_alloc, World.size_setCell, World.heap_drewN, heapDrew, Nat.add_assoc, Nat.reduceAdd, sA, List.cons_append, List.nil_append] at hM)
  (first | refine (l25Good_any W H a n c xs a1 n1 c1 cu _ (h.ext hM.below) (h1.ext hM.below)).mono ?_)
  rw [HQ.out]
  rintro e wc1 ⟨rfl, hb⟩
  replace hM := hM.ext hb
  clear hb
  go_wp2
  go_ret
  exact ⟨rb HQ.out.symm, (by apply Mem.below; (exact memA))⟩
set_option maxRecDepth 100000 in
set_option maxHeartbeats 16000000 in
theorem FnHolding_walk (a : Option Addr) (n cc : Nat) (l : List UInt8) (w : World) (hI : n ≤ maxLen ∧ (n ≤ 65536 → Rd FByt w a n cc l)) :
    Calls Tryz.prog 3 #[.slice a n cc] w fun e w' => e = .returned (.bool true) ∧ Below w.heap.size w w' := by
  have hM := Mem.start w
  have HI := Lib.hid hI.2
  clear hI
  go_enter Tryz.func3, Tryz.ntmps3
  go_wp2_with fail
  apply Mem.atA
  · exact memA
  clear hM
  intro wst hM
  (try simp only [World.size_alloc, World.size_setCell, World.heap_drewN, heapDrew, Nat.add_assoc, Nat.reduceAdd, sA, List.cons_append, List.nil_append] at hM)
  (first | refine (vBig_any a n cc _).mono ?_)
  rintro e wc2 ⟨rfl, hb⟩
  replace hM := hM.ext hb
  clear hb
  by_cases hb : 65536 < n
  · go_wp2
    go_ret
    exact ⟨rfl, (by apply Mem.below; (exact memA))⟩
  have HC := Lib.hid (HI.out (by omega))
  clear HI
  go_wp2_with fail
  apply Mem.atA
  · exact memA
  clear hM
  intro wst hM
  (try simp only [World.size_alloc, World.size_setCell, World.heap_drewN, heapDrew, Nat.add_assoc, Nat.reduceAdd, sA, List.cons_append, List.nil_append] at hM)
  (first | refine (drawHold_any (HC.out.ext hM.below)).mono ?_)
  rintro e w1 ⟨W, H, a1, c1, xs, a4, c4, ph, a2, n2, c2, ss, start, a5, c5, cu, a3, n3, c3, ts, hS, rfl, hm⟩
  replace hM := hM.join hm
  clear hm
  (try simp only [World.size_alloc, World.size_setCell, World.heap_drewN, heapDrew, Nat.add_assoc, Nat.reduceAdd, sA, List.cons_append, List.nil_append] at hM)
  have hcl := hS.2.2.1
  have hxl := hS.1.2.2.1
  clear hS
  obtain ⟨⟨hold, ok⟩, hq0⟩ : ∃ r, doHoldR W H xs ph ss start cu ts = r := ⟨_, rfl⟩
  obtain ⟨bc, hqc⟩ : ∃ b, cutsB W H xs cu = b := ⟨_, rfl⟩
  obtain ⟨⟨d, told⟩, hq1⟩ : ∃ r, delayR W H xs ph ss start cu ts = r := ⟨_, rfl⟩
  have HQ0 := Lib.hid hq0; have HQC := Lib.hid hqc; have HQ1 := Lib.hid hq1
  have HHO := Lib.hid (fun (hh : hold = true) => hold_ok (W := W) (H := H) (xs := xs) (ph := ph) (ss := ss) (start := start) (cu := cu) (ts := ts) (by rw [hq0]; exact hh))
  have HTO := Lib.hid (show told = (hold && decide (0 < cu.length)) by
    have := told_iff (W := W) (H := H) (xs := xs) (ph := ph) (ss := ss) (start := start) (cu := cu) (ts := ts)
    rw [hq1, hq0] at this
    exact this)
  clear hq0 hqc hq1
  have hh1 : (hold != hold) = false := by cases hold <;> rfl
  have hh2 : (ok != ok) = false := by cases ok <;> rfl
  have hh3 : (bc != bc) = false := by cases bc <;> rfl
  have hh4 : (d != d) = false := by simp
  have hh5 : (told != told) = false := by cases told <;> rfl
  go_wp2_with fail
  apply Mem.atA
  · exact memA
  clear hM
  intro wst hM
  (try simp only [World.size_alloc, World.size_setCell, World.heap_drewN, heapDrew, Nat.add_assoc, Nat.reduceAdd, sA, List.cons_append, List.nil_append] at hM)
  (first | refine (implHold_any W H a1 xs.length c1 xs a4 ph.length c4 ph a2 n2 c2 ss start a5 cu.length c5 cu a3 n3 c3 ts _ (hM.intsR (.there (.there (.there .here)))) (hM.ow (.there (.there .here))).rd (hM.intsR (.there (.there (.there (.there .here))))) (hM.ow (.there .here)).rd (hM.intsR (.there (.there (.there (.there (.there .here))))))).mono ?_)
  rw [HQ0.out]
  rintro e wc4 ⟨rfl, hb⟩
  replace hM := hM.ext hb
  clear hb
  dsimp only
  obtain ⟨k0, f0, l0⟩ := hM.row .here
  go_wp2_with fail
  clear k0 f0 l0
  apply Mem.atA
  · exact memA
  clear hM
  intro wst hM
  (try simp only [World.size_alloc, World.size_setCell, World.heap_drewN, heapDrew, Nat.add_assoc, Nat.reduceAdd, sA, List.cons_append, List.nil_append] at hM)
  (first | refine (specHold_any W H a1 xs.length c1 xs a4 ph.length c4 ph a2 n2 c2 ss start a5 cu.length c5 cu a3 n3 c3 ts _ (hM.intsR (.there (.there (.there .here)))) (hM.ow (.there (.there .here))).rd (hM.intsR (.there (.there (.there (.there .here))))) (hM.ow (.there .here)).rd (hM.intsR (.there (.there (.there (.there (.there .here))))))).mono ?_)
  rw [HQ0.out]
  rintro e wc5 ⟨rfl, hb⟩
  replace hM := hM.ext hb
  clear hb
  dsimp only
  go_wp2_with fail
  apply Mem.atWpA
  · exact memA
  clear hM
  intro wst hM
  (try simp only [World.size_alloc, World.size_setCell, World.heap_drewN, heapDrew, Nat.add_assoc, Nat.reduceAdd, sA, List.cons_append, List.nil_append] at hM)
  refine AtF.startA hM hM 16 (by kernel_rfl) ?_
  clear hM
  intro wd hM
  have hS := hM
  refine AtF.tp 0 ?_ 79 [8, 3, 2] ?_ hS ?_
  rotate_left
  · (intro wS hSw; (try dsimp only at hSw); go_simp; (try rw [if_neg (by omega)]); try with_reducible rfl)
  simp only [Act.put, sA]
  refine AtF.tp 1 ?_ 80 [8, 3, 2] ?_ hS ?_
  rotate_left
  · (intro wS hSw; (try dsimp only at hSw); go_simp; (try rw [if_neg (by omega)]); try with_reducible rfl)
  simp only [Act.put, sA]
  refine AtF.tp 2 ?_ 81 [8, 3] ?_ hS ?_
  rotate_left
  · (intro wS hSw; (try dsimp only at hSw); go_simp; (try rw [if_neg (by omega)]); try with_reducible rfl)
  simp only [Act.put, sA]
  refine AtF.tp 3 ?_ 82 [8] ?_ hS ?_
  rotate_left
  · (intro wS hSw; (try dsimp only at hSw); go_simp; (try rw [if_neg (by omega)]); try with_reducible rfl)
  simp only [Act.put, sA]
  refine AtF.tp 4 ?_ 83 [8, 7, 6] ?_ hS ?_
  rotate_left
  · (intro wS hSw; (try dsimp only at hSw); go_simp; (try rw [if_neg (by omega)]); try with_reducible rfl)
  simp only [Act.put, sA]
  refine AtF.tp 5 ?_ 84 [8, 7, 6] ?_ hS ?_
  rotate_left
  · (intro wS hSw; (try dsimp only at hSw); go_simp; (try rw [if_neg (by omega)]); try with_reducible rfl)
  simp only [Act.put, sA]
  refine AtF.tp 6 ?_ 85 [8, 7] ?_ hS ?_
  rotate_left
  · (intro wS hSw; (try dsimp only at hSw); go_simp; (try rw [if_neg (by omega)]); try with_reducible rfl)
  simp only [Act.put, sA]
  refine AtF.tp 7 ?_ 86 [8] ?_ hS ?_
  rotate_left
  · (intro wS hSw; (try dsimp only at hSw); go_simp; (try rw [if_neg (by omega)]); try with_reducible rfl)
  simp only [Act.put, sA]
  refine AtF.tp 8 ?_ 87 [] ?_ hS ?_
  rotate_left
  · (intro wS hSw; (try dsimp only at hSw); go_simp; (try rw [if_neg (by omega)]); try with_reducible rfl)
  simp only [Act.put, sA]
  refine AtF.tp 9 ?_ 88 [15, 11] ?_ hS ?_
  rotate_left
  · (intro wS hSw; (try dsimp only at hSw); have kr0 := (Mem.row hSw .here).cell; go_simp; (try rw [if_neg (by omega)]); try with_reducible rfl)
  simp only [Act.put, sA]
  refine AtF.tp 10 ?_ 89 [15, 11] ?_ hS ?_
  rotate_left
  · (intro wS hSw; (try dsimp only at hSw); go_simp; (try rw [if_neg (by omega)]); try with_reducible rfl)
  simp only [Act.put, sA]
  refine AtF.tp 12 ?_ 91 [15, 14] ?_ hS ?_
  rotate_left
  · (intro wS hSw; (try dsimp only at hSw); have kr0 := (Mem.row hSw .here).cell; go_simp; (try rw [if_neg (by omega)]); try with_reducible rfl)
  simp only [Act.put, sA]
  refine AtF.tp 13 ?_ 92 [15, 14] ?_ hS ?_
  rotate_left
  · (intro wS hSw; (try dsimp only at hSw); go_simp; (try rw [if_neg (by omega)]); try with_reducible rfl)
  simp only [Act.put, sA]
  refine AtF.only (i := 11) (by kernel_rfl) rfl rfl ?_
  intro K hK
  go_simp
  refine (areCuts_any W H a1 xs.length c1 xs a5 cu.length c5 cu _ (hM.intsR (.there (.there (.there .here)))) (hM.ow (.there .here)).rd).mono ?_
  rw [HQC.out]
  rintro e w3 ⟨rfl, hb9⟩
  replace hM := hM.ext hb9
  clear hb9
  try dsimp only
  refine hK.out _ _ (hM) ?_
  clear hK K hS
  have hS := hM
  refine AtF.only (i := 14) (by kernel_rfl) rfl rfl ?_
  intro K hK
  go_simp
  refine (specAreCuts_any W H a1 xs.length c1 xs a5 cu.length c5 cu _ (hM.intsR (.there (.there (.there .here)))) (hM.ow (.there .here)).rd).mono ?_
  rw [HQC.out]
  rintro e w4 ⟨rfl, hb9⟩
  replace hM := hM.ext hb9
  clear hb9
  try dsimp only
  refine hK.out _ _ (hM) ?_
  clear hK K hS
  have hS := hM
  refine AtF.tp 15 ?_ 94 [] ?_ hS ?_
  rotate_left
  · (intro wS hSw; (try dsimp only at hSw); go_simp; (try rw [if_neg (by omega)]); try with_reducible rfl)
  simp only [Act.put, sA]
  refine AtF.last (by kernel_rfl) rfl (by kernel_rfl) ?_
  intro K hK
  clear hS
  go_simp
  refine hK.out _ _ ?_
  clear hK K
  go_upto_if 96 with fail
  go_cut [] (fun wx => Mem w.heap.size w wx [rowE w1.heap.size 26 #[.int .i64 W, .int .i64 H, .slice a1 xs.length c1], owE FCut 37 a5 cu.length c5 cu, owE FPhase 128 a4 ph.length c4 ph, intE a1 xs.length c1 xs, intE a2 n2 c2 ss, intE a3 n3 c3 ts])
  case first =>
    as_aux_lemma =>
      cases hold
      · go_wp2_with fail
        go_meet
        exact hM
      obtain ⟨h1, h2, h3, h4⟩ := HHO.out rfl
      obtain ⟨sl, hsl⟩ : ∃ l, cu.map (slk (arrT W.toNat xs.length xs ss ph start)) = l := ⟨_, rfl⟩
      have hsn : sl.length = cu.length := by rw [← hsl, List.length_map]
      rw [hsl] at h3
      have HSL := Lib.hid hsl; have HSN := Lib.hid hsn; have HPO := Lib.hid h3; have HLI := Lib.hid h4
      have HA := Lib.hid h1; have HC2 := Lib.hid h2
      have HCI := Lib.hid (fun k (hk : k < cu.length) => cut_in (cutsB_true h2).2.1 hk)
      clear h1 h2 h3 h4 hsl hsn HHO HTO
      obtain ⟨k0, f0, l0⟩ := hM.row .here
      go_wp2_with fail
      clear k0 f0 l0
      apply Mem.atA
      · exact memA
      clear hM
      intro wst hM
      (try simp only [World.size_alloc, World.size_setCell, World.heap_drewN, heapDrew, Nat.add_assoc, Nat.reduceAdd, sA, List.cons_append, List.nil_append] at hM)
      (first | refine (specSlacks_any W H a1 xs.length c1 xs a4 ph.length c4 ph a2 n2 c2 ss start a5 cu.length c5 cu _ (hM.intsR (.there (.there (.there .here)))) (hM.ow (.there (.there .here))).rd (hM.intsR (.there (.there (.there (.there .here))))) (hM.ow (.there .here)).rd HA.out HC2.out).mono ?_)
      rintro e w5 ⟨b1, m1, d1, rfl, hm⟩
      replace hM := hM.join hm
      clear hm
      (try simp only [World.size_alloc, World.size_setCell, World.heap_drewN, heapDrew, Nat.add_assoc, Nat.reduceAdd, sA, List.cons_append, List.nil_append] at hM)
      rw [HSL.out] at hM
      obtain rfl : sl.length = m1 := (hM.ints .here).len
      rw [HSN.out] at hM ⊢
      go_wp2_with fail
      apply Mem.atWpA
      · exact memA
      clear hM
      intro wst hM
      (try simp only [World.size_alloc, World.size_setCell, World.heap_drewN, heapDrew, Nat.add_assoc, Nat.reduceAdd, sA, List.cons_append, List.nil_append] at hM)
      replace hM := hM.toInts (xs := []) .here rfl (by simp) (by simp)
      go_loopw [15, 16] (fun s15 s16 wr => ∃ (k : Nat) (a' : Option Addr) (c' : Nat), k ≤ cu.length ∧ s16 = .int .i64 k ∧ s15 = .slice a' k c' ∧ Mem w.heap.size w wr [intE a' k c' ((cu.map (fun c => c.cell)).take k), intE b1 cu.length d1 sl, rowE w1.heap.size 26 #[.int .i64 W, .int .i64 H, .slice a1 xs.length c1], owE FCut 37 a5 cu.length c5 cu, owE FPhase 128 a4 ph.length c4 ph, intE a1 xs.length c1 xs, intE a2 n2 c2 ss, intE a3 n3 c3 ts]) (fun _ s16 _ => cu.length - (intOf s16).toNat)
      case atStart => exact ⟨0, _, _, Nat.zero_le _, rfl, rfl, hM⟩
      case round =>
        clear hM
        obtain ⟨k, a', c', hk, rfl, rfl, hM⟩ := hrel
        by_cases hlt : k < cu.length
        · obtain ⟨gc, rfl, -⟩ := (hM.ow (.there (.there (.there .here)))).head (by omega)
          obtain ⟨gs, rfl, -⟩ := (hM.ints (.there .here)).head (by omega)
          obtain ⟨hc0, hc1⟩ := (hM.ow (.there (.there (.there .here)))).cellCut hlt
          have hin := HCI.out k hlt
          have hpo := HPO.out k hlt
          have htk := getD_take_map hlt
          obtain ⟨v, hv⟩ : ∃ v, cu.getD k CutI.zero = v := ⟨_, rfl⟩
          rw [hv] at hc0 hc1 hin htk
          clear hv
          obtain ⟨vc, vt⟩ := v
          dsimp only at hc0 hc1 hin htk
          obtain ⟨u, hu⟩ : ∃ u, sl.getD k 0 = u := ⟨_, rfl⟩
          rw [hu] at hpo
          have HU := Lib.hid hu; have HTK := Lib.hid htk
          clear hu htk
          have i0 : (0 : Int) ≤ (k : Int) := by omega
          have i1 : (k : Int) < (cu.length : Int) := by omega
          have hpn : ¬ u < 1 := by omega
          go_wp2_with (at_builtin; apply Mem.atL; (focus ((exact memA); done)); clear hM; intro hM; refine wpList_pushI hM (fun _ => .here) (by unfold I64; omega) (by omega) rfl _ _ _ Tryz.underlying24 rfl rfl rfl ?_)
          clear hc0 hc1
          intro a6 c6 w6 hM
          have hcs := (hM.ints (.there .here)).cellAt hlt
          rw [HU.out] at hcs
          go_wp2
          go_roundw
          case rel => exact ⟨k + 1, a6, c6, by omega, by go_num, rfl, by rw [HTK.out]; exact hM⟩
          case measure => simp [intOf]; omega
        · obtain rfl : k = cu.length := by omega
          rw [List.take_of_length_le (by rw [List.length_map]; exact Nat.le_refl _)] at hM
          obtain ⟨k2, f2, l2⟩ := hM.row (.there (.there .here))
          go_wp2_with fail
          clear k2 f2 l2
          apply Mem.atA
          · exact memA
          clear hM
          intro wst hM
          (try simp only [World.size_alloc, World.size_setCell, World.heap_drewN, heapDrew, Nat.add_assoc, Nat.reduceAdd, sA, List.cons_append, List.nil_append] at hM)
          (first | refine (implIsLine_any W H a1 xs.length c1 xs a2 n2 c2 ss a3 n3 c3 ts a' cu.length c' (cu.map (fun c => c.cell)) _ (hM.intsR (.there (.there (.there (.there (.there .here)))))) (hM.intsR (.there (.there (.there (.there (.there (.there .here))))))) (hM.intsR (.there (.there (.there (.there (.there (.there (.there .here)))))))) (hM.intsR .here)).mono ?_)
          rw [HLI.out]
          rintro e wc7 ⟨rfl, hb⟩
          replace hM := hM.ext hb
          clear hb
          dsimp only
          go_wp2_with fail
          go_meet
          exact hM.tail.tail
  case rest =>
    as_aux_lemma =>
      clear hM
      have hM := hcut
      clear hcut
      obtain ⟨k0, f0, l0⟩ := hM.row .here
      go_wp2_with fail
      clear k0 f0 l0
      apply Mem.atA
      · exact memA
      clear hM
      intro wst hM
      (try simp only [World.size_alloc, World.size_setCell, World.heap_drewN, heapDrew, Nat.add_assoc, Nat.reduceAdd, sA, List.cons_append, List.nil_append] at hM)
      (first | refine (implDelay_any W H a1 xs.length c1 xs a4 ph.length c4 ph a2 n2 c2 ss start a5 cu.length c5 cu a3 n3 c3 ts _ (hM.intsR (.there (.there (.there .here)))) (hM.ow (.there (.there .here))).rd (hM.intsR (.there (.there (.there (.there .here))))) (hM.ow (.there .here)).rd (hM.intsR (.there (.there (.there (.there (.there .here))))))).mono ?_)
      rw [HQ1.out]
      rintro e wc8 ⟨rfl, hb⟩
      replace hM := hM.ext hb
      clear hb
      dsimp only
      obtain ⟨k0, f0, l0⟩ := hM.row .here
      go_wp2_with fail
      clear k0 f0 l0
      apply Mem.atA
      · exact memA
      clear hM
      intro wst hM
      (try simp only [World.size_alloc, World.size_setCell, World.heap_drewN, heapDrew, Nat.add_assoc, Nat.reduceAdd, sA, List.cons_append, List.nil_append] at hM)
      (first | refine (specDelay_any W H a1 xs.length c1 xs a4 ph.length c4 ph a2 n2 c2 ss start a5 cu.length c5 cu a3 n3 c3 ts _ (hM.intsR (.there (.there (.there .here)))) (hM.ow (.there (.there .here))).rd (hM.intsR (.there (.there (.there (.there .here))))) (hM.ow (.there .here)).rd (hM.intsR (.there (.there (.there (.there (.there .here))))))).mono ?_)
      rw [HQ1.out]
      rintro e wc9 ⟨rfl, hb⟩
      replace hM := hM.ext hb
      clear hb
      dsimp only
      go_upto_region 22 with fail
      apply Mem.atWpA
      · exact memA
      clear hM
      intro wst hM
      (try simp only [World.size_alloc, World.size_setCell, World.heap_drewN, heapDrew, Nat.add_assoc, Nat.reduceAdd, sA, List.cons_append, List.nil_append] at hM)
      go_cut [181] (fun s wx => s = .bool false ∧ Mem w.heap.size w wx [rowE w1.heap.size 26 #[.int .i64 W, .int .i64 H, .slice a1 xs.length c1], owE FCut 37 a5 cu.length c5 cu, owE FPhase 128 a4 ph.length c4 ph, intE a1 xs.length c1 xs, intE a2 n2 c2 ss, intE a3 n3 c3 ts])
      case first =>
        as_aux_lemma =>
          cases hold
          · obtain rfl : told = false := by rw [HTO.out]; rfl
            go_wp2_with fail
            go_meet
            exact ⟨rfl, hM⟩
          · by_cases hl : 0 < cu.length
            · obtain rfl : told = true := by rw [HTO.out, decide_eq_true hl]; rfl
              have hl2 : (0 : Int) < (cu.length : Int) := by omega
              go_wp2_with fail
              go_meet
              exact ⟨rfl, hM⟩
            · obtain rfl : told = false := by rw [HTO.out, decide_eq_false hl]; rfl
              have hl2 : ¬ (0 : Int) < (cu.length : Int) := by omega
              go_wp2_with fail
              go_meet
              exact ⟨rfl, hM⟩
      case rest =>
        as_aux_lemma =>
          clear hM
          obtain ⟨rfl, hM⟩ := hcut
          go_upto_if 182 with fail
          go_cut [] (fun wx => Mem w.heap.size w wx [])
          case first =>
            as_aux_lemma =>
              cases told
              · go_wp2_with fail
                go_meet
                exact hM.sub (by simp)
              have hdo := delay_ok (W := W) (H := H) (xs := xs) (ph := ph) (ss := ss) (start := start) (cu := cu) (ts := ts) HQ1.out
              obtain ⟨e1, e2, e3, e4⟩ := hdo
              have hcu : cutsB W H xs cu = true := by
                unfold delayed at e1
                rw [Bool.and_eq_true, Bool.and_eq_true] at e1
                exact e1.1.1
              have HD1 := Lib.hid e1; have HD3 := Lib.hid e3; have HD4 := Lib.hid e4; have HCU := Lib.hid hcu
              clear e1 e3 e4 hcu HHO HTO HQ0 HQ1 HQC
              obtain ⟨k0, f0, l0⟩ := hM.row .here
              go_wp2_with fail
              clear k0 f0 l0
              apply Mem.atA
              · exact memA
              clear hM
              intro wst hM
              (try simp only [World.size_alloc, World.size_setCell, World.heap_drewN, heapDrew, Nat.add_assoc, Nat.reduceAdd, sA, List.cons_append, List.nil_append] at hM)
              (first | refine (delayCuts_any W H a1 xs.length c1 xs a5 cu.length c5 cu d _ (hM.intsR (.there (.there (.there .here)))) (hM.ow (.there .here)).rd HCU.out).mono ?_)
              rw [HD1.out]
              rintro e w5 ⟨b1, m1, d1, ys, hys, rfl, hm⟩
              replace hM := hM.join hm
              clear hm
              (try simp only [World.size_alloc, World.size_setCell, World.heap_drewN, heapDrew, Nat.add_assoc, Nat.reduceAdd, sA, List.cons_append, List.nil_append] at hM)
              obtain rfl := hys rfl
              clear hys
              obtain ⟨k1, f1, l1⟩ := hM.row (.there .here)
              go_wp2_with fail
              clear k1 f1 l1
              apply Mem.atA
              · exact memA
              clear hM
              intro wst hM
              (try simp only [World.size_alloc, World.size_setCell, World.heap_drewN, heapDrew, Nat.add_assoc, Nat.reduceAdd, sA, List.cons_append, List.nil_append] at hM)
              (first | refine (implHold_any W H a1 xs.length c1 xs a4 ph.length c4 ph a2 n2 c2 ss start b1 m1 d1 (cu.map (laterC d)) a3 n3 c3 ts _ (hM.intsR (.there (.there (.there (.there .here))))) (hM.ow (.there (.there (.there .here)))).rd (hM.intsR (.there (.there (.there (.there (.there .here)))))) (hM.ow .here).rd (hM.intsR (.there (.there (.there (.there (.there (.there .here)))))))).mono ?_)
              rw [HD3.out]
              rintro e wc11 ⟨rfl, hb⟩
              replace hM := hM.ext hb
              clear hb
              dsimp only
              have hw : IntKind.i64.wrap (d + 1) = d + 1 := wrap_in (by omega)
              obtain ⟨b3, hb3⟩ : ∃ b, delayed W H xs cu (d + 1) = b := ⟨_, rfl⟩
              have HB3 := Lib.hid hb3
              clear hb3
              obtain ⟨k1, f1, l1⟩ := hM.row (.there .here)
              go_wp2_with fail
              clear k1 f1 l1
              apply Mem.atA
              · exact memA
              clear hM
              intro wst hM
              (try simp only [World.size_alloc, World.size_setCell, World.heap_drewN, heapDrew, Nat.add_assoc, Nat.reduceAdd, sA, List.cons_append, List.nil_append] at hM)
              (first | refine (delayCuts_any W H a1 xs.length c1 xs a5 cu.length c5 cu (d + 1) _ (hM.intsR (.there (.there (.there (.there .here))))) (hM.ow (.there (.there .here))).rd HCU.out).mono ?_)
              rw [HB3.out]
              rintro e w6 ⟨b6, m6, d6, ys, hys, rfl, hm⟩
              replace hM := hM.join hm
              clear hm
              (try simp only [World.size_alloc, World.size_setCell, World.heap_drewN, heapDrew, Nat.add_assoc, Nat.reduceAdd, sA, List.cons_append, List.nil_append] at hM)
              cases b3
              · go_wp2_with fail
                go_meet
                exact hM.sub (by simp)
              obtain rfl := hys rfl
              clear hys
              have HD5 := Lib.hid (HD4.out HB3.out)
              obtain ⟨k2, f2, l2⟩ := hM.row (.there (.there .here))
              go_wp2_with fail
              clear k2 f2 l2
              apply Mem.atA
              · exact memA
              clear hM
              intro wst hM
              (try simp only [World.size_alloc, World.size_setCell, World.heap_drewN, heapDrew, Nat.add_assoc, Nat.reduceAdd, sA, List.cons_append, List.nil_append] at hM)
              (first | refine (implHold_any W H a1 xs.length c1 xs a4 ph.length c4 ph a2 n2 c2 ss start b6 m6 d6 (cu.map (laterC (d + 1))) a3 n3 c3 ts _ (hM.intsR (.there (.there (.there (.there (.there .here)))))) (hM.ow (.there (.there (.there (.there .here))))).rd (hM.intsR (.there (.there (.there (.there (.there (.there .here))))))) (hM.ow .here).rd (hM.intsR (.there (.there (.there (.there (.there (.there (.there .here))))))))).mono ?_)
              rw [HD5.out]
              rintro e wc13 ⟨rfl, hb⟩
              replace hM := hM.ext hb
              clear hb
              dsimp only
              go_wp2_with fail
              go_meet
              exact hM.sub (by simp)
          case rest =>
            as_aux_lemma =>
              clear hM HHO HTO HQ0 HQ1 HQC hh1 hh2 hh3 hh4 hh5 hcl
              have hM := hcut
              clear hcut
              go_wp2_with fail
              apply Mem.atA
              · exact memA
              clear hM
              intro wst hM
              (try simp only [World.size_alloc, World.size_setCell, World.heap_drewN, heapDrew, Nat.add_assoc, Nat.reduceAdd, sA, List.cons_append, List.nil_append] at hM)
              (first | refine (drawChance_any (HC.out.ext hM.below)).mono ?_)
              rintro e w1 ⟨W, H, a1, c1, xs, a6, c6, sc, a2, n2, c2, ss, start, a5, c5, cu, a3, n3, c3, ts, hS, rfl, hm⟩
              replace hM := hM.join hm
              clear hm
              (try simp only [World.size_alloc, World.size_setCell, World.heap_drewN, heapDrew, Nat.add_assoc, Nat.reduceAdd, sA, List.cons_append, List.nil_append] at hM)
              clear hS
              obtain ⟨⟨num, den, fine⟩, hq⟩ : ∃ r, chanceR W H xs sc ss start cu ts = r := ⟨_, rfl⟩
              have HQ := Lib.hid hq; clear hq
              have hh1 : (num != num) = false := by simp
              have hh2 : (den != den) = false := by simp
              have hh3 : (fine != fine) = false := by cases fine <;> rfl
              go_wp2_with fail
              apply Mem.atA
              · exact memA
              clear hM
              intro wst hM
              (try simp only [World.size_alloc, World.size_setCell, World.heap_drewN, heapDrew, Nat.add_assoc, Nat.reduceAdd, sA, List.cons_append, List.nil_append] at hM)
              (first | refine (implChance_any W H a1 xs.length c1 xs a6 sc.length c6 sc a2 n2 c2 ss start a5 cu.length c5 cu a3 n3 c3 ts _ (hM.intsR (.there (.there (.there .here)))) (hM.scens (.there .here)) (hM.intsR (.there (.there (.there (.there .here))))) (hM.ow (.there (.there .here))).rd (hM.intsR (.there (.there (.there (.there (.there .here))))))).mono ?_)
              rw [HQ.out]
              rintro e wc15 ⟨rfl, hb⟩
              replace hM := hM.ext hb
              clear hb
              dsimp only
              obtain ⟨k0, f0, l0⟩ := hM.row .here
              go_wp2_with fail
              clear k0 f0 l0
              apply Mem.atA
              · exact memA
              clear hM
              intro wst hM
              (try simp only [World.size_alloc, World.size_setCell, World.heap_drewN, heapDrew, Nat.add_assoc, Nat.reduceAdd, sA, List.cons_append, List.nil_append] at hM)
              (first | refine (specChance_any W H a1 xs.length c1 xs a6 sc.length c6 sc a2 n2 c2 ss start a5 cu.length c5 cu a3 n3 c3 ts _ (hM.intsR (.there (.there (.there .here)))) (hM.scens (.there .here)) (hM.intsR (.there (.there (.there (.there .here))))) (hM.ow (.there (.there .here))).rd (hM.intsR (.there (.there (.there (.there (.there .here))))))).mono ?_)
              rw [HQ.out]
              rintro e wc16 ⟨rfl, hb⟩
              replace hM := hM.ext hb
              clear hb
              dsimp only
              cases fine
              · go_wp2
                go_ret
                exact ⟨rfl, (by apply Mem.below; (exact memA))⟩
              obtain ⟨hsc, hln, hcr, hbn, hdh⟩ := chance_ok HQ.out
              obtain ⟨f, hf⟩ : ∃ f, hitB W.toNat xs.length xs ss start cu ts = f := ⟨_, rfl⟩
              rw [hf] at hcr hdh
              have HSC := Lib.hid hsc; have HCR := Lib.hid hcr; have HDH := Lib.hid hdh
              have HB := Lib.hid (fun k => wt_bnds (p := f) hsc hln.2 k)
              have HT := Lib.hid (fun k (hk : k < sc.length) => wts_take (sc := sc) hk)
              have HTF := Lib.hid (fun k (hk : k < sc.length) => wtf_take (p := f) (sc := sc) hk)
              have HMM := Lib.hid (fun k (hk : k < sc.length) => getD_mem' (sc := sc) hk)
              clear hsc hcr hdh hf
              go_wp2_with fail
              go_loopw [43, 44, 45] (fun s43 s44 s45 wr => ∃ k : Nat, k ≤ sc.length ∧ s45 = .int .i64 k ∧ s43 = .int .i64 (wtS (sc.take k)) ∧ s44 = .int .i64 (wtS ((sc.take k).filter f)) ∧ Mem w.heap.size w wr [rowE w1.heap.size 26 #[.int .i64 W, .int .i64 H, .slice a1 xs.length c1], scenE a6 sc.length c6 sc, owE FCut 37 a5 cu.length c5 cu, intE a1 xs.length c1 xs, intE a2 n2 c2 ss, intE a3 n3 c3 ts]) (fun _ _ s45 _ => sc.length - (intOf s45).toNat)
              case atStart => exact ⟨0, Nat.zero_le _, rfl, rfl, rfl, hM⟩
              case round =>
                clear hM
                obtain ⟨k, hk, rfl, rfl, rfl, hM⟩ := hrel
                by_cases hlt : k < sc.length
                · obtain ⟨gq, rfl, -⟩ := (hM.nestOw (.there .here)).head (by omega)
                  have hts := HT.out k hlt
                  have htf := HTF.out k hlt
                  have hb := HB.out k
                  have hmm := HMM.out k hlt
                  have hdh := HDH.out _ hmm
                  have hw := scen_wt (HSC.out _ hmm)
                  have hph := (hM.scens (.there .here)).ph _ hmm
                  obtain ⟨v, hv⟩ : ∃ v, sc.getD k ScenarioI.zero = v := ⟨_, rfl⟩
                  rw [hv] at hts hw hmm htf hdh hph
                  have HV := Lib.hid hv
                  obtain ⟨y, hy⟩ : ∃ y, f v = y := ⟨_, rfl⟩
                  rw [hy] at htf hdh
                  clear hv hy hmm
                  obtain ⟨ad, m, cx, pv, wt⟩ := v
                  dsimp only at hts hw htf hdh hph
                  generalize wtS (sc.take k) = q at hts hb ⊢
                  generalize wtS ((sc.take k).filter f) = qf at htf hb ⊢
                  have HTS := Lib.hid hts; have HTF2 := Lib.hid htf; have HDD := Lib.hid hdh
                  clear hts htf hdh
                  have i0 : (0 : Int) ≤ (k : Int) := by omega
                  have i1 : (k : Int) < (sc.length : Int) := by omega
                  have hwr : IntKind.i64.wrap (q + wt) = q + wt := wrap_in (by omega)
                  have hwr2 : IntKind.i64.wrap (qf + wt) = qf + wt := wrap_in (by omega)
                  go_wp2_with fail
                  apply Mem.atWpA
                  · exact memA
                  clear hM
                  intro wst hM
                  (try simp only [World.size_alloc, World.size_setCell, World.heap_drewN, heapDrew, Nat.add_assoc, Nat.reduceAdd, sA, List.cons_append, List.nil_append] at hM)
                  refine AtF.startA hM hM 15 (by kernel_rfl) ?_
                  clear hM
                  intro wd hM
                  have hS := hM
                  refine AtF.tp 0 ?_ 286 [] ?_ hS ?_
                  rotate_left
                  · (intro wS hSw; (try dsimp only at hSw); have kr0 := (Mem.row hSw .here).cell; have hd0 := ((hSw.nestOw (.there .here)).cellScenario hlt).1; rw [HV.out] at hd0; dsimp only at hd0; go_simp; (try rw [if_neg (by omega)]); try with_reducible rfl)
                  simp only [Act.put, sA]
                  refine AtF.tp 1 ?_ 287 [] ?_ hS ?_
                  rotate_left
                  · (intro wS hSw; (try dsimp only at hSw); go_simp; (try rw [if_neg (by omega)]); try with_reducible rfl)
                  simp only [Act.put, sA]
                  refine AtF.tp 2 ?_ 288 [] ?_ hS ?_
                  rotate_left
                  · (intro wS hSw; (try dsimp only at hSw); go_simp; (try rw [if_neg (by omega)]); try with_reducible rfl)
                  simp only [Act.put, sA]
                  refine AtF.tp 3 ?_ 289 [] ?_ hS ?_
                  rotate_left
                  · (intro wS hSw; (try dsimp only at hSw); have kr0 := (Mem.row hSw .here).cell; have hd0 := ((hSw.nestOw (.there .here)).cellScenario hlt).1; rw [HV.out] at hd0; dsimp only at hd0; go_simp; (try rw [if_neg (by omega)]); try with_reducible rfl)
                  simp only [Act.put, sA]
                  refine AtF.tp 4 ?_ 290 [] ?_ hS ?_
                  rotate_left
                  · (intro wS hSw; (try dsimp only at hSw); go_simp; (try rw [if_neg (by omega)]); try with_reducible rfl)
                  simp only [Act.put, sA]
                  refine AtF.tp 5 ?_ 291 [] ?_ hS ?_
                  rotate_left
                  · (intro wS hSw; (try dsimp only at hSw); have kr0 := (Mem.row hSw .here).cell; have hd0 := ((hSw.nestOw (.there .here)).cellScenario hlt).1; rw [HV.out] at hd0; dsimp only at hd0; go_simp; (try rw [if_neg (by omega)]); try with_reducible rfl)
                  simp only [Act.put, sA]
                  refine AtF.tp 6 ?_ 292 [] ?_ hS ?_
                  rotate_left
                  · (intro wS hSw; (try dsimp only at hSw); go_simp; (try rw [if_neg (by omega)]); try with_reducible rfl)
                  simp only [Act.put, sA]
                  refine AtF.tp 7 ?_ 293 [] ?_ hS ?_
                  rotate_left
                  · (intro wS hSw; (try dsimp only at hSw); go_simp; (try rw [if_neg (by omega)]); try with_reducible rfl)
                  simp only [Act.put, sA]
                  refine AtF.tp 8 ?_ 294 [] ?_ hS ?_
                  rotate_left
                  · (intro wS hSw; (try dsimp only at hSw); go_simp; (try rw [if_neg (by omega)]); try with_reducible rfl)
                  simp only [Act.put, sA]
                  refine AtF.tp 9 ?_ 295 [] ?_ hS ?_
                  rotate_left
                  · (intro wS hSw; (try dsimp only at hSw); go_simp; (try rw [if_neg (by omega)]); try with_reducible rfl)
                  simp only [Act.put, sA]
                  refine AtF.only (i := 10) (by kernel_rfl) rfl rfl ?_
                  intro K hK
                  go_simp
                  refine (implHold_any W H a1 xs.length c1 xs ad m cx pv a2 n2 c2 ss start a5 cu.length c5 cu a3 n3 c3 ts _ (hM.intsR (.there (.there (.there .here)))) ((hM.scens (.there .here)).ph ⟨ad, m, cx, pv, wt⟩ (by rw [← HV.out]; exact getD_mem' hlt)) (hM.intsR (.there (.there (.there (.there .here))))) (hM.ow (.there (.there .here))).rd (hM.intsR (.there (.there (.there (.there (.there .here))))))).mono ?_
                  rw [HDD.out]
                  rintro e w3 ⟨rfl, hb9⟩
                  replace hM := hM.ext hb9
                  clear hb9
                  try dsimp only
                  try dsimp only
                  refine hK.out _ _ (hM) ?_
                  clear hK K hS
                  have hS := hM
                  refine AtF.tp 11 ?_ 285 [] ?_ hS ?_
                  rotate_left
                  · (intro wS hSw; (try dsimp only at hSw); go_simp; (try rw [if_neg (by omega)]); try with_reducible rfl)
                  simp only [Act.put, sA]
                  refine AtF.tp 12 ?_ 297 [] ?_ hS ?_
                  rotate_left
                  · (intro wS hSw; (try dsimp only at hSw); go_simp; (try rw [if_neg (by omega)]); try with_reducible rfl)
                  simp only [Act.put, sA]
                  refine AtF.tp 13 ?_ 298 [] ?_ hS ?_
                  rotate_left
                  · (intro wS hSw; (try dsimp only at hSw); go_simp; (try rw [if_neg (by omega)]); try with_reducible rfl)
                  simp only [Act.put, sA]
                  refine AtF.tp 14 ?_ 46 [] ?_ hS ?_
                  rotate_left
                  · (intro wS hSw; (try dsimp only at hSw); go_simp; (try rw [if_neg (by omega)]); try with_reducible rfl)
                  simp only [Act.put, sA]
                  refine AtF.last (by kernel_rfl) rfl (by kernel_rfl) ?_
                  intro K hK
                  clear hS
                  go_simp
                  refine hK.out _ _ ?_
                  clear hK K
                  obtain ⟨hc0, hc1⟩ := (hM.nestOw (.there .here)).cellScenario hlt
                  rw [HV.out] at hc0 hc1
                  dsimp only at hc0 hc1
                  cases y
                  · go_wp2
                    go_roundw
                    case rel => exact ⟨k + 1, by omega, by go_num, by rw [HTS.out], by rw [HTF2.out]; simp, by (exact memA)⟩
                    case measure => simp [intOf]; omega
                  · go_wp2
                    go_roundw
                    case rel => exact ⟨k + 1, by omega, by go_num, by rw [HTS.out], by rw [HTF2.out]; simp, by (exact memA)⟩
                    case measure => simp [intOf]; omega
                · obtain rfl : k = sc.length := by omega
                  have hb := HB.out sc.length
                  rw [List.take_of_length_le (Nat.le_refl _)] at hb ⊢
                  obtain ⟨r1, hr1⟩ : ∃ q, wtS sc = q := ⟨_, rfl⟩
                  obtain ⟨r2, hr2⟩ : ∃ q, wtS (sc.filter f) = q := ⟨_, rfl⟩
                  have hcr := HCR.out
                  rw [hr1, hr2] at hcr hb ⊢
                  have HEQ := Lib.hid hcr
                  clear hr1 hr2 hcr
                  have hm1 := Int.mul_le_mul hbn.1.2 hb.1.2 hb.1.1 (by omega : (0 : Int) ≤ 400)
                  have hm2 := Int.mul_le_mul hb.2.2 hbn.2.2 hbn.2.1 (by omega : (0 : Int) ≤ 400)
                  have hm3 := Int.mul_nonneg hbn.1.1 hb.1.1
                  have hm4 := Int.mul_nonneg hb.2.1 hbn.2.1
                  have hw1 : IntKind.i64.wrap (num * r1) = num * r1 := wrap_in (by omega)
                  have hw2 : IntKind.i64.wrap (r2 * den) = num * r1 := by rw [wrap_in (by omega)]; exact HEQ.out.symm
                  have hq9 : ((num * r1) == (num * r1)) = true := by simp
                  go_wp2
                  go_ret
                  exact ⟨rfl, (by apply Mem.below; (exact memA))⟩
end Go.Proofs.YtojfbcgfeojdfaaGreat
