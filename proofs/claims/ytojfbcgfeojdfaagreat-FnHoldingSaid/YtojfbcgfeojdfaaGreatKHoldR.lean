/-
  Later cuts of the program, slacks of the reference where cuts hold.
-/
import Derived.Test.YtojfbcgfeojdfaaGreatKArrD
import Derived.Test.YtojfbcgfeojdfaaGreatKDelay
import Derived.Test.YtojfbcgfeojdfaaGreatKCutsG
import Derived.Test.YtojfbcgfeojdfaaGreatKCells
import Derived.Test.YtojfbcgfeojdfaaGreatKDrawPh
import Derived.Test.YtojfbcgfeojdfaaGreatKDrawSmk
/-
  Later cuts of the program, slacks of the reference where cuts hold.
-/
namespace Go.Proofs.YtojfbcgfeojdfaaGreat
set_option linter.unusedSimpArgs false
set_option linter.unusedVariables false
open Go.RowKit

theorem Mem.nilOwR {α : Type} {F : Fl α} {E : TypeId} {B : Nat} {w0 w : World} {G : List Ent} (h : Mem B w0 w G) : Mem B w0 w (owE F E none 0 0 [] :: G) := by
  refine ⟨h.below, h.size, ?_, List.pairwise_cons.2 ⟨fun e _ k hk => ?_, h.apart⟩⟩
  · intro e he
    rcases List.mem_cons.1 he with rfl | he
    · exact ow_nil _ _ _ _
    · exact h.ents e he
  · simp [owE, blockOf] at hk
theorem cut_wf {v : CutI} {d : Int} (h1 : 0 ≤ v.cell ∧ v.cell ≤ 100000) (h2 : 0 ≤ v.tick ∧ v.tick ≤ 9999) (hd : 0 ≤ d ∧ d ≤ 9999) : FCut.wf (laterC d v) := by
  refine ⟨?_, ?_⟩ <;> (unfold laterC; dsimp only; unfold I64; omega)
theorem later_take {d : Int} {cu : List CutI} {k : Nat} (hk : k < cu.length) : (cu.map (laterC d)).take (k + 1) = (cu.map (laterC d)).take k ++ [laterC d (cu.getD k CutI.zero)] := by
  rw [← List.map_take, ← List.map_take, take_succV (z := CutI.zero) hk, List.map_append]
  rfl
set_option maxRecDepth 100000 in
set_option maxHeartbeats 30000000 in
theorem delayed_any (a1 : Option Addr) (n1 c1 : Nat) (cu : List CutI) (d : Int) (w : World) (h1 : Rd FCut w a1 n1 c1 cu) (hd : 0 ≤ d ∧ d ≤ 9999) (hn8 : n1 ≤ 8) (hb : ∀ k, k < cu.length → (0 ≤ (cu.getD k CutI.zero).cell ∧ (cu.getD k CutI.zero).cell ≤ 100000) ∧ (0 ≤ (cu.getD k CutI.zero).tick ∧ (cu.getD k CutI.zero).tick ≤ 9999)) :
    Calls Tryz.prog 51 #[.slice a1 n1 c1, .int .i64 d] w (fun e w' => ∃ a' c', e = .returned (.slice a' n1 c') ∧ Mem w.heap.size w w' [owE FCut 37 a' n1 c' (cu.map (laterC d))]) := by
  have hM := Mem.start w
  have HL := Lib.hid h1.len
  have HB := Lib.hid hb
  clear hb
  obtain ⟨i0, hi, hz0, hz1, hz2⟩ := info_parts Tryz.info37
  go_enter Tryz.func51, Tryz.ntmps51
  go_upto_region 2 with fail
  apply Mem.atWpA
  · exact memA
  clear hM
  intro wst hM
  (try simp only [World.size_alloc, World.size_setCell, World.heap_drewN, heapDrew, Nat.add_assoc, Nat.reduceAdd, sA, List.cons_append, List.nil_append] at hM)
  replace hM := Mem.toOwR (F := FCut) hM
  go_wp2_with fail
  go_loopw [5, 11] (fun s5 s11 wr => ∃ (k : Nat) (a' : Option Addr) (c' : Nat), k ≤ n1 ∧ s11 = .int .i64 k ∧ s5 = .slice a' k c' ∧ Mem w.heap.size w wr [owE FCut 37 a' k c' ((cu.map (laterC d)).take k)]) (fun _ s11 _ => n1 - (intOf s11).toNat)
  case atStart => exact ⟨0, _, _, Nat.zero_le _, rfl, rfl, hM⟩
  case round =>
    clear hM
    obtain ⟨k, a', c', hk, rfl, rfl, hM⟩ := hrel
    by_cases hlt : k < n1
    · obtain ⟨bl, offl, rfl, -, -⟩ := h1.at' _ hlt
      obtain ⟨-, hc0, hc1⟩ := (h1.ext hM.below).cellCut hlt
      obtain ⟨hb0, hb1⟩ := HB.out k (by rw [HL.out]; exact hlt)
      have HS := Lib.hid (later_take (d := d) (cu := cu) (k := k) (by rw [HL.out]; exact hlt))
      obtain ⟨v, hv⟩ : ∃ v, cu.getD k CutI.zero = v := ⟨_, rfl⟩
      rw [hv] at hc0 hc1 hb0 hb1 HS
      clear hv
      have HWF := Lib.hid (cut_wf hb0 hb1 hd)
      obtain ⟨vc, vt⟩ := v
      dsimp only at hc0 hc1 hb1
      have i0' : (0 : Int) ≤ (k : Int) := by omega
      have i1 : (k : Int) < (n1 : Int) := by omega
      have hw : IntKind.i64.wrap (vt + d) = vt + d := wrap_in (by omega)
      go_upto_region 5 with fail
      apply Mem.atWpA
      · exact memA
      clear hM
      intro wst hM
      (try simp only [World.size_alloc, World.size_setCell, World.heap_drewN, heapDrew, Nat.add_assoc, Nat.reduceAdd, sA, List.cons_append, List.nil_append] at hM)
      obtain ⟨k0, f0, l0⟩ := hM.row .here
      go_wp2_with (at_builtin; apply Mem.atL; (focus ((exact memA); done)); clear hM k0 f0 l0; intro hM; refine wpList_pushR (F := FCut) (laterC d ⟨vc, vt⟩) hM (fun _ => .there .here) rfl HWF.out (by decide) (by show (k + 1) * 2 ≤ _; omega) i0 (.agg #[.int .i64 0, .int .i64 0]) 16 hi hz0 hz1 hz2 rfl (by omega) rfl _ _ _ Tryz.underlying28 rfl rfl rfl ?_)
      intro a3 c3 w3 hM
      go_wp2
      go_roundw
      case rel => exact ⟨k + 1, a3, c3, by omega, by go_num, rfl, by rw [HS.out]; exact hM.tail⟩
      case measure => simp [intOf]; omega
    · obtain rfl : k = n1 := by omega
      rw [List.take_of_length_le (by rw [List.length_map, HL.out]; exact Nat.le_refl _)] at hM
      go_wp2
      go_ret
      exact ⟨a', c', rfl, hM⟩
set_option maxRecDepth 100000 in
set_option maxHeartbeats 30000000 in
theorem delayCuts_any (W H : Int) (a : Option Addr) (n c : Nat) (xs : List Int) (a1 : Option Addr) (n1 c1 : Nat) (cu : List CutI) (d : Int) (w : World) (h : Ints w a n c xs) (h1 : Rd FCut w a1 n1 c1 cu) (hc : cutsB W H xs cu = true) :
    Calls Tryz.prog 15 #[.agg #[.int .i64 W, .int .i64 H, .slice a n c], .slice a1 n1 c1, .int .i64 d] w (fun e w' => ∃ a' m' c' ys, (delayed W H xs cu d = true → ys = cu.map (laterC d)) ∧ e = .returned (.tuple #[.slice a' m' c', .bool (delayed W H xs cu d)]) ∧ Mem w.heap.size w w' [owE FCut 37 a' m' c' ys]) := by
  have hM := Mem.start w
  obtain ⟨hg, hct, h8⟩ := cutsB_true hc
  have h25 := goodB_25 hg
  have hn8 : n1 ≤ 8 := by rw [← h1.len]; exact h8
  have HB := Lib.hid (fun k (hk : k < cu.length) => show (0 ≤ (cu.getD k CutI.zero).cell ∧ (cu.getD k CutI.zero).cell ≤ 100000) ∧ (0 ≤ (cu.getD k CutI.zero).tick ∧ (cu.getD k CutI.zero).tick ≤ 9999) by
    have := cut_in hct hk; omega)
  have HC := Lib.hid hc
  obtain ⟨q, hq⟩ : ∃ q, inB d 0 9999 = q := ⟨_, rfl⟩
  obtain ⟨q2, hq2⟩ : ∃ q, cutsB W H xs (cu.map (laterC d)) = q := ⟨_, rfl⟩
  have HF := Lib.hid (show delayed W H xs cu d = (q && q2) by rw [delayed, hc, hq, hq2, Bool.true_and])
  have HQ2 := Lib.hid hq2
  clear hq2 hg hct h8 h25 hc
  cases q
  · have HQ := Lib.hid hq
    clear hq
    go_enter Tryz.func15, Tryz.ntmps15
    go_wp2_with fail
    apply Mem.atWpA
    · exact memA
    clear hM
    intro wst hM
    (try simp only [World.size_alloc, World.size_setCell, World.heap_drewN, heapDrew, Nat.add_assoc, Nat.reduceAdd, sA, List.cons_append, List.nil_append] at hM)
    refine AtF.startA hM hM 16 (by kernel_rfl) ?_
    clear hM
    intro wd hM
    have hS := hM
    refine AtF.tp 0 ?_ 8 [9, 8, 4, 2] ?_ hS ?_
    rotate_left
    · (intro wS hSw; (try dsimp only at hSw); have kr0 := (Mem.row hSw .here).cell; go_simp; (try rw [if_neg (by omega)]); try with_reducible rfl)
    simp only [Act.put, sA]
    refine AtF.tp 1 ?_ 9 [9, 8, 4, 2] ?_ hS ?_
    rotate_left
    · (intro wS hSw; (try dsimp only at hSw); go_simp; (try rw [if_neg (by omega)]); try with_reducible rfl)
    simp only [Act.put, sA]
    refine AtF.only (i := 2) (by kernel_rfl) rfl rfl ?_
    intro K hK
    go_simp
    refine (areCuts_any W H a n c xs a1 n1 c1 cu _ (h.ext hM.below) (h1.ext hM.below)).mono ?_
    rw [HC.out]
    rintro e w3 ⟨rfl, hb⟩
    replace hM := hM.ext hb
    clear hb
    try dsimp only
    refine hK.out _ _ (hM) ?_
    clear hK K hS
    have hS := hM
    refine AtF.tp 3 ?_ 11 [9, 8, 4] ?_ hS ?_
    rotate_left
    · (intro wS hSw; (try dsimp only at hSw); go_simp; (try rw [if_neg (by omega)]); try with_reducible rfl)
    simp only [Act.put, sA]
    refine AtF.tp 4 ?_ 12 [9, 8] ?_ hS ?_
    rotate_left
    · (intro wS hSw; (try dsimp only at hSw); go_simp; (try rw [if_neg (by omega)]); try with_reducible rfl)
    simp only [Act.put, sA]
    refine AtF.tp 5 ?_ 13 [9, 6] ?_ hS ?_
    rotate_left
    · (intro wS hSw; (try dsimp only at hSw); go_simp; (try rw [if_neg (by omega)]); try with_reducible rfl)
    simp only [Act.put, sA]
    refine AtF.only (i := 6) (by kernel_rfl) rfl rfl ?_
    intro K hK
    go_simp
    refine (phTick_any d _).mono ?_
    rw [HQ.out]
    rintro e w4 ⟨rfl, rfl⟩
    try dsimp only
    refine hK.out _ _ (hM) ?_
    clear hK K hS
    have hS := hM
    refine AtF.tp 7 ?_ 15 [9, 8] ?_ hS ?_
    rotate_left
    · (intro wS hSw; (try dsimp only at hSw); go_simp; (try rw [if_neg (by omega)]); try with_reducible rfl)
    simp only [Act.put, sA]
    refine AtF.tp 8 ?_ 16 [9] ?_ hS ?_
    rotate_left
    · (intro wS hSw; (try dsimp only at hSw); go_simp; (try rw [if_neg (by omega)]); try with_reducible rfl)
    simp only [Act.put, sA]
    refine AtF.tp 9 ?_ 17 [] ?_ hS ?_
    rotate_left
    · (intro wS hSw; (try dsimp only at hSw); go_simp; (try rw [if_neg (by omega)]); try with_reducible rfl)
    simp only [Act.put, sA]
    refine AtF.tq 10 18 [15, 14] hS ?_
    simp only [Act.put, sA]
    refine AtF.tq 11 19 [15, 14, 13] hS ?_
    simp only [Act.put, sA]
    refine AtF.tq 12 20 [15, 14, 13] hS ?_
    simp only [Act.put, sA]
    refine AtF.tq 13 21 [15, 14] hS ?_
    simp only [Act.put, sA]
    refine AtF.tq 14 22 [15] hS ?_
    simp only [Act.put, sA]
    refine AtF.tq 15 23 [] hS ?_
    simp only [Act.put, sA]
    refine AtF.last (by kernel_rfl) rfl (by kernel_rfl) ?_
    intro K hK
    clear hS
    go_simp
    refine hK.out _ _ ?_
    clear hK K
    go_wp2
    go_ret2
    refine ⟨none, 0, 0, [], ?_, by rw [HF.out]; rfl, ?_⟩
    · intro h
      rw [HF.out] at h
      cases h
    · apply Mem.nilOwR
      apply Mem.tail (e := rowE w.heap.size 26 #[.int .i64 W, .int .i64 H, .slice a n c])
      (exact memA)
  have hd := inB_true hq
  have HQ := Lib.hid hq
  clear hq
  cases q2
  · skip
    go_enter Tryz.func15, Tryz.ntmps15
    go_wp2_with fail
    apply Mem.atWpA
    · exact memA
    clear hM
    intro wst hM
    (try simp only [World.size_alloc, World.size_setCell, World.heap_drewN, heapDrew, Nat.add_assoc, Nat.reduceAdd, sA, List.cons_append, List.nil_append] at hM)
    refine AtF.startA hM hM 16 (by kernel_rfl) ?_
    clear hM
    intro wd hM
    have hS := hM
    refine AtF.tp 0 ?_ 8 [9, 8, 4, 2] ?_ hS ?_
    rotate_left
    · (intro wS hSw; (try dsimp only at hSw); have kr0 := (Mem.row hSw .here).cell; go_simp; (try rw [if_neg (by omega)]); try with_reducible rfl)
    simp only [Act.put, sA]
    refine AtF.tp 1 ?_ 9 [9, 8, 4, 2] ?_ hS ?_
    rotate_left
    · (intro wS hSw; (try dsimp only at hSw); go_simp; (try rw [if_neg (by omega)]); try with_reducible rfl)
    simp only [Act.put, sA]
    refine AtF.only (i := 2) (by kernel_rfl) rfl rfl ?_
    intro K hK
    go_simp
    refine (areCuts_any W H a n c xs a1 n1 c1 cu _ (h.ext hM.below) (h1.ext hM.below)).mono ?_
    rw [HC.out]
    rintro e w3 ⟨rfl, hb⟩
    replace hM := hM.ext hb
    clear hb
    try dsimp only
    refine hK.out _ _ (hM) ?_
    clear hK K hS
    have hS := hM
    refine AtF.tp 3 ?_ 11 [9, 8, 4] ?_ hS ?_
    rotate_left
    · (intro wS hSw; (try dsimp only at hSw); go_simp; (try rw [if_neg (by omega)]); try with_reducible rfl)
    simp only [Act.put, sA]
    refine AtF.tp 4 ?_ 12 [9, 8] ?_ hS ?_
    rotate_left
    · (intro wS hSw; (try dsimp only at hSw); go_simp; (try rw [if_neg (by omega)]); try with_reducible rfl)
    simp only [Act.put, sA]
    refine AtF.tp 5 ?_ 13 [9, 6] ?_ hS ?_
    rotate_left
    · (intro wS hSw; (try dsimp only at hSw); go_simp; (try rw [if_neg (by omega)]); try with_reducible rfl)
    simp only [Act.put, sA]
    refine AtF.only (i := 6) (by kernel_rfl) rfl rfl ?_
    intro K hK
    go_simp
    refine (phTick_any d _).mono ?_
    rw [HQ.out]
    rintro e w4 ⟨rfl, rfl⟩
    try dsimp only
    refine hK.out _ _ (hM) ?_
    clear hK K hS
    have hS := hM
    refine AtF.tp 7 ?_ 15 [9, 8] ?_ hS ?_
    rotate_left
    · (intro wS hSw; (try dsimp only at hSw); go_simp; (try rw [if_neg (by omega)]); try with_reducible rfl)
    simp only [Act.put, sA]
    refine AtF.tp 8 ?_ 16 [9] ?_ hS ?_
    rotate_left
    · (intro wS hSw; (try dsimp only at hSw); go_simp; (try rw [if_neg (by omega)]); try with_reducible rfl)
    simp only [Act.put, sA]
    refine AtF.tp 9 ?_ 17 [] ?_ hS ?_
    rotate_left
    · (intro wS hSw; (try dsimp only at hSw); go_simp; (try rw [if_neg (by omega)]); try with_reducible rfl)
    simp only [Act.put, sA]
    refine AtF.tp 10 ?_ 18 [15, 14] ?_ hS ?_
    rotate_left
    · (intro wS hSw; (try dsimp only at hSw); have kr0 := (Mem.row hSw .here).cell; go_simp; (try rw [if_neg (by omega)]); try with_reducible rfl)
    simp only [Act.put, sA]
    refine AtF.tp 11 ?_ 19 [15, 14, 13] ?_ hS ?_
    rotate_left
    · (intro wS hSw; (try dsimp only at hSw); go_simp; (try rw [if_neg (by omega)]); try with_reducible rfl)
    simp only [Act.put, sA]
    refine AtF.tp 12 ?_ 20 [15, 14, 13] ?_ hS ?_
    rotate_left
    · (intro wS hSw; (try dsimp only at hSw); go_simp; (try rw [if_neg (by omega)]); try with_reducible rfl)
    simp only [Act.put, sA]
    refine AtF.only (i := 13) (by kernel_rfl) rfl rfl ?_
    intro K hK
    go_simp
    refine (delayed_any a1 n1 c1 cu d _ (h1.ext hM.below) hd hn8 HB.out).mono ?_
    rintro e w5 ⟨a6, c6, rfl, hm⟩
    replace hM := hM.join hm
    clear hm
    (try simp only [World.size_alloc, World.size_setCell, World.heap_drewN, heapDrew, Nat.add_assoc, Nat.reduceAdd, sA, List.cons_append, List.nil_append] at hM)
    try dsimp only
    refine hK.out _ _ (hM.tail) ?_
    clear hK K hS
    have hS := hM.tail
    refine AtF.only (i := 14) (by kernel_rfl) rfl rfl ?_
    intro K hK
    go_simp
    refine (areCuts_any W H a n c xs a6 n1 c6 (cu.map (laterC d)) _ (h.ext hM.below) (hM.ow .here).rd).mono ?_
    rw [HQ2.out]
    rintro e w6 ⟨rfl, hb⟩
    replace hM := hM.ext hb
    clear hb
    try dsimp only
    refine hK.out _ _ (hM.tail) ?_
    clear hK K hS
    have hS := hM.tail
    refine AtF.tp 15 ?_ 23 [] ?_ hS ?_
    rotate_left
    · (intro wS hSw; (try dsimp only at hSw); go_simp; (try rw [if_neg (by omega)]); try with_reducible rfl)
    simp only [Act.put, sA]
    refine AtF.last (by kernel_rfl) rfl (by kernel_rfl) ?_
    intro K hK
    clear hS
    go_simp
    refine hK.out _ _ ?_
    clear hK K
    go_wp2
    go_ret2
    refine ⟨none, 0, 0, [], ?_, by rw [HF.out]; rfl, ?_⟩
    · intro h
      rw [HF.out] at h
      cases h
    · apply Mem.nilOwR
      apply Mem.tail (e := rowE w.heap.size 26 #[.int .i64 W, .int .i64 H, .slice a n c])
      apply Mem.tail (e := owE FCut 37 a6 n1 c6 (cu.map (laterC d)))
      (exact memA)
  · skip
    go_enter Tryz.func15, Tryz.ntmps15
    go_wp2_with fail
    apply Mem.atWpA
    · exact memA
    clear hM
    intro wst hM
    (try simp only [World.size_alloc, World.size_setCell, World.heap_drewN, heapDrew, Nat.add_assoc, Nat.reduceAdd, sA, List.cons_append, List.nil_append] at hM)
    refine AtF.startA hM hM 16 (by kernel_rfl) ?_
    clear hM
    intro wd hM
    have hS := hM
    refine AtF.tp 0 ?_ 8 [9, 8, 4, 2] ?_ hS ?_
    rotate_left
    · (intro wS hSw; (try dsimp only at hSw); have kr0 := (Mem.row hSw .here).cell; go_simp; (try rw [if_neg (by omega)]); try with_reducible rfl)
    simp only [Act.put, sA]
    refine AtF.tp 1 ?_ 9 [9, 8, 4, 2] ?_ hS ?_
    rotate_left
    · (intro wS hSw; (try dsimp only at hSw); go_simp; (try rw [if_neg (by omega)]); try with_reducible rfl)
    simp only [Act.put, sA]
    refine AtF.only (i := 2) (by kernel_rfl) rfl rfl ?_
    intro K hK
    go_simp
    refine (areCuts_any W H a n c xs a1 n1 c1 cu _ (h.ext hM.below) (h1.ext hM.below)).mono ?_
    rw [HC.out]
    rintro e w3 ⟨rfl, hb⟩
    replace hM := hM.ext hb
    clear hb
    try dsimp only
    refine hK.out _ _ (hM) ?_
    clear hK K hS
    have hS := hM
    refine AtF.tp 3 ?_ 11 [9, 8, 4] ?_ hS ?_
    rotate_left
    · (intro wS hSw; (try dsimp only at hSw); go_simp; (try rw [if_neg (by omega)]); try with_reducible rfl)
    simp only [Act.put, sA]
    refine AtF.tp 4 ?_ 12 [9, 8] ?_ hS ?_
    rotate_left
    · (intro wS hSw; (try dsimp only at hSw); go_simp; (try rw [if_neg (by omega)]); try with_reducible rfl)
    simp only [Act.put, sA]
    refine AtF.tp 5 ?_ 13 [9, 6] ?_ hS ?_
    rotate_left
    · (intro wS hSw; (try dsimp only at hSw); go_simp; (try rw [if_neg (by omega)]); try with_reducible rfl)
    simp only [Act.put, sA]
    refine AtF.only (i := 6) (by kernel_rfl) rfl rfl ?_
    intro K hK
    go_simp
    refine (phTick_any d _).mono ?_
    rw [HQ.out]
    rintro e w4 ⟨rfl, rfl⟩
    try dsimp only
    refine hK.out _ _ (hM) ?_
    clear hK K hS
    have hS := hM
    refine AtF.tp 7 ?_ 15 [9, 8] ?_ hS ?_
    rotate_left
    · (intro wS hSw; (try dsimp only at hSw); go_simp; (try rw [if_neg (by omega)]); try with_reducible rfl)
    simp only [Act.put, sA]
    refine AtF.tp 8 ?_ 16 [9] ?_ hS ?_
    rotate_left
    · (intro wS hSw; (try dsimp only at hSw); go_simp; (try rw [if_neg (by omega)]); try with_reducible rfl)
    simp only [Act.put, sA]
    refine AtF.tp 9 ?_ 17 [] ?_ hS ?_
    rotate_left
    · (intro wS hSw; (try dsimp only at hSw); go_simp; (try rw [if_neg (by omega)]); try with_reducible rfl)
    simp only [Act.put, sA]
    refine AtF.tp 10 ?_ 18 [15, 14] ?_ hS ?_
    rotate_left
    · (intro wS hSw; (try dsimp only at hSw); have kr0 := (Mem.row hSw .here).cell; go_simp; (try rw [if_neg (by omega)]); try with_reducible rfl)
    simp only [Act.put, sA]
    refine AtF.tp 11 ?_ 19 [15, 14, 13] ?_ hS ?_
    rotate_left
    · (intro wS hSw; (try dsimp only at hSw); go_simp; (try rw [if_neg (by omega)]); try with_reducible rfl)
    simp only [Act.put, sA]
    refine AtF.tp 12 ?_ 20 [15, 14, 13] ?_ hS ?_
    rotate_left
    · (intro wS hSw; (try dsimp only at hSw); go_simp; (try rw [if_neg (by omega)]); try with_reducible rfl)
    simp only [Act.put, sA]
    refine AtF.only (i := 13) (by kernel_rfl) rfl rfl ?_
    intro K hK
    go_simp
    refine (delayed_any a1 n1 c1 cu d _ (h1.ext hM.below) hd hn8 HB.out).mono ?_
    rintro e w5 ⟨a6, c6, rfl, hm⟩
    replace hM := hM.join hm
    clear hm
    (try simp only [World.size_alloc, World.size_setCell, World.heap_drewN, heapDrew, Nat.add_assoc, Nat.reduceAdd, sA, List.cons_append, List.nil_append] at hM)
    try dsimp only
    refine hK.out _ _ (hM.tail) ?_
    clear hK K hS
    have hS := hM.tail
    refine AtF.only (i := 14) (by kernel_rfl) rfl rfl ?_
    intro K hK
    go_simp
    refine (areCuts_any W H a n c xs a6 n1 c6 (cu.map (laterC d)) _ (h.ext hM.below) (hM.ow .here).rd).mono ?_
    rw [HQ2.out]
    rintro e w6 ⟨rfl, hb⟩
    replace hM := hM.ext hb
    clear hb
    try dsimp only
    refine hK.out _ _ (hM.tail) ?_
    clear hK K hS
    have hS := hM.tail
    refine AtF.tp 15 ?_ 23 [] ?_ hS ?_
    rotate_left
    · (intro wS hSw; (try dsimp only at hSw); go_simp; (try rw [if_neg (by omega)]); try with_reducible rfl)
    simp only [Act.put, sA]
    refine AtF.last (by kernel_rfl) rfl (by kernel_rfl) ?_
    intro K hK
    clear hS
    go_simp
    refine hK.out _ _ ?_
    clear hK K
    go_wp2_with fail
    apply Mem.atA
    · exact memA
    clear hM
    intro wst hM
    (try simp only [World.size_alloc, World.size_setCell, World.heap_drewN, heapDrew, Nat.add_assoc, Nat.reduceAdd, sA, List.cons_append, List.nil_append] at hM)
    (first | refine (delayed_any a1 n1 c1 cu d _ (h1.ext hM.below) hd hn8 HB.out).mono ?_)
    rintro e wc1 ⟨a7, c7, rfl, hm⟩
    replace hM := hM.join hm
    clear hm
    (try simp only [World.size_alloc, World.size_setCell, World.heap_drewN, heapDrew, Nat.add_assoc, Nat.reduceAdd, sA, List.cons_append, List.nil_append] at hM)
    go_wp2
    go_ret2
    refine ⟨a7, n1, c7, cu.map (laterC d), fun _ => rfl, by rw [HF.out]; rfl, ?_⟩
    apply Mem.pick (is := [0])
    · exact memA
    · decide
    · rfl
set_option maxRecDepth 100000 in
set_option maxHeartbeats 30000000 in
theorem specSlacks_any (W H : Int) (a : Option Addr) (n c : Nat) (xs : List Int) (a1 : Option Addr) (n1 c1 : Nat) (ph : List PhaseI) (a2 : Option Addr) (n2 c2 : Nat) (ss : List Int) (start : Int) (a4 : Option Addr) (n4 c4 : Nat) (cu : List CutI) (w : World) (h : Ints w a n c xs) (h1 : Rd FPhase w a1 n1 c1 ph) (h2 : Ints w a2 n2 c2 ss) (h4 : Rd FCut w a4 n4 c4 cu) (ha : askB W H xs n ph ss start = true) (hc : cutsB W H xs cu = true) :
    Calls Tryz.prog 11 #[.agg #[.int .i64 W, .int .i64 H, .slice a n c], .slice a1 n1 c1, .slice a2 n2 c2, .int .i64 start, .slice a4 n4 c4] w (fun e w' => ∃ a' m' c', e = .returned (.tuple #[.slice a' m' c', .bool true]) ∧ Mem w.heap.size w w' [intE a' m' c' (cu.map (slk (arrT W.toNat n xs ss ph start)))]) := by
  have hM := Mem.start w
  have HXL := Lib.hid h.len
  obtain ⟨hg, hp, hs, hst⟩ := askB_true ha
  obtain ⟨-, hct, -⟩ := cutsB_true hc
  obtain ⟨Wn, Hn, rfl, rfl, p1, p2, p3, p4, hlen, h25, hx⟩ := goodB_true hg
  have hn25 : n ≤ 25 := by rw [← HXL.out]; exact h25
  have hnp : 0 < n := by rw [← HXL.out, hlen]; exact Nat.mul_pos p1 p3
  have hW : 1 ≤ Wn ∧ Wn ≤ 5 := ⟨p1, p2⟩
  have HA := Lib.hid ha; have HC := Lib.hid hc
  have HP := Lib.hid hp; have HCT := Lib.hid hct; have HX := Lib.hid hx
  clear hg hp hs hct hlen h25 hx ha hc
  go_enter Tryz.func11, Tryz.ntmps11
  go_wp2_with fail
  apply Mem.atA
  · exact memA
  clear hM
  intro wst hM
  (try simp only [World.size_alloc, World.size_setCell, World.heap_drewN, heapDrew, Nat.add_assoc, Nat.reduceAdd, sA, List.cons_append, List.nil_append] at hM)
  apply Calls.mono
  · (apply l4Asked_any) <;> (first | (show (_ : Prop); with_reducible assumption) | (apply Hid.out; with_reducible assumption) | (apply Mem.intsR hM; (repeat' (first | with_reducible exact In.here | with_reducible apply In.there)); done) | (apply Ints.ext (hb := hM.below); with_reducible assumption) | (apply Rd.ext (hb := hM.below); with_reducible assumption) | (apply Mem.row hM; (repeat' (first | with_reducible exact In.here | with_reducible apply In.there)); done) | (apply Row.ext (hb := hM.below); with_reducible assumption) | exact ⟨by omega, by omega⟩ | omega | (trace_state; fail))
  rw [HA.out]
  rintro e wc2 ⟨rfl, hb⟩
  replace hM := hM.ext hb
  clear hb
  obtain ⟨k0, f0, l0⟩ := hM.row .here
  go_wp2_with fail
  clear k0 f0 l0
  apply Mem.atA
  · exact memA
  clear hM
  intro wst hM
  (try simp only [World.size_alloc, World.size_setCell, World.heap_drewN, heapDrew, Nat.add_assoc, Nat.reduceAdd, sA, List.cons_append, List.nil_append] at hM)
  apply Calls.mono
  · (apply l25Good_any) <;> (first | (show (_ : Prop); with_reducible assumption) | (apply Hid.out; with_reducible assumption) | (apply Mem.intsR hM; (repeat' (first | with_reducible exact In.here | with_reducible apply In.there)); done) | (apply Ints.ext (hb := hM.below); with_reducible assumption) | (apply Rd.ext (hb := hM.below); with_reducible assumption) | (apply Mem.row hM; (repeat' (first | with_reducible exact In.here | with_reducible apply In.there)); done) | (apply Row.ext (hb := hM.below); with_reducible assumption) | exact ⟨by omega, by omega⟩ | omega | (trace_state; fail))
  rw [HC.out]
  rintro e wc3 ⟨rfl, hb⟩
  replace hM := hM.ext hb
  clear hb
  obtain ⟨k0, f0, l0⟩ := hM.row .here
  go_wp2_with fail
  clear k0 f0 l0
  apply Mem.atA
  · exact memA
  clear hM
  intro wst hM
  (try simp only [World.size_alloc, World.size_setCell, World.heap_drewN, heapDrew, Nat.add_assoc, Nat.reduceAdd, sA, List.cons_append, List.nil_append] at hM)
  (first | refine (l25Slacks_any Wn Hn a n c xs a1 n1 c1 ph a2 n2 c2 ss start a4 n4 c4 cu _ (h.ext hM.below) (h1.ext hM.below) (h2.ext hM.below) (h4.ext hM.below) hnp hn25 hW HX.out HP.out hst HCT.out).mono ?_)
  rintro e wc4 ⟨a6, m6, c6, rfl, hm⟩
  replace hM := hM.join hm
  clear hm
  (try simp only [World.size_alloc, World.size_setCell, World.heap_drewN, heapDrew, Nat.add_assoc, Nat.reduceAdd, sA, List.cons_append, List.nil_append] at hM)
  go_wp2
  go_ret2
  refine ⟨a6, m6, c6, rfl, ?_⟩
  rw [Int.toNat_natCast]
  exact hM.first
end Go.Proofs.YtojfbcgfeojdfaaGreat
