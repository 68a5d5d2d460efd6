/-
  Notes in new memory, a note put in its place (the reference's).
-/
import Derived.Test.YtjnbdgldpmmamaaGreatUNoteD
/-
  Notes in new memory, a note put in its place (the reference's).
-/
namespace Go.Proofs.YtjnbdgldpmmamaaGreat
set_option linter.unusedSimpArgs false
set_option linter.unusedVariables false
open Go.RowKit

set_option maxRecDepth 100000 in
set_option maxHeartbeats 8000000 in
theorem l17One_any (x : NoteI) (w : World) (h : Ints w x.ad x.n x.c x.cl) :
    Calls Tryz.prog 73 #[x.val] w fun e w' => ∃ a' c', e = .returned (.agg #[.int .i64 x.un, .int .i64 x.sq, .slice a' x.n c', .string (bsA x.wd)]) ∧ Mem w.heap.size w w' [intE a' x.n c' x.cl] := by
  have hM := Mem.start w
  obtain ⟨un, sq, ad, m, cc, cl, wo⟩ := x
  dsimp only at h ⊢
  have HX := Lib.hid h; clear h
  go_enter Tryz.func73, Tryz.ntmps73
  go_upto_region 1 with fail
  apply Mem.atWpA
  · exact memA
  clear hM
  intro wst hM
  (try simp only [World.size_alloc, World.size_setCell, World.heap_drewN, heapDrew, Nat.add_assoc, Nat.reduceAdd, sA, List.cons_append, List.nil_append] at hM)
  refine AtT.startA hM hM 10 (by kernel_rfl) ?_
  clear hM
  intro wd hM
  have hS := hM
  refine AtT.tk 0 ?_ 3 ?_ hS ?_
  rotate_left
  · (intro wS hSw; (try dsimp only at hSw); go_simp; (try rw [if_neg (by omega)]); try with_reducible rfl)
  simp only [Act.put, sA]
  refine AtT.tk 1 ?_ 4 ?_ hS ?_
  rotate_left
  · (intro wS hSw; (try dsimp only at hSw); have kr0 := (Mem.row hSw .here).cell; have kr1 := (Mem.row hSw (.there .here)).cell; go_simp; (try rw [if_neg (by omega)]); try with_reducible rfl)
  simp only [Act.put, sA]
  refine AtT.tk 2 ?_ 5 ?_ hS ?_
  rotate_left
  · (intro wS hSw; (try dsimp only at hSw); go_simp; (try rw [if_neg (by omega)]); try with_reducible rfl)
  simp only [Act.put, sA]
  refine AtT.tk 3 ?_ 6 ?_ hS ?_
  rotate_left
  · (intro wS hSw; (try dsimp only at hSw); have kr0 := (Mem.row hSw .here).cell; have kr1 := (Mem.row hSw (.there .here)).cell; go_simp; (try rw [if_neg (by omega)]); try with_reducible rfl)
  simp only [Act.put, sA]
  refine AtT.tk 4 ?_ 7 ?_ hS ?_
  rotate_left
  · (intro wS hSw; (try dsimp only at hSw); go_simp; (try rw [if_neg (by omega)]); try with_reducible rfl)
  simp only [Act.put, sA]
  refine AtT.tk 5 ?_ 8 ?_ hS ?_
  rotate_left
  · (intro wS hSw; (try dsimp only at hSw); have kr0 := (Mem.row hSw .here).cell; have kr1 := (Mem.row hSw (.there .here)).cell; go_simp; (try rw [if_neg (by omega)]); try with_reducible rfl)
  simp only [Act.put, sA]
  refine AtT.tk 7 ?_ 10 ?_ hS ?_
  rotate_left
  · (intro wS hSw; (try dsimp only at hSw); go_simp; (try rw [if_neg (by omega)]); try with_reducible rfl)
  simp only [Act.put, sA]
  refine AtT.tk 8 ?_ 11 ?_ hS ?_
  rotate_left
  · (intro wS hSw; (try dsimp only at hSw); have kr0 := (Mem.row hSw .here).cell; have kr1 := (Mem.row hSw (.there .here)).cell; go_simp; (try rw [if_neg (by omega)]); try with_reducible rfl)
  simp only [Act.put, sA]
  refine AtT.only (i := 6) (by kernel_rfl) rfl rfl ?_
  intro K hK
  go_simp
  refine (l1Own_any ad m cc cl _ (HX.out.ext hM.below)).mono ?_
  rintro e w3 ⟨a', c2, rfl, hO, hb⟩
  replace hM := hM.own hb hO
  clear hb hO
  try dsimp only
  refine hK.out _ _ (hM.tail) ?_
  clear hK K hS
  have hS := hM.tail
  refine AtT.tk 9 ?_ 12 ?_ hS ?_
  rotate_left
  · (intro wS hSw; (try dsimp only at hSw); go_simp; (try rw [if_neg (by omega)]); try with_reducible rfl)
  simp only [Act.put, sA]
  refine AtT.last (by kernel_rfl) rfl (by kernel_rfl) ?_
  intro K hK
  clear hS
  have kk1 := (hM.row (.there .here)).cell
  have ff1 := (hM.row (.there .here)).free
  have ll1 := (hM.row (.there .here)).lt
  have kk2 := (hM.row (.there (.there .here))).cell
  have ff2 := (hM.row (.there (.there .here))).free
  have ll2 := (hM.row (.there (.there .here))).lt
  go_simp
  clear kk1 ff1 ll1 kk2 ff2 ll2
  refine hK.out _ _ ?_
  clear hK K
  apply Mem.atEx
  · exact memA
  clear hM
  intro wst hM
  (try simp only [World.size_alloc, World.size_setCell, World.heap_drewN, heapDrew, Nat.add_assoc, Nat.reduceAdd, sA, List.cons_append, List.nil_append] at hM)
  have hM9 := Lib.hid hM
  obtain ⟨k1, -, -⟩ := hM.row (.there .here)
  go_wp2
  refine bodyPost_ret (v := .agg #[.int .i64 un, .int .i64 sq, .slice a' m c2, .string (bsA wo)]) (by simp [results, Tryz.results73, go_sem, k1]) rfl ⟨a', c2, rfl, ?_⟩
  exact Mem.pick (is := [0]) hM9.out (by decide) rfl
set_option maxRecDepth 100000 in
set_option maxHeartbeats 8000000 in
theorem l17Own_any (a : Option Addr) (n c : Nat) (xs : List NoteI) (w : World) (h : RdN w a n c xs) (hn : n ≤ 1000) :
    Calls Tryz.prog 44 #[.slice a n c] w fun e w' => ∃ g c' ys, coreN ys = coreN xs ∧ e = .returned (.slice (some ⟨g, 0, none⟩) n c') ∧ Mem w.heap.size w w' [owE FNote 40 (some ⟨g, 0, none⟩) n c' ys, clkE ys] := by
  have hM := Mem.start w
  have HL := Lib.hid h.rd.len
  obtain ⟨i0, hi, hz0, hz1, hz2⟩ := info_parts Tryz.info40
  go_enter Tryz.func44, Tryz.ntmps44
  go_upto_region 2 with fail
  apply Mem.atWpA
  · exact memA
  clear hM
  intro wst hM
  (try simp only [World.size_alloc, World.size_setCell, World.heap_drewN, heapDrew, Nat.add_assoc, Nat.reduceAdd, sA, List.cons_append, List.nil_append] at hM)
  replace hM := Mem.clkNil (Mem.toOwR (F := FNote) hM)
  go_wp2_with fail
  go_loopw [3, 4] (fun s3 s4 wr => ∃ (k g c' : Nat) (ys : List NoteI), k ≤ n ∧ s4 = .int .i64 k ∧ s3 = .slice (some ⟨g, 0, none⟩) k c' ∧ Hid (coreN ys = coreN (xs.take k)) ∧ Mem w.heap.size w wr [owE FNote 40 (some ⟨g, 0, none⟩) k c' ys, clkE ys]) (fun _ s4 _ => n - (intOf s4).toNat)
  case atStart => exact ⟨0, _, _, [], Nat.zero_le _, rfl, rfl, Lib.hid rfl, hM⟩
  case round =>
    clear hM
    obtain ⟨k, g, c', ys, hk, rfl, rfl, HY, hM⟩ := hrel
    by_cases hlt : k < n
    · obtain ⟨b, off, rfl, -, -⟩ := h.rd.at' _ hlt
      have hx := h.get hlt
      have hwf := h.rd.wf _ (getD_memO (d := NoteI.zero) (xs := xs) (k := k) (by rw [HL.out]; exact hlt))
      have htk : xs.take (k + 1) = xs.take k ++ [xs.getD k NoteI.zero] := take_succV (by rw [HL.out]; exact hlt)
      obtain ⟨x, hxx⟩ : ∃ x, xs.getD k NoteI.zero = x := ⟨_, rfl⟩
      rw [hxx] at hx hwf htk
      have hc := ((h.rd.ext hM.below).cellNote hlt).2
      rw [hxx] at hc
      have HT := Lib.hid htk; have HX := Lib.hid hx; have HW := Lib.hid hwf
      clear htk hx hwf hxx
      have x0 := hc.1
      have x1 := hc.2.1
      have x2 := hc.2.2.1
      have x3 := hc.2.2.2
      clear hc
      have i0' : (0 : Int) ≤ (k : Int) := by omega
      have i1 : (k : Int) < (n : Int) := by omega
      go_wp2_with fail
      refine (l17One_any x _ (HX.out.ext hM.below)).mono ?_
      rintro e w3 ⟨a', c2, rfl, hm⟩
      replace hM := hM.join hm
      clear hm x0 x1 x2 x3
      dsimp only [List.cons_append, List.nil_append] at hM
      go_wp2_with (at_builtin; apply Mem.atL; (focus ((repeat' (first | with_reducible exact hM | with_reducible exact hMp | with_reducible apply Mem.drew | with_reducible apply Mem.drewN | with_reducible apply Mem.alloc | with_reducible apply Mem.set | with_reducible exact Sto.row | ((with_reducible refine Sto.rowEq2 ?_ ?_); omega; rfl) | ((with_reducible refine Sto.rowEq ?_); omega) | with_reducible apply Sto.int | with_reducible apply Sto.there | with_reducible assumption | (unfold I64; omega) | (with_reducible (have hMx := Mem.undrew hM; exact hMx)) | (with_reducible (have hMx := Mem.undrew hMp; exact hMx)))); done)); clear hM; intro hM; refine wpList_pushR (F := FNote) (⟨x.un, x.sq, a', x.n, c2, x.cl, x.wd⟩ : NoteI) hM (fun _ => .there .here) rfl HW.out (by decide) (by show (k + 1) * 4 ≤ _; omega) i0 (.agg #[.int .i64 0, .int .i64 0, .slice none 0 0, .string ⟨#[]⟩]) 56 hi hz0 hz1 hz2 rfl (by omega) rfl _ _ _ Tryz.underlying24 rfl rfl rfl ?_)
      intro a6 c6 w6 hM
      obtain ⟨g6, rfl, -⟩ := (hM.ow (.there .here)).head (by omega)
      have hM9 := Lib.hid (Mem.clkPush (y := (⟨x.un, x.sq, a', x.n, c2, x.cl, x.wd⟩ : NoteI)) (Mem.pick (is := [1, 2, 0]) hM (by decide) rfl))
      clear hM
      go_wp2
      go_roundw
      case rel => exact ⟨k + 1, g6, c6, ys ++ [⟨x.un, x.sq, a', x.n, c2, x.cl, x.wd⟩], by omega, by go_num, rfl, Lib.hid (by rw [HT.out]; unfold coreN at HY ⊢; rw [List.map_append, List.map_append, HY.out]; rfl), hM9.out⟩
      case measure => simp [intOf]; omega
    · obtain rfl : k = n := by omega
      have hyc : coreN ys = coreN xs := by rw [HY.out, List.take_of_length_le (by rw [HL.out]; exact Nat.le_refl _)]
      have HYC := Lib.hid hyc; clear hyc
      go_wp2
      go_ret
      exact ⟨g, c', ys, HYC.out, rfl, hM⟩
end Go.Proofs.YtjnbdgldpmmamaaGreat
