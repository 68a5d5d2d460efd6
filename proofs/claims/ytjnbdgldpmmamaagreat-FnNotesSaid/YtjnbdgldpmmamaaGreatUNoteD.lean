/-
  Notes in new memory: both sides.
-/
import Derived.Test.YtjnbdgldpmmamaaGreatUNoteC
import Derived.Test.YtjnbdgldpmmamaaGreatUMissR
/-
  Notes in new memory: both sides.
-/
namespace Go.Proofs.YtjnbdgldpmmamaaGreat
set_option linter.unusedSimpArgs false
set_option linter.unusedVariables false
open Go.RowKit

/-- notes that a call makes: the slice, and the clocks as one -/
abbrev clkE (ys : List NoteI) : Ent := packE (ys.map noteIn)
theorem Mem.notesClose {B : Nat} {w0 w : World} {G : List Ent} {a : Option Addr} {n c : Nat} {ys : List NoteI} (h : Mem B w0 w (owE FNote 40 a n c ys :: clkE ys :: G)) : Mem B w0 w (noteE a n c ys :: G) :=
  Mem.nstClose (Mem.unpackAt (X := [owE FNote 40 a n c ys]) h)
theorem Mem.clkNil {B : Nat} {w0 w : World} {G : List Ent} {e : Ent} (h : Mem B w0 w (e :: G)) : Mem B w0 w (e :: clkE [] :: G) := Mem.packAt (X := [e]) (G := []) h
theorem Mem.clkPush {B : Nat} {w0 w : World} {G : List Ent} {e : Ent} {ys : List NoteI} {y : NoteI} (h : Mem B w0 w (e :: clkE ys :: noteIn y :: G)) : Mem B w0 w (e :: clkE (ys ++ [y]) :: G) := by
  have h1 := Mem.unpackAt (X := [e]) h
  refine Mem.packAt (X := [e]) ?_
  rw [List.map_append, List.append_assoc]
  exact h1
theorem clk_rd {B : Nat} {w0 w : World} {G : List Ent} {a : Option Addr} {n c : Nat} {ys : List NoteI} (h : Mem B w0 w (owE FNote 40 a n c ys :: clkE ys :: G)) : RdN w a n c ys := (Mem.notesClose h).notes .here

set_option maxRecDepth 100000 in
set_option maxHeartbeats 8000000 in
theorem copied_any (a : Option Addr) (n c : Nat) (xs : List NoteI) (w : World) (h : RdN w a n c xs) (hn : n ≤ 19) :
    Calls Tryz.prog 43 #[.slice a n c] w fun e w' => ∃ g c' ys, coreN ys = isortG NoteC.zero ltN (coreN xs) ∧ e = .returned (.slice (some ⟨g, 0, none⟩) n c') ∧ Mem w.heap.size w w' [owE FNote 40 (some ⟨g, 0, none⟩) n c' ys, clkE ys] := by
  have hM := Mem.start w
  have hrm := h.rd.nroom
  have HL := Lib.hid h.rd.len
  obtain ⟨i0, hi, hz0, hz1, hz2⟩ := info_parts Tryz.info40
  go_enter Tryz.func43, Tryz.ntmps43
  go_upto_region 2 with fail
  apply Mem.atWpA
  · exact memA
  clear hM
  intro wst hM
  (try simp only [World.size_alloc, World.size_setCell, World.heap_drewN, heapDrew, Nat.add_assoc, Nat.reduceAdd, sA, List.cons_append, List.nil_append] at hM)
  replace hM := Mem.clkNil (Mem.toOwR (F := FNote) hM)
  go_wp2_with fail
  go_loopw [3, 9] (fun s3 s9 wr => ∃ (k g c' : Nat) (ys : List NoteI), k ≤ n ∧ s9 = .int .i64 k ∧ s3 = .slice (some ⟨g, 0, none⟩) k c' ∧ Hid (coreN ys = coreN (xs.take k)) ∧ Mem w.heap.size w wr [owE FNote 40 (some ⟨g, 0, none⟩) k c' ys, clkE ys]) (fun _ s9 _ => n - (intOf s9).toNat)
  case atStart => exact ⟨0, _, _, [], Nat.zero_le _, rfl, rfl, Lib.hid rfl, hM⟩
  case round =>
    clear hM
    obtain ⟨k, g, c', ys, hk, rfl, rfl, HY, hM⟩ := hrel
    by_cases hlt : k < n
    · obtain ⟨b, off, rfl, -, -⟩ := h.rd.at' _ hlt
      have hx := h.get hlt
      have hwf := h.rd.wf _ (getD_memO (d := NoteI.zero) (xs := xs) (k := k) (by rw [HL.out]; exact hlt))
      have htk : xs.take (k + 1) = xs.take k ++ [xs.getD k NoteI.zero] := take_succV (by rw [HL.out]; exact hlt)
      obtain ⟨x, hxx⟩ : ∃ x, xs.getD k NoteI.zero = x := ⟨_, rfl⟩
      rw [hxx] at hx hwf htk
      have hc := ((h.rd.ext hM.below).cellNote hlt).2
      rw [hxx] at hc
      obtain ⟨un, sq, ad, m, cc, cl, wo⟩ := x
      have HT := Lib.hid htk; have HX := Lib.hid hx; have HW := Lib.hid hwf
      clear htk hx hwf hxx
      have x0 := hc.1
      have x1 := hc.2.1
      have x2 := hc.2.2.1
      have x3 := hc.2.2.2
      clear hc
      dsimp only at x0 x1 x2 x3
      have i0' : (0 : Int) ≤ (k : Int) := by omega
      have i1 : (k : Int) < (n : Int) := by omega
      go_upto_region 5 with fail
      apply Mem.atWpA
      · exact memA
      clear hM
      intro wst hM
      (try simp only [World.size_alloc, World.size_setCell, World.heap_drewN, heapDrew, Nat.add_assoc, Nat.reduceAdd, sA, List.cons_append, List.nil_append] at hM)
      clear x0 x1 x2 x3
      replace hM := hM.pick (is := [1, 0, 2]) (by decide) rfl
      dsimp only [List.filterMap_cons, List.filterMap_nil, List.getElem?_cons_zero, List.getElem?_cons_succ] at hM
      refine AtT.startA hM.tail hM 13 (by kernel_rfl) ?_
      clear hM
      intro wd hM
      have hS := hM.tail
      refine AtT.tk 0 ?_ 13 ?_ hS ?_
      rotate_left
      · (intro wS hSw; (try dsimp only at hSw); go_simp; (try rw [if_neg (by omega)]); try with_reducible rfl)
      simp only [Act.put, sA]
      refine AtT.tk 1 ?_ 14 ?_ hS ?_
      rotate_left
      · (intro wS hSw; (try dsimp only at hSw); go_simp; (try rw [if_neg (by omega)]); try with_reducible rfl)
      simp only [Act.put, sA]
      refine AtT.tk 2 ?_ 15 ?_ hS ?_
      rotate_left
      · (intro wS hSw; (try dsimp only at hSw); have kr0 := (Mem.row hSw .here).cell; go_simp; (try rw [if_neg (by omega)]); try with_reducible rfl)
      simp only [Act.put, sA]
      refine AtT.tk 3 ?_ 16 ?_ hS ?_
      rotate_left
      · (intro wS hSw; (try dsimp only at hSw); go_simp; (try rw [if_neg (by omega)]); try with_reducible rfl)
      simp only [Act.put, sA]
      refine AtT.tk 4 ?_ 17 ?_ hS ?_
      rotate_left
      · (intro wS hSw; (try dsimp only at hSw); have kr0 := (Mem.row hSw .here).cell; go_simp; (try rw [if_neg (by omega)]); try with_reducible rfl)
      simp only [Act.put, sA]
      refine AtT.tk 5 ?_ 18 ?_ hS ?_
      rotate_left
      · (intro wS hSw; (try dsimp only at hSw); go_simp; (try rw [if_neg (by omega)]); try with_reducible rfl)
      simp only [Act.put, sA]
      refine AtT.tk 6 ?_ 19 ?_ hS ?_
      rotate_left
      · (intro wS hSw; (try dsimp only at hSw); have kr0 := (Mem.row hSw .here).cell; go_simp; (try rw [if_neg (by omega)]); try with_reducible rfl)
      simp only [Act.put, sA]
      refine AtT.tk 8 ?_ 21 ?_ hS ?_
      rotate_left
      · (intro wS hSw; (try dsimp only at hSw); go_simp; (try rw [if_neg (by omega)]); try with_reducible rfl)
      simp only [Act.put, sA]
      refine AtT.tk 9 ?_ 22 ?_ hS ?_
      rotate_left
      · (intro wS hSw; (try dsimp only at hSw); have kr0 := (Mem.row hSw .here).cell; go_simp; (try rw [if_neg (by omega)]); try with_reducible rfl)
      simp only [Act.put, sA]
      refine AtT.only (i := 7) (by kernel_rfl) rfl rfl ?_
      intro K hK
      go_simp
      refine (copyOf_any ad m cc cl _ (HX.out.ext hM.below)).mono ?_
      rintro e w3 ⟨a', c2, rfl, hO, hb⟩
      replace hM := hM.own hb hO
      clear hb hO
      try dsimp only
      refine hK.out _ _ (hM.tail.tail) ?_
      clear hK K hS
      have hS := hM.tail.tail
      refine AtT.tk 10 ?_ 23 ?_ hS ?_
      rotate_left
      · (intro wS hSw; (try dsimp only at hSw); go_simp; (try rw [if_neg (by omega)]); try with_reducible rfl)
      simp only [Act.put, sA]
      refine AtT.only (i := 11) (by kernel_rfl) rfl rfl ?_
      intro K hK
      go_simp
      refine hK.out _ _ (by apply Mem.tail; apply Mem.tail; apply Mem.tail; (exact memA)) ?_
      clear hK K hS
      have hMp := hM
      apply Mem.atT
      · exact memA
      clear hM
      intro hM
      (try simp only [World.size_alloc, World.size_setCell, World.heap_drewN, heapDrew, Nat.add_assoc, Nat.reduceAdd, sA, List.cons_append, List.nil_append] at hM)
      have hS := hM.tail.tail.tail
      refine AtT.only (i := 12) (by kernel_rfl) rfl rfl ?_
      intro K hK
      refine step_appRM (F := FNote) hM (fun _ => (.there (.there .here))) (hM.oneRec (⟨un, sq, a', m, c2, cl, wo⟩ : NoteI) .here rfl HW.out (by decide)) (by show (k + 1) * 4 ≤ _; omega) i0 (.agg #[.int .i64 0, .int .i64 0, .slice none 0 0, .string ⟨#[]⟩]) 56 hi hz0 hz1 hz2 rfl (by omega) rfl _ _ _ Tryz.underlying24 rfl rfl rfl ?_
      clear hM
      intro a6 c6 w6 hM
      obtain ⟨g6, rfl, -⟩ := (hM.ow (.there (.there .here))).head (by omega)
      try dsimp only
      refine hK.out _ _ (hM.tail.tail.tail) ?_
      clear hK K hS
      have hS := hM.tail.tail.tail
      refine AtT.last (by kernel_rfl) rfl (by kernel_rfl) ?_
      intro K hK
      clear hS
      go_simp
      refine hK.out _ _ ?_
      clear hK K
      have hM9 := Lib.hid (Mem.clkPush (y := (⟨un, sq, a', m, c2, cl, wo⟩ : NoteI)) (Mem.pick (is := [2, 4, 1]) hM (by decide) rfl))
      clear hM
      go_wp2
      go_roundw
      case rel => exact ⟨k + 1, g6, c6, ys ++ [⟨un, sq, a', m, c2, cl, wo⟩], by omega, by go_num, rfl, Lib.hid (by rw [HT.out]; unfold coreN at HY ⊢; rw [List.map_append, List.map_append, HY.out]; rfl), hM9.out⟩
      case measure => simp [intOf]; omega
    · obtain rfl : k = n := by omega
      have hyc : coreN ys = coreN xs := by rw [HY.out, List.take_of_length_le (by rw [HL.out]; exact Nat.le_refl _)]
      have HYC := Lib.hid hyc; clear hyc
      go_wp2_with fail
      refine (sortNote_any w.heap.size w [clkE ys] g k c' ys 33 _ ltNI _ hM hn (enters Tryz.func33 (by kernel_rfl) rfl) (compares_note _ _ _ _)).mono ?_
      rintro e w3 ⟨rfl, hm⟩
      have hM2 := Lib.hid (Mem.packAt (X := [owE FNote 40 (some ⟨g, 0, none⟩) k c' (isortG NoteI.zero ltNI ys)]) (G := (isortG NoteI.zero ltNI ys).map noteIn) (Y := []) (by
        have h1 := Mem.unpackAt (X := [owE FNote 40 (some ⟨g, 0, none⟩) k c' (isortG NoteI.zero ltNI ys)]) hm
        exact h1.perm (List.Perm.cons _ (List.Perm.append_right _ ((isortG_perm _ ys rfl).map noteIn).symm))))
      clear hm hM
      have HZ := Lib.hid (show coreN (isortG NoteI.zero ltNI ys) = isortG NoteC.zero ltN (coreN xs) by rw [isortG_core, HYC.out])
      generalize isortG NoteI.zero ltNI ys = zs at HZ hM2
      go_wp2
      go_ret
      exact ⟨g, c', zs, HZ.out, rfl, hM2.out⟩
end Go.Proofs.YtjnbdgldpmmamaaGreat
