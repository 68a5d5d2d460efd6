/-
  MergeBooks: the program's.
-/
import Derived.Test.YtjnbdgldpmmamaaGreatUSymN
import Derived.Test.YtjnbdgldpmmamaaGreatUMrgI
import Derived.Test.YtjnbdgldpmmamaaGreatUNoteY
/-
  MergeBooks: the program's.
-/
namespace Go.Proofs.YtjnbdgldpmmamaaGreat
set_option linter.unusedSimpArgs false
set_option linter.unusedVariables false
open Go.RowKit

set_option maxRecDepth 100000 in
set_option maxHeartbeats 8000000 in
theorem copiedW_any (a : Option Addr) (n c : Nat) (xs : List NoteI) (w : World) (h : RdN w a n c xs) (hn : 20 ≤ n ∧ n ≤ 24) :
    Calls Tryz.prog 43 #[.slice a n c] w fun e w' => ∃ g c' ys, (coreN ys).Perm (coreN xs) ∧ e = .returned (.slice (some ⟨g, 0, none⟩) n c') ∧ Mem w.heap.size w w' [owE FNote 40 (some ⟨g, 0, none⟩) n c' ys, clkE ys] := by
  have hM := Mem.start w
  obtain ⟨hn0, hn1⟩ := hn
  have hrm := h.rd.nroom
  have HL := Lib.hid h.rd.len
  obtain ⟨i0, hi, hz0, hz1, hz2⟩ := info_parts Tryz.info40
  go_enter Tryz.func43, Tryz.ntmps43
  go_upto_region 2 with fail
  apply Mem.atWpA
  · exact memA
  clear hM
  intro wst hM
  (try simp only [World.size_alloc, World.size_setCell, World.heap_drewN, heapDrew, Nat.add_assoc, Nat.reduceAdd, sA, List.cons_append, List.nil_append] at hM)
  replace hM := Mem.clkNil (Mem.toOwR (F := FNote) hM)
  go_wp2_with fail
  go_loopw [3, 9] (fun s3 s9 wr => ∃ (k g c' : Nat) (ys : List NoteI), k ≤ n ∧ s9 = .int .i64 k ∧ s3 = .slice (some ⟨g, 0, none⟩) k c' ∧ Hid (coreN ys = coreN (xs.take k)) ∧ Mem w.heap.size w wr [owE FNote 40 (some ⟨g, 0, none⟩) k c' ys, clkE ys]) (fun _ s9 _ => n - (intOf s9).toNat)
  case atStart => exact ⟨0, _, _, [], Nat.zero_le _, rfl, rfl, Lib.hid rfl, hM⟩
  case round =>
    clear hM
    obtain ⟨k, g, c', ys, hk, rfl, rfl, HY, hM⟩ := hrel
    by_cases hlt : k < n
    · obtain ⟨b, off, rfl, -, -⟩ := h.rd.at' _ hlt
      have hx := h.get hlt
      have hwf := h.rd.wf _ (getD_memO (d := NoteI.zero) (xs := xs) (k := k) (by rw [HL.out]; exact hlt))
      have htk : xs.take (k + 1) = xs.take k ++ [xs.getD k NoteI.zero] := take_succV (by rw [HL.out]; exact hlt)
      obtain ⟨x, hxx⟩ : ∃ x, xs.getD k NoteI.zero = x := ⟨_, rfl⟩
      rw [hxx] at hx hwf htk
      have hc := ((h.rd.ext hM.below).cellNote hlt).2
      rw [hxx] at hc
      obtain ⟨un, sq, ad, m, cc, cl, wo⟩ := x
      have HT := Lib.hid htk; have HX := Lib.hid hx; have HW := Lib.hid hwf
      clear htk hx hwf hxx
      have x0 := hc.1
      have x1 := hc.2.1
      have x2 := hc.2.2.1
      have x3 := hc.2.2.2
      clear hc
      dsimp only at x0 x1 x2 x3
      have i0' : (0 : Int) ≤ (k : Int) := by omega
      have i1 : (k : Int) < (n : Int) := by omega
      go_upto_region 5 with fail
      apply Mem.atWpA
      · exact memA
      clear hM
      intro wst hM
      (try simp only [World.size_alloc, World.size_setCell, World.heap_drewN, heapDrew, Nat.add_assoc, Nat.reduceAdd, sA, List.cons_append, List.nil_append] at hM)
      clear x0 x1 x2 x3
      replace hM := hM.pick (is := [1, 0, 2]) (by decide) rfl
      dsimp only [List.filterMap_cons, List.filterMap_nil, List.getElem?_cons_zero, List.getElem?_cons_succ] at hM
      refine AtT.startA hM.tail hM 13 (by kernel_rfl) ?_
      clear hM
      intro wd hM
      have hS := hM.tail
      refine AtT.tk 0 ?_ 13 ?_ hS ?_
      rotate_left
      · (intro wS hSw; (try dsimp only at hSw); go_simp; (try rw [if_neg (by omega)]); try with_reducible rfl)
      simp only [Act.put, sA]
      refine AtT.tk 1 ?_ 14 ?_ hS ?_
      rotate_left
      · (intro wS hSw; (try dsimp only at hSw); go_simp; (try rw [if_neg (by omega)]); try with_reducible rfl)
      simp only [Act.put, sA]
      refine AtT.tk 2 ?_ 15 ?_ hS ?_
      rotate_left
      · (intro wS hSw; (try dsimp only at hSw); have kr0 := (Mem.row hSw .here).cell; go_simp; (try rw [if_neg (by omega)]); try with_reducible rfl)
      simp only [Act.put, sA]
      refine AtT.tk 3 ?_ 16 ?_ hS ?_
      rotate_left
      · (intro wS hSw; (try dsimp only at hSw); go_simp; (try rw [if_neg (by omega)]); try with_reducible rfl)
      simp only [Act.put, sA]
      refine AtT.tk 4 ?_ 17 ?_ hS ?_
      rotate_left
      · (intro wS hSw; (try dsimp only at hSw); have kr0 := (Mem.row hSw .here).cell; go_simp; (try rw [if_neg (by omega)]); try with_reducible rfl)
      simp only [Act.put, sA]
      refine AtT.tk 5 ?_ 18 ?_ hS ?_
      rotate_left
      · (intro wS hSw; (try dsimp only at hSw); go_simp; (try rw [if_neg (by omega)]); try with_reducible rfl)
      simp only [Act.put, sA]
      refine AtT.tk 6 ?_ 19 ?_ hS ?_
      rotate_left
      · (intro wS hSw; (try dsimp only at hSw); have kr0 := (Mem.row hSw .here).cell; go_simp; (try rw [if_neg (by omega)]); try with_reducible rfl)
      simp only [Act.put, sA]
      refine AtT.tk 8 ?_ 21 ?_ hS ?_
      rotate_left
      · (intro wS hSw; (try dsimp only at hSw); go_simp; (try rw [if_neg (by omega)]); try with_reducible rfl)
      simp only [Act.put, sA]
      refine AtT.tk 9 ?_ 22 ?_ hS ?_
      rotate_left
      · (intro wS hSw; (try dsimp only at hSw); have kr0 := (Mem.row hSw .here).cell; go_simp; (try rw [if_neg (by omega)]); try with_reducible rfl)
      simp only [Act.put, sA]
      refine AtT.only (i := 7) (by kernel_rfl) rfl rfl ?_
      intro K hK
      go_simp
      refine (copyOf_any ad m cc cl _ (HX.out.ext hM.below)).mono ?_
      rintro e w3 ⟨a', c2, rfl, hO, hb⟩
      replace hM := hM.own hb hO
      clear hb hO
      try dsimp only
      refine hK.out _ _ (hM.tail.tail) ?_
      clear hK K hS
      have hS := hM.tail.tail
      refine AtT.tk 10 ?_ 23 ?_ hS ?_
      rotate_left
      · (intro wS hSw; (try dsimp only at hSw); go_simp; (try rw [if_neg (by omega)]); try with_reducible rfl)
      simp only [Act.put, sA]
      refine AtT.only (i := 11) (by kernel_rfl) rfl rfl ?_
      intro K hK
      go_simp
      refine hK.out _ _ (by apply Mem.tail; apply Mem.tail; apply Mem.tail; (exact memA)) ?_
      clear hK K hS
      have hMp := hM
      apply Mem.atT
      · exact memA
      clear hM
      intro hM
      (try simp only [World.size_alloc, World.size_setCell, World.heap_drewN, heapDrew, Nat.add_assoc, Nat.reduceAdd, sA, List.cons_append, List.nil_append] at hM)
      have hS := hM.tail.tail.tail
      refine AtT.only (i := 12) (by kernel_rfl) rfl rfl ?_
      intro K hK
      refine step_appRM (F := FNote) hM (fun _ => (.there (.there .here))) (hM.oneRec (⟨un, sq, a', m, c2, cl, wo⟩ : NoteI) .here rfl HW.out (by decide)) (by show (k + 1) * 4 ≤ _; omega) i0 (.agg #[.int .i64 0, .int .i64 0, .slice none 0 0, .string ⟨#[]⟩]) 56 hi hz0 hz1 hz2 rfl (by omega) rfl _ _ _ Tryz.underlying24 rfl rfl rfl ?_
      clear hM
      intro a6 c6 w6 hM
      obtain ⟨g6, rfl, -⟩ := (hM.ow (.there (.there .here))).head (by omega)
      try dsimp only
      refine hK.out _ _ (hM.tail.tail.tail) ?_
      clear hK K hS
      have hS := hM.tail.tail.tail
      refine AtT.last (by kernel_rfl) rfl (by kernel_rfl) ?_
      intro K hK
      clear hS
      go_simp
      refine hK.out _ _ ?_
      clear hK K
      have hM9 := Lib.hid (Mem.clkPush (y := (⟨un, sq, a', m, c2, cl, wo⟩ : NoteI)) (Mem.pick (is := [2, 4, 1]) hM (by decide) rfl))
      clear hM
      go_wp2
      go_roundw
      case rel => exact ⟨k + 1, g6, c6, ys ++ [⟨un, sq, a', m, c2, cl, wo⟩], by omega, by go_num, rfl, Lib.hid (by rw [HT.out]; unfold coreN at HY ⊢; rw [List.map_append, List.map_append, HY.out]; rfl), hM9.out⟩
      case measure => simp [intOf]; omega
    · obtain rfl : k = n := by omega
      have hyc : coreN ys = coreN xs := by rw [HY.out, List.take_of_length_le (by rw [HL.out]; exact Nat.le_refl _)]
      have HYC := Lib.hid hyc; clear hyc
      go_wp2_with fail
      refine (sortW_any w.heap.size w [clkE ys] g k c' ys 33 _ ltNI _ hM ⟨hn0, hn1⟩ (enters Tryz.func33 (by kernel_rfl) rfl) (compares_note _ _ _ _)).mono ?_
      rintro e w3 ⟨rfl, zs, hpz, hm⟩
      have hM2 := Lib.hid (Mem.packAt (X := [owE FNote 40 (some ⟨g, 0, none⟩) k c' zs]) (G := zs.map noteIn) (Y := []) (by
        have h1 := Mem.unpackAt (X := [owE FNote 40 (some ⟨g, 0, none⟩) k c' zs]) hm
        exact h1.perm (List.Perm.cons _ (List.Perm.append_right _ (hpz.map noteIn).symm))))
      have HZ := Lib.hid (show (coreN zs).Perm (coreN xs) by rw [← HYC.out]; exact hpz.map NoteI.core)
      clear hm hM hpz
      go_wp2
      go_ret
      exact ⟨g, c', zs, HZ.out, rfl, hM2.out⟩

theorem news_len {a b : List NoteC} (k : Nat) (hk : k ≤ b.length) (ha : a.length ≤ 12) (hb : b.length ≤ 12) : (a ++ newsTo a b k).length ≤ 24 := by
  have := newsTo_len a b k
  rw [List.length_append]
  omega
theorem ok_parts2 {a : List NoteC} {x : NoteC} (h : hasN a x = true) : okAt a x = (decide ((a.getD (plN a x) NoteC.zero).wd = x.wd) && decide ((a.getD (plN a x) NoteC.zero).cl = x.cl)) := by
  obtain ⟨-, h2, -⟩ := has_pl h
  obtain ⟨h3, h4⟩ := sameK_true.1 h2
  unfold okAt
  rw [h, Bool.not_true, Bool.false_or, ← Bool.decide_and, decide_eq_decide]
  generalize a.getD (plN a x) NoteC.zero = y at *
  obtain ⟨y1, y2, y3, y4⟩ := y
  obtain ⟨x1, x2, x3, x4⟩ := x
  dsimp only at h3 h4
  subst h3 h4
  simp only [NoteC.mk.injEq, true_and]
  exact And.comm
set_option maxRecDepth 100000 in
set_option maxHeartbeats 16000000 in
theorem implMerge_any (u : Int) (a1 : Option Addr) (n1 c1 : Nat) (xs : List NoteI) (a2 : Option Addr) (n2 c2 : Nat) (zs : List NoteI) (w : World) (hu : I64 u) (h1 : RdN w a1 n1 c1 xs) (h2 : RdN w a2 n2 c2 zs) :
    Calls Tryz.prog 18 #[.int .i64 u, .slice a1 n1 c1, .slice a2 n2 c2] w fun e w' => ∃ a' c' ys, coreN ys = mergeR u (coreN xs) (coreN zs) ∧ e = .returned (.tuple #[.slice a' (mergeR u (coreN xs) (coreN zs)).length c', .bool (mergeB u (coreN xs) (coreN zs))]) ∧ Mem w.heap.size w w' [noteE a' (mergeR u (coreN xs) (coreN zs)).length c' ys] := by
  have hM := Mem.start w
  have HUI := Lib.hid hu
  have H1 := Lib.hid h1; have H2 := Lib.hid h2
  clear hu h1 h2
  cases hb1 : bookB u (coreN xs)
  · have e1 : mergeB u (coreN xs) (coreN zs) = false := by rw [mergeB, hb1]; rfl
    have e2 : mergeR u (coreN xs) (coreN zs) = [] := by rw [mergeR, e1]; rfl
    rw [e1, e2]
    have HB := Lib.hid hb1; clear hb1 e1 e2
    go_enter Tryz.func18, Tryz.ntmps18
    go_wp2_with fail
    apply Mem.atA
    · exact memA
    clear hM
    intro wst hM
    (try simp only [World.size_alloc, World.size_setCell, World.heap_drewN, heapDrew, Nat.add_assoc, Nat.reduceAdd, sA, List.cons_append, List.nil_append] at hM)
    (first | refine (isNotebook_any u a1 n1 c1 xs _ HUI.out (H1.out.ext hM.below)).mono ?_)
    rw [HB.out]
    rintro e wc1 ⟨rfl, hb⟩
    replace hM := hM.ext hb
    clear hb
    go_wp2
    go_ret2
    exact ⟨none, 0, [], rfl, rfl, by apply Mem.nilNst; first | ((repeat' (first | with_reducible exact hM | with_reducible exact hMp | with_reducible apply Mem.drew | with_reducible apply Mem.drewN | with_reducible apply Mem.alloc | with_reducible apply Mem.set | with_reducible exact Sto.row | ((with_reducible refine Sto.rowEq2 ?_ ?_); omega; rfl) | ((with_reducible refine Sto.rowEq ?_); omega) | with_reducible apply Sto.int | with_reducible apply Sto.there | with_reducible assumption | (unfold I64; omega) | (with_reducible (have hMx := Mem.undrew hM; exact hMx)) | (with_reducible (have hMx := Mem.undrew hMp; exact hMx)))); done) | exact hM.sub (by simp)⟩
  cases hb2 : bookB u (coreN zs)
  · have e1 : mergeB u (coreN xs) (coreN zs) = false := by rw [mergeB, hb1, hb2]; rfl
    have e2 : mergeR u (coreN xs) (coreN zs) = [] := by rw [mergeR, e1]; rfl
    rw [e1, e2]
    have HB := Lib.hid hb1; have HB2 := Lib.hid hb2; clear hb1 hb2 e1 e2
    go_enter Tryz.func18, Tryz.ntmps18
    go_wp2_with fail
    apply Mem.atA
    · exact memA
    clear hM
    intro wst hM
    (try simp only [World.size_alloc, World.size_setCell, World.heap_drewN, heapDrew, Nat.add_assoc, Nat.reduceAdd, sA, List.cons_append, List.nil_append] at hM)
    (first | refine (isNotebook_any u a1 n1 c1 xs _ HUI.out (H1.out.ext hM.below)).mono ?_)
    rw [HB.out]
    rintro e wc2 ⟨rfl, hb⟩
    replace hM := hM.ext hb
    clear hb
    go_wp2_with fail
    apply Mem.atA
    · exact memA
    clear hM
    intro wst hM
    (try simp only [World.size_alloc, World.size_setCell, World.heap_drewN, heapDrew, Nat.add_assoc, Nat.reduceAdd, sA, List.cons_append, List.nil_append] at hM)
    (first | refine (isNotebook_any u a2 n2 c2 zs _ HUI.out (H2.out.ext hM.below)).mono ?_)
    rw [HB2.out]
    rintro e wc3 ⟨rfl, hb⟩
    replace hM := hM.ext hb
    clear hb
    go_wp2
    go_ret2
    exact ⟨none, 0, [], rfl, rfl, by apply Mem.nilNst; first | ((repeat' (first | with_reducible exact hM | with_reducible exact hMp | with_reducible apply Mem.drew | with_reducible apply Mem.drewN | with_reducible apply Mem.alloc | with_reducible apply Mem.set | with_reducible exact Sto.row | ((with_reducible refine Sto.rowEq2 ?_ ?_); omega; rfl) | ((with_reducible refine Sto.rowEq ?_); omega) | with_reducible apply Sto.int | with_reducible apply Sto.there | with_reducible assumption | (unfold I64; omega) | (with_reducible (have hMx := Mem.undrew hM; exact hMx)) | (with_reducible (have hMx := Mem.undrew hMp; exact hMx)))); done) | exact hM.sub (by simp)⟩
  have hn1 : n1 ≤ 12 := by have := book_len hb1; rw [coreN_len, H1.out.rd.len] at this; exact this
  have hn2 : n2 ≤ 12 := by have := book_len hb2; rw [coreN_len, H2.out.rd.len] at this; exact this
  have HL1 := Lib.hid (show (coreN xs).length = n1 by rw [coreN_len, H1.out.rd.len])
  have HL2 := Lib.hid (show (coreN zs).length = n2 by rw [coreN_len, H2.out.rd.len])
  have HNL := Lib.hid (fun k (hk : k ≤ (coreN zs).length) => news_len (a := coreN xs) (b := coreN zs) k hk (book_len hb1) (book_len hb2))
  have HB := Lib.hid hb1; have HB2 := Lib.hid hb2
  have hbad : cleanTo (coreN xs) (coreN zs) (coreN zs).length = false → mergeB u (coreN xs) (coreN zs) = false ∧ mergeR u (coreN xs) (coreN zs) = [] := fun hc => by
    have e1 : mergeB u (coreN xs) (coreN zs) = false := by rw [mergeB, HB.out, HB2.out, hc]; rfl
    exact ⟨e1, by rw [mergeR, e1]; rfl⟩
  have hgood : cleanTo (coreN xs) (coreN zs) (coreN zs).length = true → mergeB u (coreN xs) (coreN zs) = bookB u (mergeL (coreN xs) (coreN zs)) ∧ mergeR u (coreN xs) (coreN zs) = if bookB u (mergeL (coreN xs) (coreN zs)) then mergeL (coreN xs) (coreN zs) else [] := fun hc => by
    have e1 : mergeB u (coreN xs) (coreN zs) = bookB u (mergeL (coreN xs) (coreN zs)) := by rw [mergeB, HB.out, HB2.out, hc]; rfl
    exact ⟨e1, by rw [mergeR, e1]⟩
  obtain ⟨bv, hbv⟩ : ∃ b, mergeB u (coreN xs) (coreN zs) = b := ⟨_, rfl⟩
  obtain ⟨rv, hrv⟩ : ∃ b, mergeR u (coreN xs) (coreN zs) = b := ⟨_, rfl⟩
  rw [hbv, hrv] at hbad hgood ⊢
  have HBAD := Lib.hid hbad; have HGOOD := Lib.hid hgood
  clear hbad hgood hbv hrv hb1 hb2
  obtain ⟨i0, hi, hz0, hz1, hz2⟩ := info_parts Tryz.info40
  go_enter Tryz.func18, Tryz.ntmps18
  go_wp2_with fail
  apply Mem.atA
  · exact memA
  clear hM
  intro wst hM
  (try simp only [World.size_alloc, World.size_setCell, World.heap_drewN, heapDrew, Nat.add_assoc, Nat.reduceAdd, sA, List.cons_append, List.nil_append] at hM)
  (first | refine (isNotebook_any u a1 n1 c1 xs _ HUI.out (H1.out.ext hM.below)).mono ?_)
  rw [HB.out]
  rintro e wc4 ⟨rfl, hb⟩
  replace hM := hM.ext hb
  clear hb
  go_wp2_with fail
  apply Mem.atA
  · exact memA
  clear hM
  intro wst hM
  (try simp only [World.size_alloc, World.size_setCell, World.heap_drewN, heapDrew, Nat.add_assoc, Nat.reduceAdd, sA, List.cons_append, List.nil_append] at hM)
  (first | refine (isNotebook_any u a2 n2 c2 zs _ HUI.out (H2.out.ext hM.below)).mono ?_)
  rw [HB2.out]
  rintro e wc5 ⟨rfl, hb⟩
  replace hM := hM.ext hb
  clear hb
  go_wp2_with fail
  apply Mem.atA
  · exact memA
  clear hM
  intro wst hM
  (try simp only [World.size_alloc, World.size_setCell, World.heap_drewN, heapDrew, Nat.add_assoc, Nat.reduceAdd, sA, List.cons_append, List.nil_append] at hM)
  (first | refine (copyNote_any a1 n1 c1 xs _ (H1.out.rd.ext hM.below) (by omega)).mono ?_)
  rintro e w3 ⟨a0, c0, rfl, hm⟩
  replace hM := hM.join hm
  clear hm
  (try simp only [World.size_alloc, World.size_setCell, World.heap_drewN, heapDrew, Nat.add_assoc, Nat.reduceAdd, sA, List.cons_append, List.nil_append] at hM)
  go_wp2_with fail
  go_loopw [8, 27] (fun s8 s27 wr => ∃ (k m c' : Nat) (a' : Option Addr) (ys : List NoteI), k ≤ n2 ∧ s27 = .int .i64 k ∧ s8 = .slice a' m c' ∧ Hid (coreN ys = coreN xs ++ newsTo (coreN xs) (coreN zs) k) ∧ Hid (∀ y ∈ ys, Ints w y.ad y.n y.c y.cl) ∧ Hid (cleanTo (coreN xs) (coreN zs) k = true) ∧ Mem w.heap.size w wr [owE FNote 40 a' m c' ys]) (fun _ s27 _ => n2 - (intOf s27).toNat)
  case atStart => exact ⟨0, n1, c0, a0, xs, Nat.zero_le _, rfl, rfl, Lib.hid (by rw [newsTo, List.append_nil]), Lib.hid H1.out.cl, Lib.hid rfl, by (exact memA)⟩
  case round =>
    clear hM
    obtain ⟨k, m, c', a', ys, hk, rfl, rfl, HCY, HIY, HCL, hM⟩ := hrel
    have hml : ys.length = m := (hM.ow .here).rd.len
    have hm24 : m ≤ 24 := by rw [← hml, ← coreN_len, HCY.out]; exact HNL.out k (by rw [HL2.out]; exact hk)
    have HYL := Lib.hid hml; clear hml
    by_cases hlt : k < n2
    · have hcs := cleanTo_succ (coreN xs) (coreN zs) k
      have hcb := clean_bad (a := coreN xs) (b := coreN zs) (k := k) (by rw [HL2.out]; exact hlt)
      have hnw : newsTo (coreN xs) (coreN zs) (k + 1) = if hasN (coreN xs) ((coreN zs).getD k NoteC.zero) then newsTo (coreN xs) (coreN zs) k else newsTo (coreN xs) (coreN zs) k ++ [(coreN zs).getD k NoteC.zero] := rfl
      rw [HCL.out, Bool.true_and] at hcs
      have hxg := coreN_getD zs k
      have hxw := H2.out.rd.wf (zs.getD k NoteI.zero) (by rw [List.getD_eq_getElem?_getD, List.getElem?_eq_getElem (by rw [H2.out.rd.len]; exact hlt)]; exact List.getElem_mem _)
      have hxi := H2.out.get hlt
      rw [hxg] at hcs hcb hnw
      obtain ⟨b2, o2, rfl, -, -⟩ := H2.out.rd.at' _ hlt
      have hc4 := ((H2.out.rd.ext hM.below).cellNote hlt).2
      obtain ⟨x, hx⟩ : ∃ x, zs.getD k NoteI.zero = x := ⟨_, rfl⟩
      rw [hx] at hcs hcb hxw hxi hnw hc4
      obtain ⟨xu, xq, xa, xn, xc, xl, xw⟩ := x
      have hcore : NoteI.core ⟨xu, xq, xa, xn, xc, xl, xw⟩ = ⟨xu, xq, xl, xw⟩ := rfl
      rw [hcore] at hcs hcb hnw
      clear hx hxg hcore
      have HXW := Lib.hid hxw; have HXI := Lib.hid hxi
      have HCS := Lib.hid hcs; have HCB := Lib.hid hcb; have HNW := Lib.hid hnw
      clear hxw hxi hcs hcb hnw
      have i0' : (0 : Int) ≤ (k : Int) := by omega
      have i1 : (k : Int) < (n2 : Int) := by omega
      obtain ⟨x0, x1, x2, x3⟩ := hc4
      dsimp only at x0 x1 x2 x3
      cases hh : hasN (coreN xs) ⟨xu, xq, xl, xw⟩
      · have HF := Lib.hid (show fndN (coreN xs) ⟨xu, xq, xl, xw⟩ = -1 by rw [fndN, hh]; rfl)
        have HOK := Lib.hid (show okAt (coreN xs) ⟨xu, xq, xl, xw⟩ = true by rw [okAt, hh]; rfl)
        rw [hh] at HNW
        clear hh
        go_upto_region 7 with fail
        apply Mem.atWpA
        · exact memA
        clear hM
        intro wst hM
        (try simp only [World.size_alloc, World.size_setCell, World.heap_drewN, heapDrew, Nat.add_assoc, Nat.reduceAdd, sA, List.cons_append, List.nil_append] at hM)
        clear x0 x1 x2 x3
        obtain ⟨k0, f0, l0⟩ := hM.row .here
        go_wp2_with fail
        clear k0 f0 l0
        apply Mem.atA
        · exact memA
        clear hM
        intro wst hM
        (try simp only [World.size_alloc, World.size_setCell, World.heap_drewN, heapDrew, Nat.add_assoc, Nat.reduceAdd, sA, List.cons_append, List.nil_append] at hM)
        (first | refine (find_any a1 n1 c1 xs ⟨xu, xq, xl, xw⟩ _ (H1.out.ext hM.below)).mono ?_)
        rw [HF.out]
        rintro e wc7 ⟨rfl, hb⟩
        replace hM := hM.ext hb
        clear hb
        obtain ⟨k0, f0, l0⟩ := hM.row .here
        go_wp2_with (at_builtin; apply Mem.atL; (focus ((repeat' (first | with_reducible exact hM | with_reducible exact hMp | with_reducible apply Mem.drew | with_reducible apply Mem.drewN | with_reducible apply Mem.alloc | with_reducible apply Mem.set | with_reducible exact Sto.row | ((with_reducible refine Sto.rowEq2 ?_ ?_); omega; rfl) | ((with_reducible refine Sto.rowEq ?_); omega) | with_reducible apply Sto.int | with_reducible apply Sto.there | with_reducible assumption | (unfold I64; omega) | (with_reducible (have hMx := Mem.undrew hM; exact hMx)) | (with_reducible (have hMx := Mem.undrew hMp; exact hMx)))); done)); clear hM; intro hM; refine wpList_pushR (F := FNote) (⟨xu, xq, xa, xn, xc, xl, xw⟩ : NoteI) hM (fun _ => .there .here) rfl HXW.out (by decide) (by show (m + 1) * 4 ≤ _; omega) i0 (.agg #[.int .i64 0, .int .i64 0, .slice none 0 0, .string ⟨#[]⟩]) 56 hi hz0 hz1 hz2 rfl (by omega) rfl _ _ _ Tryz.underlying24 rfl rfl rfl ?_)
        intro a6 c6 w6 hM
        have HY7 := Lib.hid (show coreN (ys ++ [(⟨xu, xq, xa, xn, xc, xl, xw⟩ : NoteI)]) = coreN xs ++ newsTo (coreN xs) (coreN zs) (k + 1) by
          rw [HNW.out]; (first | rw [if_neg (by simp)] | skip); rw [← List.append_assoc, ← HCY.out]; unfold coreN; rw [List.map_append]; rfl)
        have HI7 := Lib.hid (show ∀ y ∈ ys ++ [(⟨xu, xq, xa, xn, xc, xl, xw⟩ : NoteI)], Ints w y.ad y.n y.c y.cl by
          intro y hy
          rcases List.mem_append.1 hy with hy | hy
          · exact HIY.out y hy
          · rw [List.mem_singleton] at hy
            subst hy
            exact HXI.out)
        have HC7 := Lib.hid (HCS.out.trans HOK.out)
        go_wp2
        go_roundw
        case rel => exact ⟨k + 1, m + 1, c6, a6, _, by omega, by go_num, rfl, HY7, HI7, HC7, by apply Mem.pick (is := [1]) hM (by decide) rfl⟩
        case measure => simp [intOf]; omega
      · obtain ⟨p1, p2, -⟩ := has_pl hh
        have hokq := ok_parts2 hh
        have HF0 := Lib.hid (show fndN (coreN xs) ⟨xu, xq, xl, xw⟩ = ((plN (coreN xs) ⟨xu, xq, xl, xw⟩ : Nat) : Int) by rw [fndN, hh]; rfl)
        rw [hh] at HNW
        obtain ⟨p, hp⟩ : ∃ p, plN (coreN xs) ⟨xu, xq, xl, xw⟩ = p := ⟨_, rfl⟩
        rw [hp] at p1 p2 hokq HF0
        rw [HL1.out] at p1
        have hyg := coreN_getD xs p
        rw [hyg] at hokq
        have HF := HF0
        clear hh hp p2 hyg HF0
        have hyi := H1.out.get p1
        obtain ⟨b1, o1, rfl, -, -⟩ := H1.out.rd.at' _ p1
        have HC1 := Lib.hid (fun (w' : World) (hb : Below w.heap.size w w') => ((H1.out.rd.ext hb).cellNote p1).2)
        obtain ⟨y, hy⟩ : ∃ y, xs.getD p NoteI.zero = y := ⟨_, rfl⟩
        simp only [hy] at HC1
        rw [hy] at hokq hyi
        obtain ⟨yu, yq, ya, yn, yc, yl, yw⟩ := y
        have hokq2 : okAt (coreN xs) ⟨xu, xq, xl, xw⟩ = (decide (yw = xw) && decide (yl = xl)) := hokq
        have HYI := Lib.hid hyi
        clear hy hokq hyi
        have p0 : (0 : Int) ≤ (p : Int) := by omega
        have p1' : (p : Int) < (n1 : Int) := by omega
        have hpn : ¬ ((p : Int) < 0) := by omega
        go_upto_region 7 with fail
        apply Mem.atWpA
        · exact memA
        clear hM
        intro wst hM
        (try simp only [World.size_alloc, World.size_setCell, World.heap_drewN, heapDrew, Nat.add_assoc, Nat.reduceAdd, sA, List.cons_append, List.nil_append] at hM)
        clear x0 x1 x2 x3
        obtain ⟨k0, f0, l0⟩ := hM.row .here
        go_wp2_with fail
        clear k0 f0 l0
        apply Mem.atA
        · exact memA
        clear hM
        intro wst hM
        (try simp only [World.size_alloc, World.size_setCell, World.heap_drewN, heapDrew, Nat.add_assoc, Nat.reduceAdd, sA, List.cons_append, List.nil_append] at hM)
        (first | refine (find_any (some ⟨b1, o1, none⟩) n1 c1 xs ⟨xu, xq, xl, xw⟩ _ (H1.out.ext hM.below)).mono ?_)
        rw [HF.out]
        rintro e wc8 ⟨rfl, hb⟩
        replace hM := hM.ext hb
        clear hb
        by_cases hwd : yw = xw
        · have e5 : (yw != xw) = false := by simpa using hwd
          rw [decide_eq_true hwd, Bool.true_and] at hokq2
          subst hwd
          have HOK := Lib.hid hokq2
          clear hokq2
          obtain ⟨q, hq⟩ : ∃ q, decide (yl = xl) = q := ⟨_, rfl⟩
          rw [hq] at HOK
          have HQ := Lib.hid hq; clear hq
          go_upto_region 10 with fail
          apply Mem.atWpA
          · exact memA
          clear hM
          intro wst hM
          (try simp only [World.size_alloc, World.size_setCell, World.heap_drewN, heapDrew, Nat.add_assoc, Nat.reduceAdd, sA, List.cons_append, List.nil_append] at hM)
          refine AtT.startA hM hM 19 (by kernel_rfl) ?_
          clear hM
          intro wd hM
          have hS := hM
          refine AtT.tk 0 ?_ 45 ?_ hS ?_
          rotate_left
          · (intro wS hSw; (try dsimp only at hSw); go_simp; (try rw [if_neg (by omega)]); try with_reducible rfl)
          simp only [Act.put, sA]
          refine AtT.tk 1 ?_ 46 ?_ hS ?_
          rotate_left
          · (intro wS hSw; (try dsimp only at hSw); go_simp; (try rw [if_neg (by omega)]); try with_reducible rfl)
          simp only [Act.put, sA]
          refine AtT.tk 2 ?_ 47 ?_ hS ?_
          rotate_left
          · (intro wS hSw; (try dsimp only at hSw); have kr0 := (Mem.row hSw .here).cell; obtain ⟨z0, z1, z2, z3⟩ := HC1.out _ hSw.below; go_simp; (try rw [if_neg (by omega)]); try with_reducible rfl)
          simp only [Act.put, sA]
          refine AtT.tk 3 ?_ 48 ?_ hS ?_
          rotate_left
          · (intro wS hSw; (try dsimp only at hSw); go_simp; (try rw [if_neg (by omega)]); try with_reducible rfl)
          simp only [Act.put, sA]
          refine AtT.tk 4 ?_ 49 ?_ hS ?_
          rotate_left
          · (intro wS hSw; (try dsimp only at hSw); have kr0 := (Mem.row hSw .here).cell; obtain ⟨z0, z1, z2, z3⟩ := HC1.out _ hSw.below; go_simp; (try rw [if_neg (by omega)]); try with_reducible rfl)
          simp only [Act.put, sA]
          refine AtT.tk 5 ?_ 50 ?_ hS ?_
          rotate_left
          · (intro wS hSw; (try dsimp only at hSw); go_simp; (try rw [if_neg (by omega)]); try with_reducible rfl)
          simp only [Act.put, sA]
          refine AtT.tk 6 ?_ 51 ?_ hS ?_
          rotate_left
          · (intro wS hSw; (try dsimp only at hSw); have kr0 := (Mem.row hSw .here).cell; obtain ⟨z0, z1, z2, z3⟩ := HC1.out _ hSw.below; go_simp; (try rw [if_neg (by omega)]); try with_reducible rfl)
          simp only [Act.put, sA]
          refine AtT.tk 7 ?_ 52 ?_ hS ?_
          rotate_left
          · (intro wS hSw; (try dsimp only at hSw); go_simp; (try rw [if_neg (by omega)]); try with_reducible rfl)
          simp only [Act.put, sA]
          refine AtT.tk 8 ?_ 53 ?_ hS ?_
          rotate_left
          · (intro wS hSw; (try dsimp only at hSw); go_simp; (try rw [if_neg (by omega)]); try with_reducible rfl)
          simp only [Act.put, sA]
          refine AtT.tk 9 ?_ 54 ?_ hS ?_
          rotate_left
          · (intro wS hSw; (try dsimp only at hSw); go_simp; (try rw [if_neg (by omega)]); try with_reducible rfl)
          simp only [Act.put, sA]
          refine AtT.tk 10 ?_ 55 ?_ hS ?_
          rotate_left
          · (intro wS hSw; (try dsimp only at hSw); go_simp; (try rw [if_neg (by omega)]); try with_reducible rfl)
          simp only [Act.put, sA]
          refine AtT.tk 11 ?_ 56 ?_ hS ?_
          rotate_left
          · (intro wS hSw; (try dsimp only at hSw); have kr0 := (Mem.row hSw .here).cell; obtain ⟨z0, z1, z2, z3⟩ := HC1.out _ hSw.below; go_simp; (try rw [if_neg (by omega)]); try with_reducible rfl)
          simp only [Act.put, sA]
          refine AtT.tk 12 ?_ 57 ?_ hS ?_
          rotate_left
          · (intro wS hSw; (try dsimp only at hSw); go_simp; (try rw [if_neg (by omega)]); try with_reducible rfl)
          simp only [Act.put, sA]
          refine AtT.tk 13 ?_ 58 ?_ hS ?_
          rotate_left
          · (intro wS hSw; (try dsimp only at hSw); have kr0 := (Mem.row hSw .here).cell; obtain ⟨z0, z1, z2, z3⟩ := HC1.out _ hSw.below; go_simp; (try rw [if_neg (by omega)]); try with_reducible rfl)
          simp only [Act.put, sA]
          refine AtT.tk 14 ?_ 59 ?_ hS ?_
          rotate_left
          · (intro wS hSw; (try dsimp only at hSw); go_simp; (try rw [if_neg (by omega)]); try with_reducible rfl)
          simp only [Act.put, sA]
          refine AtT.tk 15 ?_ 60 ?_ hS ?_
          rotate_left
          · (intro wS hSw; (try dsimp only at hSw); have kr0 := (Mem.row hSw .here).cell; obtain ⟨z0, z1, z2, z3⟩ := HC1.out _ hSw.below; go_simp; (try rw [if_neg (by omega)]); try with_reducible rfl)
          simp only [Act.put, sA]
          refine AtT.only (i := 16) (by kernel_rfl) rfl rfl ?_
          intro K hK
          go_simp
          refine (equalInts_any ya xa yn yc xn xc yl xl _ (HYI.out.ext hM.below) (HXI.out.ext hM.below)).mono ?_
          rw [HQ.out]
          rintro e w5 ⟨rfl, hb⟩
          replace hM := hM.ext hb
          clear hb
          try dsimp only
          refine hK.out _ _ (hM) ?_
          clear hK K hS
          have hS := hM
          refine AtT.tk 17 ?_ 62 ?_ hS ?_
          rotate_left
          · (intro wS hSw; (try dsimp only at hSw); go_simp; (try rw [if_neg (by omega)]); try with_reducible rfl)
          simp only [Act.put, sA]
          refine AtT.tk 18 ?_ 63 ?_ hS ?_
          rotate_left
          · (intro wS hSw; (try dsimp only at hSw); go_simp; (try rw [if_neg (by omega)]); try with_reducible rfl)
          simp only [Act.put, sA]
          refine AtT.last (by kernel_rfl) rfl (by kernel_rfl) ?_
          intro K hK
          clear hS
          go_simp
          refine hK.out _ _ ?_
          clear hK K
          rw [HOK.out] at HCS HCB
          cases q
          · obtain ⟨e1, e2⟩ := HBAD.out (HCB.out rfl)
            subst e1 e2
            clear HCY HYL
            go_wp2
            go_ret2
            exact ⟨none, 0, [], rfl, rfl, by apply Mem.nilNst; first | ((repeat' (first | with_reducible exact hM | with_reducible exact hMp | with_reducible apply Mem.drew | with_reducible apply Mem.drewN | with_reducible apply Mem.alloc | with_reducible apply Mem.set | with_reducible exact Sto.row | ((with_reducible refine Sto.rowEq2 ?_ ?_); omega; rfl) | ((with_reducible refine Sto.rowEq ?_); omega) | with_reducible apply Sto.int | with_reducible apply Sto.there | with_reducible assumption | (unfold I64; omega) | (with_reducible (have hMx := Mem.undrew hM; exact hMx)) | (with_reducible (have hMx := Mem.undrew hMp; exact hMx)))); done) | exact hM.sub (by simp)⟩
          · have HC7 := Lib.hid HCS.out
            have HY7 := Lib.hid (show coreN ys = coreN xs ++ newsTo (coreN xs) (coreN zs) (k + 1) by rw [HNW.out]; (first | rw [if_pos rfl] | rw [if_pos trivial]); exact HCY.out)
            go_wp2
            go_roundw
            case rel => exact ⟨k + 1, m, c', a', ys, by omega, by go_num, rfl, HY7, HIY, HC7, by apply Mem.pick (is := [1]) hM (by decide) rfl⟩
            case measure => simp [intOf]; omega
        · have e5 : (yw != xw) = true := by simpa using hwd
          have e6 : ¬ yw = xw := hwd
          have e7 : (yw == xw) = false := by simpa using hwd
          have e8 : decide (yw = xw) = false := decide_eq_false hwd
          have S3 := bsA_list
          rw [decide_eq_false hwd, Bool.false_and] at hokq2
          have HOK := Lib.hid hokq2
          clear hokq2
          rw [HOK.out] at HCB
          obtain ⟨e1, e2⟩ := HBAD.out (HCB.out rfl)
          subst e1 e2
          clear HCY HYL
          go_upto_region 10 with fail
          apply Mem.atWpA
          · exact memA
          clear hM
          intro wst hM
          (try simp only [World.size_alloc, World.size_setCell, World.heap_drewN, heapDrew, Nat.add_assoc, Nat.reduceAdd, sA, List.cons_append, List.nil_append] at hM)
          refine AtT.startA hM hM 19 (by kernel_rfl) ?_
          clear hM
          intro wd hM
          have hS := hM
          refine AtT.tk 0 ?_ 45 ?_ hS ?_
          rotate_left
          · (intro wS hSw; (try dsimp only at hSw); go_simp; (try rw [if_neg (by omega)]); try with_reducible rfl)
          simp only [Act.put, sA]
          refine AtT.tk 1 ?_ 46 ?_ hS ?_
          rotate_left
          · (intro wS hSw; (try dsimp only at hSw); go_simp; (try rw [if_neg (by omega)]); try with_reducible rfl)
          simp only [Act.put, sA]
          refine AtT.tk 2 ?_ 47 ?_ hS ?_
          rotate_left
          · (intro wS hSw; (try dsimp only at hSw); have kr0 := (Mem.row hSw .here).cell; obtain ⟨z0, z1, z2, z3⟩ := HC1.out _ hSw.below; go_simp; (try rw [if_neg (by omega)]); try with_reducible rfl)
          simp only [Act.put, sA]
          refine AtT.tk 3 ?_ 48 ?_ hS ?_
          rotate_left
          · (intro wS hSw; (try dsimp only at hSw); go_simp; (try rw [if_neg (by omega)]); try with_reducible rfl)
          simp only [Act.put, sA]
          refine AtT.tk 4 ?_ 49 ?_ hS ?_
          rotate_left
          · (intro wS hSw; (try dsimp only at hSw); have kr0 := (Mem.row hSw .here).cell; obtain ⟨z0, z1, z2, z3⟩ := HC1.out _ hSw.below; go_simp; (try rw [if_neg (by omega)]); try with_reducible rfl)
          simp only [Act.put, sA]
          refine AtT.tk 5 ?_ 50 ?_ hS ?_
          rotate_left
          · (intro wS hSw; (try dsimp only at hSw); go_simp; (try rw [if_neg (by omega)]); try with_reducible rfl)
          simp only [Act.put, sA]
          refine AtT.tk 6 ?_ 51 ?_ hS ?_
          rotate_left
          · (intro wS hSw; (try dsimp only at hSw); have kr0 := (Mem.row hSw .here).cell; obtain ⟨z0, z1, z2, z3⟩ := HC1.out _ hSw.below; go_simp; (try rw [if_neg (by omega)]); try with_reducible rfl)
          simp only [Act.put, sA]
          refine AtT.tk 7 ?_ 52 ?_ hS ?_
          rotate_left
          · (intro wS hSw; (try dsimp only at hSw); go_simp; (try rw [if_neg (by omega)]); try with_reducible rfl)
          simp only [Act.put, sA]
          refine AtT.tk 8 ?_ 53 ?_ hS ?_
          rotate_left
          · (intro wS hSw; (try dsimp only at hSw); go_simp; (try rw [if_neg (by omega)]); try with_reducible rfl)
          simp only [Act.put, sA]
          refine AtT.tn 9 54 hS ?_
          simp only [Act.put, sA]
          refine AtT.tn 10 55 hS ?_
          simp only [Act.put, sA]
          refine AtT.tn 11 56 hS ?_
          simp only [Act.put, sA]
          refine AtT.tn 12 57 hS ?_
          simp only [Act.put, sA]
          refine AtT.tn 13 58 hS ?_
          simp only [Act.put, sA]
          refine AtT.tn 14 59 hS ?_
          simp only [Act.put, sA]
          refine AtT.tn 15 60 hS ?_
          simp only [Act.put, sA]
          refine AtT.tn 16 61 hS ?_
          simp only [Act.put, sA]
          refine AtT.tn 17 62 hS ?_
          simp only [Act.put, sA]
          refine AtT.tk 18 ?_ 63 ?_ hS ?_
          rotate_left
          · (intro wS hSw; (try dsimp only at hSw); go_simp; (try rw [if_neg (by omega)]); try with_reducible rfl)
          simp only [Act.put, sA]
          refine AtT.last (by kernel_rfl) rfl (by kernel_rfl) ?_
          intro K hK
          clear hS
          go_simp
          refine hK.out _ _ ?_
          clear hK K
          go_wp2
          go_ret2
          exact ⟨none, 0, [], rfl, rfl, by apply Mem.nilNst; first | ((repeat' (first | with_reducible exact hM | with_reducible exact hMp | with_reducible apply Mem.drew | with_reducible apply Mem.drewN | with_reducible apply Mem.alloc | with_reducible apply Mem.set | with_reducible exact Sto.row | ((with_reducible refine Sto.rowEq2 ?_ ?_); omega; rfl) | ((with_reducible refine Sto.rowEq ?_); omega) | with_reducible apply Sto.int | with_reducible apply Sto.there | with_reducible assumption | (unfold I64; omega) | (with_reducible (have hMx := Mem.undrew hM; exact hMx)) | (with_reducible (have hMx := Mem.undrew hMp; exact hMx)))); done) | exact hM.sub (by simp)⟩
    · obtain rfl : k = n2 := by omega
      obtain ⟨e1, e2⟩ := HGOOD.out (by rw [HL2.out]; exact HCL.out)
      have hml : mergeL (coreN xs) (coreN zs) = isortG NoteC.zero ltN (coreN ys) := by rw [HCY.out, mergeL, mergeTo, HL2.out]
      have hmm : (mergeL (coreN xs) (coreN zs)).length = m := by rw [hml, isortG_length, coreN_len, HYL.out]
      have HML := Lib.hid hml
      obtain ⟨ml, hme⟩ : ∃ ml, mergeL (coreN xs) (coreN zs) = ml := ⟨_, rfl⟩
      rw [hme] at e1 e2 hmm HML
      have HE1 := Lib.hid e1.symm; have HE2 := Lib.hid e2; have HMM := Lib.hid hmm
      clear e1 e2 hml hmm hme HCY HCL
      have HRY : Hid (∀ w' : World, Below w.heap.size w w' → Rd FNote w' a' m c' ys → RdN w' a' m c' ys) := Lib.hid fun w' hb hr => ⟨hr, fun y hy => (HIY.out y hy).ext hb⟩
      by_cases h19 : m ≤ 19
      · skip
        go_wp2_with fail
        apply Mem.atA
        · exact memA
        clear hM
        intro wst hM
        (try simp only [World.size_alloc, World.size_setCell, World.heap_drewN, heapDrew, Nat.add_assoc, Nat.reduceAdd, sA, List.cons_append, List.nil_append] at hM)
        refine (copied_any a' m c' ys _ (HRY.out _ hM.below (hM.ow .here).rd) h19).mono ?_
        rintro e w5 ⟨g5, c5, vs, hvs, rfl, hm⟩
        replace hM := Mem.notesClose (hM.join hm)
        have HV := Lib.hid (hvs.trans HML.out.symm)
        clear hm hvs
        try dsimp only [List.cons_append, List.nil_append] at hM
        rw [← HV.out] at HE1 HE2 HMM
        clear HML HV
        go_wp2_with fail
        apply Mem.atA
        · exact memA
        clear hM
        intro wst hM
        (try simp only [World.size_alloc, World.size_setCell, World.heap_drewN, heapDrew, Nat.add_assoc, Nat.reduceAdd, sA, List.cons_append, List.nil_append] at hM)
        (first | refine (isNotebook_any u _ _ _ vs _ HUI.out (hM.notes .here)).mono ?_)
        rw [HE1.out]
        rintro e wc9 ⟨rfl, hb⟩
        replace hM := hM.ext hb
        clear hb
        rw [HE1.out] at HE2
        cases bv
        · have hrv : rv = [] := by rw [HE2.out]; rfl
          subst hrv
          go_wp2
          go_ret2
          exact ⟨none, 0, [], rfl, rfl, by apply Mem.nilNst; first | ((repeat' (first | with_reducible exact hM | with_reducible exact hMp | with_reducible apply Mem.drew | with_reducible apply Mem.drewN | with_reducible apply Mem.alloc | with_reducible apply Mem.set | with_reducible exact Sto.row | ((with_reducible refine Sto.rowEq2 ?_ ?_); omega; rfl) | ((with_reducible refine Sto.rowEq ?_); omega) | with_reducible apply Sto.int | with_reducible apply Sto.there | with_reducible assumption | (unfold I64; omega) | (with_reducible (have hMx := Mem.undrew hM; exact hMx)) | (with_reducible (have hMx := Mem.undrew hMp; exact hMx)))); done) | exact hM.sub (by simp)⟩
        · have hrv : rv = coreN vs := by rw [HE2.out]; rfl
          subst hrv
          go_wp2
          go_ret2
          exact ⟨some ⟨g5, 0, none⟩, c5, vs, rfl, (by rw [HMM.out]; rfl), by rw [HMM.out]; exact hM.first⟩
      · skip
        go_wp2_with fail
        apply Mem.atA
        · exact memA
        clear hM
        intro wst hM
        (try simp only [World.size_alloc, World.size_setCell, World.heap_drewN, heapDrew, Nat.add_assoc, Nat.reduceAdd, sA, List.cons_append, List.nil_append] at hM)
        refine (copiedW_any a' m c' ys _ (HRY.out _ hM.below (hM.ow .here).rd) ⟨by omega, by omega⟩).mono ?_
        rintro e w5 ⟨g5, c5, vs, hvs, rfl, hm⟩
        replace hM := Mem.notesClose (hM.join hm)
        have hvl : (coreN vs).length = m := by rw [hvs.length_eq, coreN_len, HYL.out]
        have hbv : bookB u (coreN vs) = false := by
          cases hq : bookB u (coreN vs)
          · rfl
          · have := book_len hq; omega
        have hbm : bookB u ml = false := by
          cases hq : bookB u ml
          · rfl
          · have := book_len hq; have := HMM.out; omega
        rw [hbm] at HE1
        have hb0 : bv = false := HE1.out.symm
        rw [hbm] at HE2
        have hrv : rv = [] := by rw [HE2.out]; rfl
        subst hrv hb0
        have HBV := Lib.hid hbv
        clear hm hvs hvl hbv hbm HE1 HE2 HML
        try dsimp only [List.cons_append, List.nil_append] at hM
        go_wp2_with fail
        apply Mem.atA
        · exact memA
        clear hM
        intro wst hM
        (try simp only [World.size_alloc, World.size_setCell, World.heap_drewN, heapDrew, Nat.add_assoc, Nat.reduceAdd, sA, List.cons_append, List.nil_append] at hM)
        (first | refine (isNotebook_any u _ _ _ vs _ HUI.out (hM.notes .here)).mono ?_)
        rw [HBV.out]
        rintro e wc10 ⟨rfl, hb⟩
        replace hM := hM.ext hb
        clear hb
        go_wp2
        go_ret2
        exact ⟨none, 0, [], rfl, rfl, by apply Mem.nilNst; first | ((repeat' (first | with_reducible exact hM | with_reducible exact hMp | with_reducible apply Mem.drew | with_reducible apply Mem.drewN | with_reducible apply Mem.alloc | with_reducible apply Mem.set | with_reducible exact Sto.row | ((with_reducible refine Sto.rowEq2 ?_ ?_); omega; rfl) | ((with_reducible refine Sto.rowEq ?_); omega) | with_reducible apply Sto.int | with_reducible apply Sto.there | with_reducible assumption | (unfold I64; omega) | (with_reducible (have hMx := Mem.undrew hM; exact hMx)) | (with_reducible (have hMx := Mem.undrew hMp; exact hMx)))); done) | exact hM.sub (by simp)⟩
end Go.Proofs.YtjnbdgldpmmamaaGreat
