/-
  MergeBooks: the reference's.
-/
import Derived.Test.YtjnbdgldpmmamaaGreatUMrgS
/-
  MergeBooks: the reference's.
-/
namespace Go.Proofs.YtjnbdgldpmmamaaGreat
set_option linter.unusedSimpArgs false
set_option linter.unusedVariables false
open Go.RowKit

theorem mrg_step {a b : List NoteC} (ha : ascN a) (hb : ascN b) {k : Nat} (hk : k < b.length) :
    (hasN a (b.getD k NoteC.zero) = false ∧ fndN (mergeTo a b k) (b.getD k NoteC.zero) = -1 ∧ okAt a (b.getD k NoteC.zero) = true ∧ putN (b.getD k NoteC.zero) (mergeTo a b k) = mergeTo a b (k + 1)) ∨
    (hasN a (b.getD k NoteC.zero) = true ∧ ∃ p, p < (mergeTo a b k).length ∧ fndN (mergeTo a b k) (b.getD k NoteC.zero) = (p : Int) ∧ sameK ((mergeTo a b k).getD p NoteC.zero) (b.getD k NoteC.zero) = true ∧ decide ((mergeTo a b k).getD p NoteC.zero = b.getD k NoteC.zero) = okAt a (b.getD k NoteC.zero) ∧ mergeTo a b (k + 1) = mergeTo a b k) := by
  cases hh : hasN a (b.getD k NoteC.zero)
  · refine .inl ⟨rfl, ?_, ?_, merge_new ha hb hk hh⟩
    · rw [fndN, merge_has ha hb hk, hh]; rfl
    · rw [okAt, hh]; rfl
  · have h1 : hasN (mergeTo a b k) (b.getD k NoteC.zero) = true := by rw [merge_has ha hb hk]; exact hh
    obtain ⟨p1, p2, -⟩ := has_pl h1
    refine .inr ⟨rfl, _, p1, ?_, p2, ?_, merge_same hh⟩
    · rw [fndN, h1]; rfl
    · rw [okAt, hh, merge_old ha hb hk hh]; rfl
theorem merge_len {u : Int} {a b : List NoteC} (ha : bookB u a = true) (hb : bookB u b = true) {k : Nat} (hk : k ≤ b.length) : (mergeTo a b k).length ≤ 24 := by
  rw [mergeTo_len]
  have h1 := newsTo_len a b k
  have h2 := book_len ha
  have h3 := book_len hb
  omega
theorem merge_note {u : Int} {a b : List NoteC} (ha : bookB u a = true) (hb : bookB u b = true) {k : Nat} (hk : k ≤ b.length) : ∀ y ∈ mergeTo a b k, noteB u y = true := by
  intro y hy
  rcases List.mem_append.1 ((merge_facts (book_asc ha) (book_asc hb) k hk).2.mem_iff.1 hy) with hy | hy
  · obtain ⟨i, hi, rfl⟩ := List.getElem_of_mem hy
    have := book_note ha hi
    rwa [List.getD_eq_getElem?_getD, List.getElem?_eq_getElem hi] at this
  · obtain ⟨i, hi, rfl⟩ := newsTo_mem hy
    exact book_note hb (by omega)
theorem note_small {u : Int} {x : NoteI} (hu : 2 ≤ u ∧ u ≤ 4) (h : noteB u x.core = true) : smallN x := by
  have h1 := noteB_true h
  have h2 : 0 ≤ x.un ∧ x.un ≤ u - 1 := h1.2.2.1
  have h3 : 1 ≤ x.sq := h1.2.2.2.1
  have h4 : x.sq ≤ 12 := h1.2.2.2.2.2.1
  exact ⟨by omega, by omega⟩
theorem small_of {u : Int} {l : List NoteC} {ys : List NoteI} (hu : 2 ≤ u ∧ u ≤ 4) (h : ∀ y ∈ l, noteB u y = true) (e : coreN ys = l) : ∀ y ∈ ys, smallN y := fun y hy => note_small hu (h _ (by rw [← e]; exact List.mem_map.2 ⟨y, hy, rfl⟩))

set_option maxRecDepth 100000 in
set_option maxHeartbeats 16000000 in
theorem specMergeG_any (u : Int) (a1 : Option Addr) (n1 c1 : Nat) (xs : List NoteI) (a2 : Option Addr) (n2 c2 : Nat) (zs : List NoteI) (w : World) (hu : I64 u) (h1 : RdN w a1 n1 c1 xs) (h2 : RdN w a2 n2 c2 zs) :
    Calls Tryz.prog 19 #[.int .i64 u, .slice a1 n1 c1, .slice a2 n2 c2] w fun e w' => ∃ a' c' ys, (mergeB u (coreN xs) (coreN zs) = true → ∃ b : Nat, a' = some ⟨b, 0, none⟩) ∧ coreN ys = mergeR u (coreN xs) (coreN zs) ∧ e = .returned (.tuple #[.slice a' (mergeR u (coreN xs) (coreN zs)).length c', .bool (mergeB u (coreN xs) (coreN zs))]) ∧ Mem w.heap.size w w' [noteE a' (mergeR u (coreN xs) (coreN zs)).length c' ys] := by
  have hM := Mem.start w
  have HUI := Lib.hid hu
  have H1 := Lib.hid h1; have H2 := Lib.hid h2
  clear hu h1 h2
  cases hb1 : bookB u (coreN xs)
  · have e1 : mergeB u (coreN xs) (coreN zs) = false := by rw [mergeB, hb1]; rfl
    have e2 : mergeR u (coreN xs) (coreN zs) = [] := by rw [mergeR, e1]; rfl
    rw [e1, e2]
    have HB := Lib.hid hb1; clear hb1 e1 e2
    go_enter Tryz.func19, Tryz.ntmps19
    go_wp2_with fail
    apply Mem.atA
    · exact memA
    clear hM
    intro wst hM
    (try simp only [World.size_alloc, World.size_setCell, World.heap_drewN, heapDrew, Nat.add_assoc, Nat.reduceAdd, sA, List.cons_append, List.nil_append] at hM)
    (first | refine (l17Good_any u a1 n1 c1 xs _ HUI.out (H1.out.ext hM.below)).mono ?_)
    rw [HB.out]
    rintro e wc1 ⟨rfl, hb⟩
    replace hM := hM.ext hb
    clear hb
    go_wp2
    go_ret2
    first | refine ⟨_, _, [], (fun h => by cases h), rfl, rfl, ?_⟩ | refine ⟨_, _, [], rfl, rfl, ?_⟩
    apply Mem.nilNstR
    (exact memA)
  cases hb2 : bookB u (coreN zs)
  · have e1 : mergeB u (coreN xs) (coreN zs) = false := by rw [mergeB, hb1, hb2]; rfl
    have e2 : mergeR u (coreN xs) (coreN zs) = [] := by rw [mergeR, e1]; rfl
    rw [e1, e2]
    have HB := Lib.hid hb1; have HB2 := Lib.hid hb2; clear hb1 hb2 e1 e2
    go_enter Tryz.func19, Tryz.ntmps19
    go_wp2_with fail
    apply Mem.atA
    · exact memA
    clear hM
    intro wst hM
    (try simp only [World.size_alloc, World.size_setCell, World.heap_drewN, heapDrew, Nat.add_assoc, Nat.reduceAdd, sA, List.cons_append, List.nil_append] at hM)
    (first | refine (l17Good_any u a1 n1 c1 xs _ HUI.out (H1.out.ext hM.below)).mono ?_)
    rw [HB.out]
    rintro e wc2 ⟨rfl, hb⟩
    replace hM := hM.ext hb
    clear hb
    go_wp2_with fail
    apply Mem.atA
    · exact memA
    clear hM
    intro wst hM
    (try simp only [World.size_alloc, World.size_setCell, World.heap_drewN, heapDrew, Nat.add_assoc, Nat.reduceAdd, sA, List.cons_append, List.nil_append] at hM)
    (first | refine (l17Good_any u a2 n2 c2 zs _ HUI.out (H2.out.ext hM.below)).mono ?_)
    rw [HB2.out]
    rintro e wc3 ⟨rfl, hb⟩
    replace hM := hM.ext hb
    clear hb
    go_wp2
    go_ret2
    first | refine ⟨_, _, [], (fun h => by cases h), rfl, rfl, ?_⟩ | refine ⟨_, _, [], rfl, rfl, ?_⟩
    apply Mem.nilNstR
    (exact memA)
  have hu := book_u hb1
  have hn1 : n1 ≤ 12 := by have := book_len hb1; rw [coreN_len, H1.out.rd.len] at this; exact this
  have hn2 : n2 ≤ 12 := by have := book_len hb2; rw [coreN_len, H2.out.rd.len] at this; exact this
  have HL2 := Lib.hid (show (coreN zs).length = n2 by rw [coreN_len, H2.out.rd.len])
  have HA1 := Lib.hid (book_asc hb1); have HA2 := Lib.hid (book_asc hb2)
  have HML := Lib.hid (fun k (hk : k ≤ (coreN zs).length) => merge_len hb1 hb2 hk)
  have HMN := Lib.hid (fun k (hk : k ≤ (coreN zs).length) => merge_note hb1 hb2 hk)
  have HB := Lib.hid hb1; have HB2 := Lib.hid hb2; have HU := Lib.hid hu
  have HS2 := Lib.hid (H2.out.small HB2.out)
  have hbad : cleanTo (coreN xs) (coreN zs) (coreN zs).length = false → mergeB u (coreN xs) (coreN zs) = false ∧ mergeR u (coreN xs) (coreN zs) = [] := fun hc => by
    have e1 : mergeB u (coreN xs) (coreN zs) = false := by rw [mergeB, HB.out, HB2.out, hc]; rfl
    exact ⟨e1, by rw [mergeR, e1]; rfl⟩
  have hgood : cleanTo (coreN xs) (coreN zs) (coreN zs).length = true → mergeB u (coreN xs) (coreN zs) = bookB u (mergeL (coreN xs) (coreN zs)) ∧ mergeR u (coreN xs) (coreN zs) = if bookB u (mergeL (coreN xs) (coreN zs)) then mergeL (coreN xs) (coreN zs) else [] := fun hc => by
    have e1 : mergeB u (coreN xs) (coreN zs) = bookB u (mergeL (coreN xs) (coreN zs)) := by rw [mergeB, HB.out, HB2.out, hc]; rfl
    exact ⟨e1, by rw [mergeR, e1]⟩
  obtain ⟨bv, hbv⟩ : ∃ b, mergeB u (coreN xs) (coreN zs) = b := ⟨_, rfl⟩
  obtain ⟨rv, hrv⟩ : ∃ b, mergeR u (coreN xs) (coreN zs) = b := ⟨_, rfl⟩
  rw [hbv, hrv] at hbad hgood ⊢
  have HBAD := Lib.hid hbad; have HGOOD := Lib.hid hgood
  clear hbad hgood hbv hrv hu hb1 hb2
  have HZ := Lib.hid (mergeTo_zero (a := coreN xs) (b := coreN zs) HA1.out)
  go_enter Tryz.func19, Tryz.ntmps19
  go_wp2_with fail
  apply Mem.atA
  · exact memA
  clear hM
  intro wst hM
  (try simp only [World.size_alloc, World.size_setCell, World.heap_drewN, heapDrew, Nat.add_assoc, Nat.reduceAdd, sA, List.cons_append, List.nil_append] at hM)
  (first | refine (l17Good_any u a1 n1 c1 xs _ HUI.out (H1.out.ext hM.below)).mono ?_)
  rw [HB.out]
  rintro e wc4 ⟨rfl, hb⟩
  replace hM := hM.ext hb
  clear hb
  go_wp2_with fail
  apply Mem.atA
  · exact memA
  clear hM
  intro wst hM
  (try simp only [World.size_alloc, World.size_setCell, World.heap_drewN, heapDrew, Nat.add_assoc, Nat.reduceAdd, sA, List.cons_append, List.nil_append] at hM)
  (first | refine (l17Good_any u a2 n2 c2 zs _ HUI.out (H2.out.ext hM.below)).mono ?_)
  rw [HB2.out]
  rintro e wc5 ⟨rfl, hb⟩
  replace hM := hM.ext hb
  clear hb
  go_wp2_with fail
  apply Mem.atA
  · exact memA
  clear hM
  intro wst hM
  (try simp only [World.size_alloc, World.size_setCell, World.heap_drewN, heapDrew, Nat.add_assoc, Nat.reduceAdd, sA, List.cons_append, List.nil_append] at hM)
  refine (l17Own_any a1 n1 c1 xs _ (H1.out.ext hM.below) (by omega)).mono ?_
  rintro e w3 ⟨g0, c0, ys0, hy0, rfl, hm⟩
  replace hM := hM.join hm
  have HY0 := Lib.hid (hy0.trans HZ.out.symm); clear hm hy0
  dsimp only [List.cons_append, List.nil_append] at hM
  go_wp2_with fail
  go_loopw [8, 9] (fun s8 s9 wr => ∃ (k m c' g : Nat) (ys : List NoteI), k ≤ n2 ∧ s9 = .int .i64 k ∧ s8 = .slice (some ⟨g, 0, none⟩) m c' ∧ Hid (coreN ys = mergeTo (coreN xs) (coreN zs) k) ∧ Hid (cleanTo (coreN xs) (coreN zs) k = true) ∧ Mem w.heap.size w wr [owE FNote 40 (some ⟨g, 0, none⟩) m c' ys, clkE ys]) (fun _ s9 _ => n2 - (intOf s9).toNat)
  case atStart => exact ⟨0, n1, c0, g0, ys0, Nat.zero_le _, rfl, rfl, HY0, Lib.hid rfl, hM⟩
  case round =>
    clear hM HY0
    obtain ⟨k, m, c', g, ys, hk, rfl, rfl, HCY, HCL, hM⟩ := hrel
    have hml : ys.length = m := (hM.ow .here).rd.len
    have hm24 : m ≤ 24 := by rw [← hml, ← coreN_len, HCY.out]; exact HML.out k (by rw [HL2.out]; exact hk)
    have HYL := Lib.hid hml; clear hml
    by_cases hlt : k < n2
    · have hst := mrg_step HA1.out HA2.out (k := k) (by rw [HL2.out]; exact hlt)
      have hcs := cleanTo_succ (coreN xs) (coreN zs) k
      have hcb := clean_bad (a := coreN xs) (b := coreN zs) (k := k) (by rw [HL2.out]; exact hlt)
      rw [HCL.out, Bool.true_and] at hcs
      rw [← HCY.out] at hst
      have hxg := coreN_getD zs k
      have hxs := HS2.out (zs.getD k NoteI.zero) (by rw [List.getD_eq_getElem?_getD, List.getElem?_eq_getElem (by rw [H2.out.rd.len]; exact hlt)]; exact List.getElem_mem _)
      have hxw := H2.out.rd.wf (zs.getD k NoteI.zero) (by rw [List.getD_eq_getElem?_getD, List.getElem?_eq_getElem (by rw [H2.out.rd.len]; exact hlt)]; exact List.getElem_mem _)
      have hxi := H2.out.get hlt
      rw [hxg] at hst hcs hcb
      obtain ⟨b2, o2, rfl, -, -⟩ := H2.out.rd.at' _ hlt
      have HC := Lib.hid (fun (w' : World) (hb : Below w.heap.size w w') => ((H2.out.rd.ext hb).cellNote hlt).2)
      obtain ⟨x, hx⟩ : ∃ x, zs.getD k NoteI.zero = x := ⟨_, rfl⟩
      rw [hx] at hst hcs hcb hxs hxw hxi
      simp only [hx] at HC
      have HX := Lib.hid hx; clear hx hxg
      have HXS := Lib.hid hxs; have HXW := Lib.hid hxw; have HXI := Lib.hid hxi
      have HCS := Lib.hid hcs; have HCB := Lib.hid hcb
      clear hxs hxw hxi hcs hcb
      have HSY := Lib.hid (small_of HU.out (HMN.out k (by rw [HL2.out]; exact hk)) HCY.out)
      have i0 : (0 : Int) ≤ (k : Int) := by omega
      have i1 : (k : Int) < (n2 : Int) := by omega
      rcases hst with ⟨-, hf, hok, hput⟩ | ⟨-, p, hp, hf, hsame, hdec, hmg⟩
      · have HF := Lib.hid hf; have HPUT := Lib.hid hput; have HOK := Lib.hid hok
        clear hf hok hput
        go_upto_region 7 with fail
        apply Mem.atWpA
        · exact memA
        clear hM
        intro wst hM
        (try simp only [World.size_alloc, World.size_setCell, World.heap_drewN, heapDrew, Nat.add_assoc, Nat.reduceAdd, sA, List.cons_append, List.nil_append] at hM)
        refine AtT.startA hM hM 12 (by kernel_rfl) ?_
        clear hM
        intro wd hM
        have hS := hM
        refine AtT.tk 0 ?_ 30 ?_ hS ?_
        rotate_left
        · (intro wS hSw; (try dsimp only at hSw); go_simp; (try rw [if_neg (by omega)]); try with_reducible rfl)
        simp only [Act.put, sA]
        refine AtT.tk 1 ?_ 31 ?_ hS ?_
        rotate_left
        · (intro wS hSw; (try dsimp only at hSw); go_simp; (try rw [if_neg (by omega)]); try with_reducible rfl)
        simp only [Act.put, sA]
        refine AtT.tk 2 ?_ 32 ?_ hS ?_
        rotate_left
        · (intro wS hSw; (try dsimp only at hSw); go_simp; (try rw [if_neg (by omega)]); try with_reducible rfl)
        simp only [Act.put, sA]
        refine AtT.tk 3 ?_ 33 ?_ hS ?_
        rotate_left
        · (intro wS hSw; (try dsimp only at hSw); have x0 := (HC.out _ hSw.below).1; have x1 := (HC.out _ hSw.below).2.1; go_simp; (try rw [if_neg (by omega)]); try with_reducible rfl)
        simp only [Act.put, sA]
        refine AtT.tk 4 ?_ 34 ?_ hS ?_
        rotate_left
        · (intro wS hSw; (try dsimp only at hSw); go_simp; (try rw [if_neg (by omega)]); try with_reducible rfl)
        simp only [Act.put, sA]
        refine AtT.tk 5 ?_ 35 ?_ hS ?_
        rotate_left
        · (intro wS hSw; (try dsimp only at hSw); have x0 := (HC.out _ hSw.below).1; have x1 := (HC.out _ hSw.below).2.1; go_simp; (try rw [if_neg (by omega)]); try with_reducible rfl)
        simp only [Act.put, sA]
        refine AtT.tk 6 ?_ 36 ?_ hS ?_
        rotate_left
        · (intro wS hSw; (try dsimp only at hSw); go_simp; (try rw [if_neg (by omega)]); try with_reducible rfl)
        simp only [Act.put, sA]
        refine AtT.tk 7 ?_ 37 ?_ hS ?_
        rotate_left
        · (intro wS hSw; (try dsimp only at hSw); go_simp; (try rw [if_neg (by omega)]); try with_reducible rfl)
        simp only [Act.put, sA]
        refine AtT.tk 8 ?_ 38 ?_ hS ?_
        rotate_left
        · (intro wS hSw; (try dsimp only at hSw); have x0 := (HC.out _ hSw.below).1; have x1 := (HC.out _ hSw.below).2.1; go_simp; (try rw [if_neg (by omega)]); try with_reducible rfl)
        simp only [Act.put, sA]
        refine AtT.tk 9 ?_ 39 ?_ hS ?_
        rotate_left
        · (intro wS hSw; (try dsimp only at hSw); go_simp; (try rw [if_neg (by omega)]); try with_reducible rfl)
        simp only [Act.put, sA]
        refine AtT.tk 10 ?_ 40 ?_ hS ?_
        rotate_left
        · (intro wS hSw; (try dsimp only at hSw); have x0 := (HC.out _ hSw.below).1; have x1 := (HC.out _ hSw.below).2.1; go_simp; (try rw [if_neg (by omega)]); try with_reducible rfl)
        simp only [Act.put, sA]
        refine AtT.only (i := 11) (by kernel_rfl) rfl rfl ?_
        intro K hK
        go_simp
        refine (l17Find_any _ _ _ ys x.core _ (clk_rd hM)).mono ?_
        rw [HF.out]
        rintro e w5 ⟨rfl, hb⟩
        replace hM := hM.ext hb
        clear hb
        try dsimp only
        refine hK.out _ _ (hM) ?_
        clear hK K hS
        have hS := hM
        refine AtT.last (by kernel_rfl) rfl (by kernel_rfl) ?_
        intro K hK
        clear hS
        go_simp
        refine hK.out _ _ ?_
        clear hK K
        clear HF
        obtain ⟨x0, x1, x2, x3⟩ := HC.out _ hM.below
        go_wp2_with fail
        refine (l17Put_any g 0 m c' ys x _ (clk_rd hM) (HXI.out.ext hM.below) HXW.out HSY.out HXS.out (by omega)).mono ?_
        rintro e w7 ⟨g7, c7, ys7, hy7, rfl, hm⟩
        replace hM := hM.join hm
        have HY7 := Lib.hid (hy7.trans HPUT.out)
        have HC7 := Lib.hid (HCS.out.trans HOK.out)
        clear hm hy7 x0 x1 x2 x3
        dsimp only [List.cons_append, List.nil_append] at hM
        go_wp2
        go_roundw
        case rel => exact ⟨k + 1, m + 1, c7, g7, ys7, by omega, by go_num, rfl, HY7, HC7, hM.pick (is := [0, 1]) (by decide) rfl⟩
        case measure => simp [intOf]; omega
      · have hpm : p < m := by rw [← HYL.out, ← coreN_len]; exact hp
        have hyg := coreN_getD ys p
        rw [hyg] at hsame hdec
        have hys := HSY.out (ys.getD p NoteI.zero) (by rw [List.getD_eq_getElem?_getD, List.getElem?_eq_getElem (by rw [HYL.out]; exact hpm)]; exact List.getElem_mem _)
        obtain ⟨y, hy⟩ : ∃ y, ys.getD p NoteI.zero = y := ⟨_, rfl⟩
        rw [hy] at hsame hdec hys
        have HF := Lib.hid hf; have HSAME := Lib.hid hsame; have HDEC := Lib.hid hdec; have HMG := Lib.hid hmg; have HYY := Lib.hid hy; have HYS := Lib.hid hys
        clear hf hsame hdec hmg hy hys hyg hp
        have p0 : (0 : Int) ≤ (p : Int) := by omega
        have p1 : (p : Int) < (m : Int) := by omega
        go_upto_region 7 with fail
        apply Mem.atWpA
        · exact memA
        clear hM
        intro wst hM
        (try simp only [World.size_alloc, World.size_setCell, World.heap_drewN, heapDrew, Nat.add_assoc, Nat.reduceAdd, sA, List.cons_append, List.nil_append] at hM)
        refine AtT.startA hM hM 12 (by kernel_rfl) ?_
        clear hM
        intro wd hM
        have hS := hM
        refine AtT.tk 0 ?_ 30 ?_ hS ?_
        rotate_left
        · (intro wS hSw; (try dsimp only at hSw); go_simp; (try rw [if_neg (by omega)]); try with_reducible rfl)
        simp only [Act.put, sA]
        refine AtT.tk 1 ?_ 31 ?_ hS ?_
        rotate_left
        · (intro wS hSw; (try dsimp only at hSw); go_simp; (try rw [if_neg (by omega)]); try with_reducible rfl)
        simp only [Act.put, sA]
        refine AtT.tk 2 ?_ 32 ?_ hS ?_
        rotate_left
        · (intro wS hSw; (try dsimp only at hSw); go_simp; (try rw [if_neg (by omega)]); try with_reducible rfl)
        simp only [Act.put, sA]
        refine AtT.tk 3 ?_ 33 ?_ hS ?_
        rotate_left
        · (intro wS hSw; (try dsimp only at hSw); have x0 := (HC.out _ hSw.below).1; have x1 := (HC.out _ hSw.below).2.1; go_simp; (try rw [if_neg (by omega)]); try with_reducible rfl)
        simp only [Act.put, sA]
        refine AtT.tk 4 ?_ 34 ?_ hS ?_
        rotate_left
        · (intro wS hSw; (try dsimp only at hSw); go_simp; (try rw [if_neg (by omega)]); try with_reducible rfl)
        simp only [Act.put, sA]
        refine AtT.tk 5 ?_ 35 ?_ hS ?_
        rotate_left
        · (intro wS hSw; (try dsimp only at hSw); have x0 := (HC.out _ hSw.below).1; have x1 := (HC.out _ hSw.below).2.1; go_simp; (try rw [if_neg (by omega)]); try with_reducible rfl)
        simp only [Act.put, sA]
        refine AtT.tk 6 ?_ 36 ?_ hS ?_
        rotate_left
        · (intro wS hSw; (try dsimp only at hSw); go_simp; (try rw [if_neg (by omega)]); try with_reducible rfl)
        simp only [Act.put, sA]
        refine AtT.tk 7 ?_ 37 ?_ hS ?_
        rotate_left
        · (intro wS hSw; (try dsimp only at hSw); go_simp; (try rw [if_neg (by omega)]); try with_reducible rfl)
        simp only [Act.put, sA]
        refine AtT.tk 8 ?_ 38 ?_ hS ?_
        rotate_left
        · (intro wS hSw; (try dsimp only at hSw); have x0 := (HC.out _ hSw.below).1; have x1 := (HC.out _ hSw.below).2.1; go_simp; (try rw [if_neg (by omega)]); try with_reducible rfl)
        simp only [Act.put, sA]
        refine AtT.tk 9 ?_ 39 ?_ hS ?_
        rotate_left
        · (intro wS hSw; (try dsimp only at hSw); go_simp; (try rw [if_neg (by omega)]); try with_reducible rfl)
        simp only [Act.put, sA]
        refine AtT.tk 10 ?_ 40 ?_ hS ?_
        rotate_left
        · (intro wS hSw; (try dsimp only at hSw); have x0 := (HC.out _ hSw.below).1; have x1 := (HC.out _ hSw.below).2.1; go_simp; (try rw [if_neg (by omega)]); try with_reducible rfl)
        simp only [Act.put, sA]
        refine AtT.only (i := 11) (by kernel_rfl) rfl rfl ?_
        intro K hK
        go_simp
        refine (l17Find_any _ _ _ ys x.core _ (clk_rd hM)).mono ?_
        rw [HF.out]
        rintro e w5 ⟨rfl, hb⟩
        replace hM := hM.ext hb
        clear hb
        try dsimp only
        refine hK.out _ _ (hM) ?_
        clear hK K hS
        have hS := hM
        refine AtT.last (by kernel_rfl) rfl (by kernel_rfl) ?_
        intro K hK
        clear hS
        go_simp
        refine hK.out _ _ ?_
        clear hK K
        go_upto_region 10 with fail
        apply Mem.atWpA
        · exact memA
        clear hM
        intro wst hM
        (try simp only [World.size_alloc, World.size_setCell, World.heap_drewN, heapDrew, Nat.add_assoc, Nat.reduceAdd, sA, List.cons_append, List.nil_append] at hM)
        obtain ⟨q, hq⟩ : ∃ q, okAt (coreN xs) x.core = q := ⟨_, rfl⟩
        rw [hq] at HDEC HCS HCB
        clear hq
        refine AtT.startA hM hM 9 (by kernel_rfl) ?_
        clear hM
        intro wd hM
        have hS := hM
        refine AtT.tk 0 ?_ 50 ?_ hS ?_
        rotate_left
        · (intro wS hSw; (try dsimp only at hSw); go_simp; (try rw [if_neg (by omega)]); try with_reducible rfl)
        simp only [Act.put, sA]
        refine AtT.tk 1 ?_ 51 ?_ hS ?_
        rotate_left
        · (intro wS hSw; (try dsimp only at hSw); go_simp; (try rw [if_neg (by omega)]); try with_reducible rfl)
        simp only [Act.put, sA]
        refine AtT.tk 2 ?_ 52 ?_ hS ?_
        rotate_left
        · (intro wS hSw; (try dsimp only at hSw); obtain ⟨x0, x1, x2, x3⟩ := HC.out _ hSw.below; obtain ⟨y0, y1, y2, y3⟩ := (hSw.ow .here).cellNote hpm; rw [HYY.out] at y0 y1 y2 y3; go_simp; (try rw [if_neg (by omega)]); try with_reducible rfl)
        simp only [Act.put, sA]
        refine AtT.tk 3 ?_ 53 ?_ hS ?_
        rotate_left
        · (intro wS hSw; (try dsimp only at hSw); obtain ⟨x0, x1, x2, x3⟩ := HC.out _ hSw.below; obtain ⟨y0, y1, y2, y3⟩ := (hSw.ow .here).cellNote hpm; rw [HYY.out] at y0 y1 y2 y3; go_simp; (try rw [if_neg (by omega)]); try with_reducible rfl)
        simp only [Act.put, sA]
        refine AtT.tk 4 ?_ 54 ?_ hS ?_
        rotate_left
        · (intro wS hSw; (try dsimp only at hSw); go_simp; (try rw [if_neg (by omega)]); try with_reducible rfl)
        simp only [Act.put, sA]
        refine AtT.tk 5 ?_ 55 ?_ hS ?_
        rotate_left
        · (intro wS hSw; (try dsimp only at hSw); go_simp; (try rw [if_neg (by omega)]); try with_reducible rfl)
        simp only [Act.put, sA]
        refine AtT.tk 6 ?_ 56 ?_ hS ?_
        rotate_left
        · (intro wS hSw; (try dsimp only at hSw); obtain ⟨x0, x1, x2, x3⟩ := HC.out _ hSw.below; obtain ⟨y0, y1, y2, y3⟩ := (hSw.ow .here).cellNote hpm; rw [HYY.out] at y0 y1 y2 y3; go_simp; (try rw [if_neg (by omega)]); try with_reducible rfl)
        simp only [Act.put, sA]
        refine AtT.tk 7 ?_ 57 ?_ hS ?_
        rotate_left
        · (intro wS hSw; (try dsimp only at hSw); obtain ⟨x0, x1, x2, x3⟩ := HC.out _ hSw.below; obtain ⟨y0, y1, y2, y3⟩ := (hSw.ow .here).cellNote hpm; rw [HYY.out] at y0 y1 y2 y3; go_simp; (try rw [if_neg (by omega)]); try with_reducible rfl)
        simp only [Act.put, sA]
        refine AtT.only (i := 8) (by kernel_rfl) rfl rfl ?_
        intro K hK
        go_simp
        refine (l17Same_any y x _ (by have := (clk_rd hM).get hpm; rw [HYY.out] at this; exact this) (HXI.out.ext hM.below) HYS.out HSAME.out).mono ?_
        rw [HDEC.out]
        rintro e w5 ⟨rfl, hb⟩
        replace hM := hM.ext hb
        clear hb
        try dsimp only
        refine hK.out _ _ (hM) ?_
        clear hK K hS
        have hS := hM
        refine AtT.last (by kernel_rfl) rfl (by kernel_rfl) ?_
        intro K hK
        clear hS
        go_simp
        refine hK.out _ _ ?_
        clear hK K
        cases q
        · obtain ⟨e1, e2⟩ := HBAD.out (HCB.out rfl)
          subst e1 e2
          clear HCY HYL
          go_wp2
          go_ret2
          first | refine ⟨_, _, [], (fun h => by cases h), rfl, rfl, ?_⟩ | refine ⟨_, _, [], rfl, rfl, ?_⟩
          apply Mem.nilNstR
          (exact memA)
        · have HC7 := Lib.hid HCS.out
          have HY7 := Lib.hid HMG.out.symm
          go_wp2
          go_roundw
          case rel => exact ⟨k + 1, m, c', g, ys, by omega, by go_num, rfl, HY7, HC7, by (exact memA)⟩
          case measure => simp [intOf]; omega
    · obtain rfl : k = n2 := by omega
      obtain ⟨e1, e2⟩ := HGOOD.out (by rw [HL2.out]; exact HCL.out)
      have hml : mergeL (coreN xs) (coreN zs) = coreN ys := by rw [HCY.out, mergeL, HL2.out]
      rw [hml] at e1 e2
      have hyl : (coreN ys).length = m := by rw [coreN_len, HYL.out]
      have HE1 := Lib.hid e1.symm; have HE2 := Lib.hid e2; have HYC := Lib.hid hyl
      clear e1 e2 hml hyl HCY HCL
      replace hM := Mem.notesClose hM
      go_wp2_with fail
      apply Mem.atA
      · exact memA
      clear hM
      intro wst hM
      (try simp only [World.size_alloc, World.size_setCell, World.heap_drewN, heapDrew, Nat.add_assoc, Nat.reduceAdd, sA, List.cons_append, List.nil_append] at hM)
      (first | refine (l17Good_any u _ _ _ ys _ HUI.out (hM.notes .here)).mono ?_)
      rw [HE1.out]
      rintro e wc6 ⟨rfl, hb⟩
      replace hM := hM.ext hb
      clear hb
      rw [HE1.out] at HE2
      cases bv
      · have hrv : rv = [] := by rw [HE2.out]; rfl
        subst hrv
        go_wp2
        go_ret2
        first | refine ⟨_, _, [], (fun h => by cases h), rfl, rfl, ?_⟩ | refine ⟨_, _, [], rfl, rfl, ?_⟩
        apply Mem.nilNstR
        (exact memA)
      · have hrv : rv = coreN ys := by rw [HE2.out]; rfl
        subst hrv
        go_wp2
        go_ret2
        first
        | exact ⟨some ⟨g, 0, none⟩, c', ys, (fun _ => ⟨_, rfl⟩), rfl, (by rw [HYC.out]; rfl), by rw [HYC.out]; exact hM.first⟩
        | exact ⟨some ⟨g, 0, none⟩, ⟨_, rfl⟩, c', ys, rfl, (by rw [HYC.out]; rfl), by rw [HYC.out]; exact hM.first⟩
        | exact ⟨some ⟨g, 0, none⟩, c', ys, rfl, (by rw [HYC.out]; rfl), by rw [HYC.out]; exact hM.first⟩
theorem specMerge_any (u : Int) (a1 : Option Addr) (n1 c1 : Nat) (xs : List NoteI) (a2 : Option Addr) (n2 c2 : Nat) (zs : List NoteI) (w : World) (hu : I64 u) (h1 : RdN w a1 n1 c1 xs) (h2 : RdN w a2 n2 c2 zs) :
    Calls Tryz.prog 19 #[.int .i64 u, .slice a1 n1 c1, .slice a2 n2 c2] w fun e w' => ∃ a' c' ys, coreN ys = mergeR u (coreN xs) (coreN zs) ∧ e = .returned (.tuple #[.slice a' (mergeR u (coreN xs) (coreN zs)).length c', .bool (mergeB u (coreN xs) (coreN zs))]) ∧ Mem w.heap.size w w' [noteE a' (mergeR u (coreN xs) (coreN zs)).length c' ys] :=
  (specMergeG_any u a1 n1 c1 xs a2 n2 c2 zs w hu h1 h2).mono fun _ _ ⟨a', c', ys, _, h⟩ => ⟨a', c', ys, h⟩
end Go.Proofs.YtjnbdgldpmmamaaGreat
