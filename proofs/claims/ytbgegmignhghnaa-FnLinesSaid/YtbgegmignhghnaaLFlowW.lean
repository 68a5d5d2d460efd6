/-
  The program's ways: its net, and what flows through it.
-/
import Derived.Test.YtbgegmignhghnaaLFlowV
import Derived.Test.YtbgegmignhghnaaLLinesS
/-
  The program's ways: its net, and what flows through it.
-/
namespace Go.Proofs.Ytbgegmignhghnaa
set_option linter.unusedSimpArgs false
set_option linter.unusedVariables false
open Go.RowKit

section
variable {burn src snk : Nat → Bool} {s t : Nat} {i o : Nat → Nat} {c y p q : Nat}
theorem nbrX_no (h : burn y = false) : NbrX burn src snk s t i o c y p q ↔ False := by
  simp [NbrX, freeP, h]
theorem nbrX_free (h : freeP burn src snk y = true) : NbrX burn src snk s t i o c y p q ↔ (p = o c ∧ q = i y) := by
  have h1 := h
  simp [freeP] at h1
  simp [NbrX, h, h1]
theorem nbrX_src (h : freeP burn src snk y = false) (hb : burn y = true) (h1 : src y = true) (h2 : snk y = false) : NbrX burn src snk s t i o c y p q ↔ (p = s ∧ q = i c) := by
  simp [NbrX, h, h1, h2, hb]
theorem nbrX_snk (h : freeP burn src snk y = false) (hb : burn y = true) (h1 : src y = false) (h2 : snk y = true) : NbrX burn src snk s t i o c y p q ↔ (p = o c ∧ q = t) := by
  simp [NbrX, h, h1, h2, hb]
theorem nbrX_oth (h1 : freeP burn src snk y = false) (h2 : src y = false) (h3 : snk y = false) : NbrX burn src snk s t i o c y p q ↔ False := by
  simp [NbrX, h1, h2, h3]
end
theorem cells_fact {n : Nat} {f : Nat → Bool} {ys : List Int} (h : cellsN n f = ys) {k : Nat} (hk : k < ys.length) : ∃ m : Nat, ys.getD k 0 = m ∧ m < n ∧ f m = true := by
  have hm := getD_mem hk
  rw [← h] at hm ⊢
  exact cellsN_mem.1 hm
set_option maxRecDepth 100000 in
set_option maxHeartbeats 8000000 in
theorem ways_any (W Hn : Nat) (a : Option Addr) (n c : Nat) (xs : List Int) (a1 : Option Addr) (n1 c1 : Nat) (ss : List Int) (a2 : Option Addr) (n2 c2 : Nat) (ts : List Int) (w : World) (h : Ints w a n c xs) (h1 : Ints w a1 n1 c1 ss) (h2 : Ints w a2 n2 c2 ts) (hn25 : n ≤ 25) (hW : 1 ≤ W ∧ W ≤ 5) (hdis : ∀ x ∈ ss, hasI ts x = false) (hop : openB W n xs ss ts = false) :
    Calls Try.prog 29 #[.agg #[.int .i64 W, .int .i64 Hn, .slice a n c], .slice a1 n1 c1, .slice a2 n2 c2] w fun e w' => ∃ k : Nat, FewT W n xs ss ts k ∧ k ≤ 100 ∧ e = .returned (.int .i64 k) ∧ Below w.heap.size w w' := by
  have hM := Mem.start w
  have HDIS := Lib.hid hdis
  have HOP := Lib.hid (open_no hop)
  clear hdis hop
  obtain ⟨N, hN⟩ : ∃ N, 2 * n + 2 = N := ⟨_, rfl⟩
  have HN := Lib.hid hN
  have hNb : 2 * n + 2 ≤ N ∧ N ≤ 2 * n + 2 := by omega
  clear hN
  obtain ⟨m, hm⟩ : ∃ m, 2 * n = m := ⟨_, rfl⟩
  have HMM := Lib.hid hm
  have hmb : 2 * n ≤ m ∧ m ≤ 2 * n := by omega
  obtain ⟨mt, hmt⟩ : ∃ mt, 2 * n + 1 = mt := ⟨_, rfl⟩
  have HMT := Lib.hid hmt
  have hmtb : 2 * n + 1 ≤ mt ∧ mt ≤ 2 * n + 1 := by omega
  have hw1 : IntKind.i64.wrap (2 * (n : Int)) = (m : Int) := by rw [wrap_in (by omega)]; omega
  have hw2 : IntKind.i64.wrap ((m : Int) + 2) = (N : Int) := by rw [wrap_in (by omega)]; omega
  have hw3 : IntKind.i64.wrap ((m : Int) + 1) = (mt : Int) := by rw [wrap_in (by omega)]; omega
  clear hm hmt
  obtain ⟨may, hmay⟩ : ∃ l, cellsN n (freeN xs ss ts) = l := ⟨_, rfl⟩
  have HMAY := Lib.hid hmay
  clear hmay
  go_enter Try.func29, Try.ntmps29
  go_upto_region 2 with fail
  apply Mem.atWpA
  · (repeat' (first | with_reducible exact hM | with_reducible exact hMp | with_reducible apply Mem.drew | with_reducible apply Mem.drewN | with_reducible apply Mem.alloc | with_reducible apply Mem.set | with_reducible exact Sto.row | ((with_reducible refine Sto.rowEq2 ?_ ?_); omega; rfl) | ((with_reducible refine Sto.rowEq ?_); omega) | with_reducible apply Sto.int | with_reducible apply Sto.there | with_reducible assumption | (unfold I64; omega) | (with_reducible (have hMx := Mem.undrew hM; exact hMx)) | (with_reducible (have hMx := Mem.undrew hMp; exact hMx))))
  clear hM
  intro wst hM
  (try simp only [World.size_alloc, World.size_setCell, World.heap_drewN, heapDrew, Nat.add_assoc, Nat.reduceAdd, List.setIfInBounds_toArray, List.set_cons_zero, List.set_cons_succ, List.cons_append, List.nil_append] at hM)
  go_cut [8, 9] (fun s8 s9 wx => ∃ (q b cc : Nat) (bs : Nat → Nat) (a3 : Option Addr) (n3 c3 : Nat), s8 = .pointer (some ⟨q, 0, none⟩) ∧ s9 = .slice a3 n3 c3 ∧ Mem w.heap.size w wx [intE a3 n3 c3 may, rowE q 77 #[.slice (some ⟨b, 0, none⟩) N cc], matE 24 (some ⟨b, 0, none⟩) N cc N bs (fun _ _ => 0), rowE w.heap.size 26 #[.int .i64 W, .int .i64 Hn, .slice a n c]])
  case first =>
    refine AtT.startA hM hM 10 (by kernel_rfl) ?_
    clear hM
    intro wd hM
    have hS := hM
    refine AtT.taked (i := 0) (v := ?_) (some 17) rfl rfl (by kernel_rfl) (by kernel_rfl) (by kernel_rfl) (by kernel_rfl) (fun _ _ _ h => h) (Or.inl ⟨by kernel_rfl, ?_⟩) hS ?_
    rotate_left
    · (intro wS hSw; (try dsimp only at hSw); go_simp; (try rw [if_neg (by omega)]); try with_reducible rfl)
    simp only [Act.put, List.setIfInBounds_toArray, List.set_cons_zero, List.set_cons_succ]
    refine AtT.taked (i := 1) (v := ?_) (some 18) rfl rfl (by kernel_rfl) (by kernel_rfl) (by kernel_rfl) (by kernel_rfl) (fun _ _ _ h => h) (Or.inl ⟨by kernel_rfl, ?_⟩) hS ?_
    rotate_left
    · (intro wS hSw; (try dsimp only at hSw); go_simp; (try rw [if_neg (by omega)]); try with_reducible rfl)
    simp only [Act.put, List.setIfInBounds_toArray, List.set_cons_zero, List.set_cons_succ]
    refine AtT.taked (i := 2) (v := ?_) (some 19) rfl rfl (by kernel_rfl) (by kernel_rfl) (by kernel_rfl) (by kernel_rfl) (fun _ _ _ h => h) (Or.inl ⟨by kernel_rfl, ?_⟩) hS ?_
    rotate_left
    · (intro wS hSw; (try dsimp only at hSw); go_simp; (try rw [if_neg (by omega)]); try with_reducible rfl)
    simp only [Act.put, List.setIfInBounds_toArray, List.set_cons_zero, List.set_cons_succ]
    refine AtT.taked (i := 4) (v := ?_) (some 21) rfl rfl (by kernel_rfl) (by kernel_rfl) (by kernel_rfl) (by kernel_rfl) (fun _ _ _ h => h) (Or.inl ⟨by kernel_rfl, ?_⟩) hS ?_
    rotate_left
    · (intro wS hSw; (try dsimp only at hSw); have kr0 := (Mem.row hSw .here).cell; go_simp; (try rw [if_neg (by omega)]); try with_reducible rfl)
    simp only [Act.put, List.setIfInBounds_toArray, List.set_cons_zero, List.set_cons_succ]
    refine AtT.taked (i := 5) (v := ?_) (some 22) rfl rfl (by kernel_rfl) (by kernel_rfl) (by kernel_rfl) (by kernel_rfl) (fun _ _ _ h => h) (Or.inl ⟨by kernel_rfl, ?_⟩) hS ?_
    rotate_left
    · (intro wS hSw; (try dsimp only at hSw); go_simp; (try rw [if_neg (by omega)]); try with_reducible rfl)
    simp only [Act.put, List.setIfInBounds_toArray, List.set_cons_zero, List.set_cons_succ]
    refine AtT.taked (i := 6) (v := ?_) (some 23) rfl rfl (by kernel_rfl) (by kernel_rfl) (by kernel_rfl) (by kernel_rfl) (fun _ _ _ h => h) (Or.inl ⟨by kernel_rfl, ?_⟩) hS ?_
    rotate_left
    · (intro wS hSw; (try dsimp only at hSw); go_simp; (try rw [if_neg (by omega)]); try with_reducible rfl)
    simp only [Act.put, List.setIfInBounds_toArray, List.set_cons_zero, List.set_cons_succ]
    refine AtT.two (i := 3) (j := 8) (by kernel_rfl) rfl rfl rfl rfl ?_ ?_
    · skip
      intro K hK
      go_simp
      refine (newNetwork_any N _ (by omega)).mono ?_
      rintro e w3 ⟨b, cc, bs, rfl, hm⟩
      replace hM := hM.join hm
      clear hm
      (try simp only [World.size_alloc, World.size_setCell, World.heap_drewN, heapDrew, Nat.add_assoc, Nat.reduceAdd, List.setIfInBounds_toArray, List.set_cons_zero, List.set_cons_succ, List.cons_append, List.nil_append] at hM)
      try dsimp only
      refine hK.out _ _ (hM.tail) ?_
      clear hK K hS
      have hS := hM.tail
      refine AtT.two (i := 7) (j := 8) (by kernel_rfl) rfl rfl rfl rfl ?_ ?_
      · skip
        intro K hK
        go_simp
        refine (free_any W Hn a n c xs a1 n1 c1 ss a2 n2 c2 ts _ (h.ext hM.below) (h1.ext hM.below) (h2.ext hM.below) hn25).mono ?_
        rw [HMAY.out]
        rintro e w4 ⟨a3, n3, c3, rfl, hm⟩
        replace hM := hM.join hm
        clear hm
        (try simp only [World.size_alloc, World.size_setCell, World.heap_drewN, heapDrew, Nat.add_assoc, Nat.reduceAdd, List.setIfInBounds_toArray, List.set_cons_zero, List.set_cons_succ, List.cons_append, List.nil_append] at hM)
        try dsimp only
        refine hK.out _ _ (hM.tail.tail) ?_
        clear hK K hS
        have hS := hM.tail.tail
        refine AtT.only (i := 8) (by kernel_rfl) rfl rfl ?_
        intro K hK
        go_simp
        refine hK.out _ _ (by apply Mem.tail; apply Mem.tail; apply Mem.tail; (repeat' (first | with_reducible exact hM | with_reducible exact hMp | with_reducible apply Mem.drew | with_reducible apply Mem.drewN | with_reducible apply Mem.alloc | with_reducible apply Mem.set | with_reducible exact Sto.row | ((with_reducible refine Sto.rowEq2 ?_ ?_); omega; rfl) | ((with_reducible refine Sto.rowEq ?_); omega) | with_reducible apply Sto.int | with_reducible apply Sto.there | with_reducible assumption | (unfold I64; omega) | (with_reducible (have hMx := Mem.undrew hM; exact hMx)) | (with_reducible (have hMx := Mem.undrew hMp; exact hMx))))) ?_
        clear hK K hS
        have hMp := hM
        apply Mem.atT
        · (repeat' (first | with_reducible exact hM | with_reducible exact hMp | with_reducible apply Mem.drew | with_reducible apply Mem.drewN | with_reducible apply Mem.alloc | with_reducible apply Mem.set | with_reducible exact Sto.row | ((with_reducible refine Sto.rowEq2 ?_ ?_); omega; rfl) | ((with_reducible refine Sto.rowEq ?_); omega) | with_reducible apply Sto.int | with_reducible apply Sto.there | with_reducible assumption | (unfold I64; omega) | (with_reducible (have hMx := Mem.undrew hM; exact hMx)) | (with_reducible (have hMx := Mem.undrew hMp; exact hMx))))
        clear hM
        intro hM
        (try simp only [World.size_alloc, World.size_setCell, World.heap_drewN, heapDrew, Nat.add_assoc, Nat.reduceAdd, List.setIfInBounds_toArray, List.set_cons_zero, List.set_cons_succ, List.cons_append, List.nil_append] at hM)
        have hS := hM.tail.tail.tail
        refine AtT.only (i := 9) (by kernel_rfl) rfl rfl ?_
        intro K hK
        have kk0 := (hM.row .here).cell
        have ff0 := (hM.row .here).free
        have ll0 := (hM.row .here).lt
        have kk3 := (hM.row (.there (.there (.there .here)))).cell
        have ff3 := (hM.row (.there (.there (.there .here)))).free
        have ll3 := (hM.row (.there (.there (.there .here)))).lt
        go_simp
        clear kk0 ff0 ll0 kk3 ff3 ll3
        refine hK.out _ _ (by apply Mem.tail; apply Mem.tail; apply Mem.tail; (repeat' (first | with_reducible exact hM | with_reducible exact hMp | with_reducible apply Mem.drew | with_reducible apply Mem.drewN | with_reducible apply Mem.alloc | with_reducible apply Mem.set | with_reducible exact Sto.row | ((with_reducible refine Sto.rowEq2 ?_ ?_); omega; rfl) | ((with_reducible refine Sto.rowEq ?_); omega) | with_reducible apply Sto.int | with_reducible apply Sto.there | with_reducible assumption | (unfold I64; omega) | (with_reducible (have hMx := Mem.undrew hM; exact hMx)) | (with_reducible (have hMx := Mem.undrew hMp; exact hMx))))) ?_
        clear hK K hS
        apply Mem.atT
        · (repeat' (first | with_reducible exact hM | with_reducible exact hMp | with_reducible apply Mem.drew | with_reducible apply Mem.drewN | with_reducible apply Mem.alloc | with_reducible apply Mem.set | with_reducible exact Sto.row | ((with_reducible refine Sto.rowEq2 ?_ ?_); omega; rfl) | ((with_reducible refine Sto.rowEq ?_); omega) | with_reducible apply Sto.int | with_reducible apply Sto.there | with_reducible assumption | (unfold I64; omega) | (with_reducible (have hMx := Mem.undrew hM; exact hMx)) | (with_reducible (have hMx := Mem.undrew hMp; exact hMx))))
        clear hM
        intro hM
        (try simp only [World.size_alloc, World.size_setCell, World.heap_drewN, heapDrew, Nat.add_assoc, Nat.reduceAdd, List.setIfInBounds_toArray, List.set_cons_zero, List.set_cons_succ, List.cons_append, List.nil_append] at hM)
        have hS := hM.tail.tail.tail
        refine AtT.last (by kernel_rfl) rfl (by kernel_rfl) ?_
        intro K hK
        clear hS
        go_simp
        refine hK.out _ _ ?_
        clear hK K
        go_wp2_with fail
        go_meet
        refine ⟨_, b, cc, bs, a3, n3, c3, rfl, rfl, ?_⟩
        apply Mem.pick (is := [1, 0, 2, 3])
        · (repeat' (first | with_reducible exact hM | with_reducible exact hMp | with_reducible apply Mem.drew | with_reducible apply Mem.drewN | with_reducible apply Mem.alloc | with_reducible apply Mem.set | with_reducible exact Sto.row | ((with_reducible refine Sto.rowEq2 ?_ ?_); omega; rfl) | ((with_reducible refine Sto.rowEq ?_); omega) | with_reducible apply Sto.int | with_reducible apply Sto.there | with_reducible assumption | (unfold I64; omega) | (with_reducible (have hMx := Mem.undrew hM; exact hMx)) | (with_reducible (have hMx := Mem.undrew hMp; exact hMx))))
        · decide
        · rfl
      · skip
        intro K hK
        go_simp
        refine hK.out _ _ (by apply Mem.tail; apply Mem.tail; (repeat' (first | with_reducible exact hM | with_reducible exact hMp | with_reducible apply Mem.drew | with_reducible apply Mem.drewN | with_reducible apply Mem.alloc | with_reducible apply Mem.set | with_reducible exact Sto.row | ((with_reducible refine Sto.rowEq2 ?_ ?_); omega; rfl) | ((with_reducible refine Sto.rowEq ?_); omega) | with_reducible apply Sto.int | with_reducible apply Sto.there | with_reducible assumption | (unfold I64; omega) | (with_reducible (have hMx := Mem.undrew hM; exact hMx)) | (with_reducible (have hMx := Mem.undrew hMp; exact hMx))))) ?_
        clear hK K hS
        have hMp := hM
        apply Mem.atT
        · (repeat' (first | with_reducible exact hM | with_reducible exact hMp | with_reducible apply Mem.drew | with_reducible apply Mem.drewN | with_reducible apply Mem.alloc | with_reducible apply Mem.set | with_reducible exact Sto.row | ((with_reducible refine Sto.rowEq2 ?_ ?_); omega; rfl) | ((with_reducible refine Sto.rowEq ?_); omega) | with_reducible apply Sto.int | with_reducible apply Sto.there | with_reducible assumption | (unfold I64; omega) | (with_reducible (have hMx := Mem.undrew hM; exact hMx)) | (with_reducible (have hMx := Mem.undrew hMp; exact hMx))))
        clear hM
        intro hM
        (try simp only [World.size_alloc, World.size_setCell, World.heap_drewN, heapDrew, Nat.add_assoc, Nat.reduceAdd, List.setIfInBounds_toArray, List.set_cons_zero, List.set_cons_succ, List.cons_append, List.nil_append] at hM)
        have hS := hM.tail.tail
        refine AtT.only (i := 7) (by kernel_rfl) rfl rfl ?_
        intro K hK
        go_simp
        refine (free_any W Hn a n c xs a1 n1 c1 ss a2 n2 c2 ts _ (h.ext hM.below) (h1.ext hM.below) (h2.ext hM.below) hn25).mono ?_
        rw [HMAY.out]
        rintro e w4 ⟨a3, n3, c3, rfl, hm⟩
        replace hM := hM.join hm
        clear hm
        (try simp only [World.size_alloc, World.size_setCell, World.heap_drewN, heapDrew, Nat.add_assoc, Nat.reduceAdd, List.setIfInBounds_toArray, List.set_cons_zero, List.set_cons_succ, List.cons_append, List.nil_append] at hM)
        try dsimp only
        refine hK.out _ _ (hM.tail.tail.tail) ?_
        clear hK K hS
        have hS := hM.tail.tail.tail
        refine AtT.only (i := 9) (by kernel_rfl) rfl rfl ?_
        intro K hK
        have kk1 := (hM.row (.there .here)).cell
        have ff1 := (hM.row (.there .here)).free
        have ll1 := (hM.row (.there .here)).lt
        have kk3 := (hM.row (.there (.there (.there .here)))).cell
        have ff3 := (hM.row (.there (.there (.there .here)))).free
        have ll3 := (hM.row (.there (.there (.there .here)))).lt
        go_simp
        clear kk1 ff1 ll1 kk3 ff3 ll3
        refine hK.out _ _ (by apply Mem.tail; apply Mem.tail; apply Mem.tail; (repeat' (first | with_reducible exact hM | with_reducible exact hMp | with_reducible apply Mem.drew | with_reducible apply Mem.drewN | with_reducible apply Mem.alloc | with_reducible apply Mem.set | with_reducible exact Sto.row | ((with_reducible refine Sto.rowEq2 ?_ ?_); omega; rfl) | ((with_reducible refine Sto.rowEq ?_); omega) | with_reducible apply Sto.int | with_reducible apply Sto.there | with_reducible assumption | (unfold I64; omega) | (with_reducible (have hMx := Mem.undrew hM; exact hMx)) | (with_reducible (have hMx := Mem.undrew hMp; exact hMx))))) ?_
        clear hK K hS
        apply Mem.atT
        · (repeat' (first | with_reducible exact hM | with_reducible exact hMp | with_reducible apply Mem.drew | with_reducible apply Mem.drewN | with_reducible apply Mem.alloc | with_reducible apply Mem.set | with_reducible exact Sto.row | ((with_reducible refine Sto.rowEq2 ?_ ?_); omega; rfl) | ((with_reducible refine Sto.rowEq ?_); omega) | with_reducible apply Sto.int | with_reducible apply Sto.there | with_reducible assumption | (unfold I64; omega) | (with_reducible (have hMx := Mem.undrew hM; exact hMx)) | (with_reducible (have hMx := Mem.undrew hMp; exact hMx))))
        clear hM
        intro hM
        (try simp only [World.size_alloc, World.size_setCell, World.heap_drewN, heapDrew, Nat.add_assoc, Nat.reduceAdd, List.setIfInBounds_toArray, List.set_cons_zero, List.set_cons_succ, List.cons_append, List.nil_append] at hM)
        have hS := hM.tail.tail.tail
        refine AtT.last (by kernel_rfl) rfl (by kernel_rfl) ?_
        intro K hK
        clear hS
        go_simp
        refine hK.out _ _ ?_
        clear hK K
        go_wp2_with fail
        go_meet
        refine ⟨_, b, cc, bs, a3, n3, c3, rfl, rfl, ?_⟩
        apply Mem.pick (is := [0, 1, 2, 3])
        · (repeat' (first | with_reducible exact hM | with_reducible exact hMp | with_reducible apply Mem.drew | with_reducible apply Mem.drewN | with_reducible apply Mem.alloc | with_reducible apply Mem.set | with_reducible exact Sto.row | ((with_reducible refine Sto.rowEq2 ?_ ?_); omega; rfl) | ((with_reducible refine Sto.rowEq ?_); omega) | with_reducible apply Sto.int | with_reducible apply Sto.there | with_reducible assumption | (unfold I64; omega) | (with_reducible (have hMx := Mem.undrew hM; exact hMx)) | (with_reducible (have hMx := Mem.undrew hMp; exact hMx))))
        · decide
        · rfl
    · skip
      intro K hK
      go_simp
      refine hK.out _ _ (by apply Mem.tail; (repeat' (first | with_reducible exact hM | with_reducible exact hMp | with_reducible apply Mem.drew | with_reducible apply Mem.drewN | with_reducible apply Mem.alloc | with_reducible apply Mem.set | with_reducible exact Sto.row | ((with_reducible refine Sto.rowEq2 ?_ ?_); omega; rfl) | ((with_reducible refine Sto.rowEq ?_); omega) | with_reducible apply Sto.int | with_reducible apply Sto.there | with_reducible assumption | (unfold I64; omega) | (with_reducible (have hMx := Mem.undrew hM; exact hMx)) | (with_reducible (have hMx := Mem.undrew hMp; exact hMx))))) ?_
      clear hK K hS
      have hMp := hM
      apply Mem.atT
      · (repeat' (first | with_reducible exact hM | with_reducible exact hMp | with_reducible apply Mem.drew | with_reducible apply Mem.drewN | with_reducible apply Mem.alloc | with_reducible apply Mem.set | with_reducible exact Sto.row | ((with_reducible refine Sto.rowEq2 ?_ ?_); omega; rfl) | ((with_reducible refine Sto.rowEq ?_); omega) | with_reducible apply Sto.int | with_reducible apply Sto.there | with_reducible assumption | (unfold I64; omega) | (with_reducible (have hMx := Mem.undrew hM; exact hMx)) | (with_reducible (have hMx := Mem.undrew hMp; exact hMx))))
      clear hM
      intro hM
      (try simp only [World.size_alloc, World.size_setCell, World.heap_drewN, heapDrew, Nat.add_assoc, Nat.reduceAdd, List.setIfInBounds_toArray, List.set_cons_zero, List.set_cons_succ, List.cons_append, List.nil_append] at hM)
      have hS := hM.tail
      refine AtT.only (i := 3) (by kernel_rfl) rfl rfl ?_
      intro K hK
      go_simp
      refine (newNetwork_any N _ (by omega)).mono ?_
      rintro e w3 ⟨b, cc, bs, rfl, hm⟩
      replace hM := hM.join hm
      clear hm
      (try simp only [World.size_alloc, World.size_setCell, World.heap_drewN, heapDrew, Nat.add_assoc, Nat.reduceAdd, List.setIfInBounds_toArray, List.set_cons_zero, List.set_cons_succ, List.cons_append, List.nil_append] at hM)
      try dsimp only
      refine hK.out _ _ (hM.tail.tail) ?_
      clear hK K hS
      have hS := hM.tail.tail
      refine AtT.only (i := 7) (by kernel_rfl) rfl rfl ?_
      intro K hK
      go_simp
      refine (free_any W Hn a n c xs a1 n1 c1 ss a2 n2 c2 ts _ (h.ext hM.below) (h1.ext hM.below) (h2.ext hM.below) hn25).mono ?_
      rw [HMAY.out]
      rintro e w4 ⟨a3, n3, c3, rfl, hm⟩
      replace hM := hM.join hm
      clear hm
      (try simp only [World.size_alloc, World.size_setCell, World.heap_drewN, heapDrew, Nat.add_assoc, Nat.reduceAdd, List.setIfInBounds_toArray, List.set_cons_zero, List.set_cons_succ, List.cons_append, List.nil_append] at hM)
      try dsimp only
      refine hK.out _ _ (hM.tail.tail.tail) ?_
      clear hK K hS
      have hS := hM.tail.tail.tail
      refine AtT.only (i := 9) (by kernel_rfl) rfl rfl ?_
      intro K hK
      have kk2 := (hM.row (.there (.there .here))).cell
      have ff2 := (hM.row (.there (.there .here))).free
      have ll2 := (hM.row (.there (.there .here))).lt
      have kk3 := (hM.row (.there (.there (.there .here)))).cell
      have ff3 := (hM.row (.there (.there (.there .here)))).free
      have ll3 := (hM.row (.there (.there (.there .here)))).lt
      go_simp
      clear kk2 ff2 ll2 kk3 ff3 ll3
      refine hK.out _ _ (by apply Mem.tail; apply Mem.tail; apply Mem.tail; (repeat' (first | with_reducible exact hM | with_reducible exact hMp | with_reducible apply Mem.drew | with_reducible apply Mem.drewN | with_reducible apply Mem.alloc | with_reducible apply Mem.set | with_reducible exact Sto.row | ((with_reducible refine Sto.rowEq2 ?_ ?_); omega; rfl) | ((with_reducible refine Sto.rowEq ?_); omega) | with_reducible apply Sto.int | with_reducible apply Sto.there | with_reducible assumption | (unfold I64; omega) | (with_reducible (have hMx := Mem.undrew hM; exact hMx)) | (with_reducible (have hMx := Mem.undrew hMp; exact hMx))))) ?_
      clear hK K hS
      apply Mem.atT
      · (repeat' (first | with_reducible exact hM | with_reducible exact hMp | with_reducible apply Mem.drew | with_reducible apply Mem.drewN | with_reducible apply Mem.alloc | with_reducible apply Mem.set | with_reducible exact Sto.row | ((with_reducible refine Sto.rowEq2 ?_ ?_); omega; rfl) | ((with_reducible refine Sto.rowEq ?_); omega) | with_reducible apply Sto.int | with_reducible apply Sto.there | with_reducible assumption | (unfold I64; omega) | (with_reducible (have hMx := Mem.undrew hM; exact hMx)) | (with_reducible (have hMx := Mem.undrew hMp; exact hMx))))
      clear hM
      intro hM
      (try simp only [World.size_alloc, World.size_setCell, World.heap_drewN, heapDrew, Nat.add_assoc, Nat.reduceAdd, List.setIfInBounds_toArray, List.set_cons_zero, List.set_cons_succ, List.cons_append, List.nil_append] at hM)
      have hS := hM.tail.tail.tail
      refine AtT.last (by kernel_rfl) rfl (by kernel_rfl) ?_
      intro K hK
      clear hS
      go_simp
      refine hK.out _ _ ?_
      clear hK K
      go_wp2_with fail
      go_meet
      refine ⟨_, b, cc, bs, a3, n3, c3, rfl, rfl, ?_⟩
      apply Mem.pick (is := [0, 2, 1, 3])
      · (repeat' (first | with_reducible exact hM | with_reducible exact hMp | with_reducible apply Mem.drew | with_reducible apply Mem.drewN | with_reducible apply Mem.alloc | with_reducible apply Mem.set | with_reducible exact Sto.row | ((with_reducible refine Sto.rowEq2 ?_ ?_); omega; rfl) | ((with_reducible refine Sto.rowEq ?_); omega) | with_reducible apply Sto.int | with_reducible apply Sto.there | with_reducible assumption | (unfold I64; omega) | (with_reducible (have hMx := Mem.undrew hM; exact hMx)) | (with_reducible (have hMx := Mem.undrew hMp; exact hMx))))
      · decide
      · rfl
  case rest => as_aux_lemma =>
    clear hM
    obtain ⟨q, b, cc, bs, a3, n3, c3, rfl, rfl, hM⟩ := hcut
    have hl3 := (hM.ints .here).ints.len
    have hr3 := (hM.ints .here).ints.room
    have HL3 := Lib.hid hl3; clear hl3
    replace hM := hM.matTo (M' := ind (ArcM n (nearN W) (brn xs) (fun k => hasI ss (k : Nat)) (fun k => hasI ts (k : Nat)) (2 * n) (2 * n + 1) (fun x => x) (fun x => n + x) may 0)) (.there (.there .here)) (fun x y _ _ => by unfold ind; rw [if_neg]; rintro ⟨z, hz, -⟩; omega)
    go_wp2_with fail
    go_loopw [27] (fun s27 wr => ∃ k : Nat, k ≤ n3 ∧ s27 = .int .i64 k ∧ Mem w.heap.size w wr [intE a3 n3 c3 may, rowE q 77 #[.slice (some ⟨b, 0, none⟩) N cc], matE 24 (some ⟨b, 0, none⟩) N cc N bs (ind (ArcM n (nearN W) (brn xs) (fun k => hasI ss (k : Nat)) (fun k => hasI ts (k : Nat)) (2 * n) (2 * n + 1) (fun x => x) (fun x => n + x) may k)), rowE w.heap.size 26 #[.int .i64 W, .int .i64 Hn, .slice a n c]]) (fun s27 _ => n3 - (intOf s27).toNat)
    case atStart => exact ⟨0, Nat.zero_le _, rfl, hM⟩
    case round =>
      clear hM
      obtain ⟨k, hk, rfl, hM⟩ := hrel
      by_cases hlt : k < n3
      · have hkl : k < may.length := by rw [HL3.out]; exact hlt
        obtain ⟨cx, hcx, hcn, hcf⟩ := cells_fact HMAY.out hkl
        obtain ⟨g3, rfl, -⟩ := (hM.ints .here).head (by omega)
        have hce := (hM.ints .here).cellAt hlt
        have hlg := (hM.ints .here).till _ ⟨_, rfl, rfl⟩
        rw [hcx] at hce
        have HCX := Lib.hid hcx; have HCF := Lib.hid hcf
        clear hcx hcf hkl
        have i0 : (0 : Int) ≤ (k : Int) := by omega
        have i1 : (k : Int) < (n3 : Int) := by omega
        obtain ⟨nc, hnc⟩ : ∃ nc, n + cx = nc := ⟨_, rfl⟩
        have HNC := Lib.hid hnc
        have hncb : n + cx ≤ nc ∧ nc ≤ n + cx := by omega
        clear hnc
        have hwn : IntKind.i64.wrap ((n : Int) + (cx : Int)) = (nc : Int) := by rw [wrap_in (by omega)]; omega
        have x0 : (0 : Int) ≤ (cx : Int) := by omega
        have x1 : (cx : Int) < (N : Int) := by omega
        have o0 : (0 : Int) ≤ (nc : Int) := by omega
        have o1 : (nc : Int) < (N : Int) := by omega
        have m0 : (0 : Int) ≤ (m : Int) := by omega
        have m1 : (m : Int) < (N : Int) := by omega
        have mt0 : (0 : Int) ≤ (mt : Int) := by omega
        have mt1 : (mt : Int) < (N : Int) := by omega
        have n1x : cx < N := by omega
        have n1o : nc < N := by omega
        have n1m : m < N := by omega
        have n1t : mt < N := by omega
        obtain ⟨ys, hys⟩ : ∃ ys, cellsN n (nearN W cx) = ys := ⟨_, rfl⟩
        have HYS := Lib.hid hys
        clear hys
        obtain ⟨P1, hP1⟩ : ∃ P : Nat → Nat → Prop, ∀ p q, P p q ↔ ArcM n (nearN W) (brn xs) (fun k => hasI ss (k : Nat)) (fun k => hasI ts (k : Nat)) (2 * n) (2 * n + 1) (fun x => x) (fun x => n + x) may k p q ∨ (p = cx ∧ q = nc) := ⟨_, fun _ _ => Iff.rfl⟩
        obtain ⟨P, hP⟩ : ∃ P : Nat → Nat → Nat → Prop, ∀ j p q, P j p q ↔ P1 p q ∨ NbrP (brn xs) (fun k => hasI ss (k : Nat)) (fun k => hasI ts (k : Nat)) (2 * n) (2 * n + 1) (fun x => x) (fun x => n + x) cx ys j p q := ⟨_, fun _ _ _ => Iff.rfl⟩
        have hfin : ∀ p q, ArcM n (nearN W) (brn xs) (fun k => hasI ss (k : Nat)) (fun k => hasI ts (k : Nat)) (2 * n) (2 * n + 1) (fun x => x) (fun x => n + x) may (k + 1) p q ↔ P ys.length p q := fun p q => by
          rw [arcM_succ, HCX.out, Int.toNat_natCast, arcX_nbr (show freeP (brn xs) (fun k => hasI ss (k : Nat)) (fun k => hasI ts (k : Nat)) cx = true from HCF.out) HYS.out.symm, hP, hP1, HNC.out, or_assoc]
        have H1 := Lib.hid hP1; have HP := Lib.hid hP; have HFIN := Lib.hid hfin
        clear hP1 hP hfin
        have hsl := (hM.mat (.there (.there .here))).sl n1x
        have hml := (hM.mat (.there (.there .here))).lt n1x
        have hmb2 := (hM.mat (.there (.there .here))).ltb
        have hat := (hM.mat (.there (.there .here))).at n1x n1o
        have hfe := (hM.mat (.there (.there .here))).free n1x nc
        obtain ⟨k1, f1, l1⟩ := hM.row (.there .here)
        go_upto_region 7 with fail
        clear hsl hml hmb2 hat hfe hce hlg k1 f1 l1
        apply Mem.atWpA (hM.matSet (M' := ind P1) (.there (.there .here)) n1x (by unfold I64; omega) (ind_or2 H1.out))
        clear hM
        intro wst hM
        obtain ⟨k3, f3, l3⟩ := hM.row (.there (.there (.there .here)))
        go_wp2_with fail
        clear k3 f3 l3
        apply Mem.atA
        · (repeat' (first | with_reducible exact hM | with_reducible exact hMp | with_reducible apply Mem.drew | with_reducible apply Mem.drewN | with_reducible apply Mem.alloc | with_reducible apply Mem.set | with_reducible exact Sto.row | ((with_reducible refine Sto.rowEq2 ?_ ?_); omega; rfl) | ((with_reducible refine Sto.rowEq ?_); omega) | with_reducible apply Sto.int | with_reducible apply Sto.there | with_reducible assumption | (unfold I64; omega) | (with_reducible (have hMx := Mem.undrew hM; exact hMx)) | (with_reducible (have hMx := Mem.undrew hMp; exact hMx))))
        clear hM
        intro wst hM
        (try simp only [World.size_alloc, World.size_setCell, World.heap_drewN, heapDrew, Nat.add_assoc, Nat.reduceAdd, List.setIfInBounds_toArray, List.set_cons_zero, List.set_cons_succ, List.cons_append, List.nil_append] at hM)
        (first | refine (neighbors_any W Hn a n c xs cx _ (h.ext hM.below) hn25 hW (by omega)).mono ?_)
        rw [HYS.out]
        rintro e w5 ⟨y', ym, yc, rfl, hm⟩
        replace hM := hM.join hm
        clear hm
        (try simp only [World.size_alloc, World.size_setCell, World.heap_drewN, heapDrew, Nat.add_assoc, Nat.reduceAdd, List.setIfInBounds_toArray, List.set_cons_zero, List.set_cons_succ, List.cons_append, List.nil_append] at hM)
        obtain rfl : ym = ys.length := (hM.ints .here).len.symm
        have hyl : ys.length ≤ 25 := by rw [← HYS.out]; exact Nat.le_trans (cellsN_length _ _) hn25
        replace hM := hM.matTo (M' := ind (P 0)) (.there (.there (.there .here))) (fun x y _ _ => ind_iff (fun p q => (HP.out 0 p q).trans ⟨fun h => h.elim id (fun h => by obtain ⟨z, hz, -⟩ := h; omega), .inl⟩) x y)
        go_wp2_with fail
        go_loopw [44] (fun s44 wr => ∃ j : Nat, j ≤ ys.length ∧ s44 = .int .i64 j ∧ Mem w.heap.size w wr [intE y' ys.length yc ys, intE (some ⟨g3, 0, none⟩) n3 c3 may, rowE q 77 #[.slice (some ⟨b, 0, none⟩) N cc], matE 24 (some ⟨b, 0, none⟩) N cc N bs (ind (P j)), rowE w.heap.size 26 #[.int .i64 W, .int .i64 Hn, .slice a n c]]) (fun s44 _ => ys.length - (intOf s44).toNat)
        case atStart => exact ⟨0, Nat.zero_le _, rfl, hM⟩
        case round =>
          clear hM
          obtain ⟨j, hj, rfl, hM⟩ := hrel
          by_cases hjl : j < ys.length
          · obtain ⟨gy, rfl, -⟩ := (hM.ints .here).head (by omega)
            obtain ⟨d, hd, hdn, -⟩ := cells_fact HYS.out hjl
            have hce := (hM.ints .here).cellAt hjl
            have hlg := (hM.ints .here).till _ ⟨_, rfl, rfl⟩
            rw [hd] at hce
            have HD := Lib.hid hd; clear hd
            obtain ⟨bd, hbd⟩ : ∃ v, brn xs d = v := ⟨_, rfl⟩
            obtain ⟨fd, hfd⟩ : ∃ v, freeN xs ss ts d = v := ⟨_, rfl⟩
            obtain ⟨sd, hsd⟩ : ∃ v, hasI ss (d : Nat) = v := ⟨_, rfl⟩
            obtain ⟨td, htd⟩ : ∃ v, hasI ts (d : Nat) = v := ⟨_, rfl⟩
            have hfm : hasI may (d : Nat) = fd := by rw [← HMAY.out, hasI_cells hdn, hfd]
            have HBD := Lib.hid hbd; have HFD := Lib.hid hfd; have HSD := Lib.hid hsd; have HTD := Lib.hid htd; have HFM := Lib.hid hfm
            clear hbd hfd hsd htd hfm
            have j0 : (0 : Int) ≤ (j : Int) := by omega
            have j1 : (j : Int) < (ys.length : Int) := by omega
            have d0 : (0 : Int) ≤ (d : Int) := by omega
            have d1 : (d : Int) < (N : Int) := by omega
            have n1d : d < N := by omega
            obtain ⟨k4, f4, l4⟩ := hM.row (.there (.there (.there (.there .here))))
            go_wp2_with fail
            clear k4 f4 l4
            apply Mem.atA
            · (repeat' (first | with_reducible exact hM | with_reducible exact hMp | with_reducible apply Mem.drew | with_reducible apply Mem.drewN | with_reducible apply Mem.alloc | with_reducible apply Mem.set | with_reducible exact Sto.row | ((with_reducible refine Sto.rowEq2 ?_ ?_); omega; rfl) | ((with_reducible refine Sto.rowEq ?_); omega) | with_reducible apply Sto.int | with_reducible apply Sto.there | with_reducible assumption | (unfold I64; omega) | (with_reducible (have hMx := Mem.undrew hM; exact hMx)) | (with_reducible (have hMx := Mem.undrew hMp; exact hMx))))
            clear hM
            intro wst hM
            (try simp only [World.size_alloc, World.size_setCell, World.heap_drewN, heapDrew, Nat.add_assoc, Nat.reduceAdd, List.setIfInBounds_toArray, List.set_cons_zero, List.set_cons_succ, List.cons_append, List.nil_append] at hM)
            (first | refine (burns_any W Hn a n c xs d _ (h.ext hM.below) hdn).mono ?_)
            rw [HBD.out]
            rintro e wc2 ⟨rfl, hb⟩
            replace hM := hM.ext hb
            clear hb
            clear hce hlg
            cases bd
            · go_wp2
              go_roundw
              case rel => exact ⟨j + 1, by omega, by go_num, hM.matTo (.there (.there (.there .here))) (fun x y _ _ => ind_iff (fun p q => by rw [HP.out, HP.out, nbrP_succ, HD.out, Int.toNat_natCast, nbrX_no HBD.out, or_false]) x y)⟩
              case measure => simp [intOf]; omega
            go_wp2_with fail
            apply Mem.atA
            · (repeat' (first | with_reducible exact hM | with_reducible exact hMp | with_reducible apply Mem.drew | with_reducible apply Mem.drewN | with_reducible apply Mem.alloc | with_reducible apply Mem.set | with_reducible exact Sto.row | ((with_reducible refine Sto.rowEq2 ?_ ?_); omega; rfl) | ((with_reducible refine Sto.rowEq ?_); omega) | with_reducible apply Sto.int | with_reducible apply Sto.there | with_reducible assumption | (unfold I64; omega) | (with_reducible (have hMx := Mem.undrew hM; exact hMx)) | (with_reducible (have hMx := Mem.undrew hMp; exact hMx))))
            clear hM
            intro wst hM
            (try simp only [World.size_alloc, World.size_setCell, World.heap_drewN, heapDrew, Nat.add_assoc, Nat.reduceAdd, List.setIfInBounds_toArray, List.set_cons_zero, List.set_cons_succ, List.cons_append, List.nil_append] at hM)
            refine (has_any (some ⟨g3, 0, none⟩) n3 c3 may d _ (hM.ints (.there .here)).ints).mono ?_
            rw [HFM.out]
            rintro e w6 ⟨rfl, rfl⟩
            cases fd
            rotate_left
            · have n1d2 := n1d
              have hsl := (hM.mat (.there (.there (.there .here)))).sl n1o
              have hml := (hM.mat (.there (.there (.there .here)))).lt n1o
              have hmb2 := (hM.mat (.there (.there (.there .here)))).ltb
              have hat := (hM.mat (.there (.there (.there .here)))).at n1o n1d
              have hfe := (hM.mat (.there (.there (.there .here)))).free n1o d
              obtain ⟨k2, f2, l2⟩ := hM.row (.there (.there .here))
              go_wp2_with fail
              clear hsl hml hmb2 hat hfe k2 f2 l2
              go_roundw
              case rel => exact ⟨j + 1, by omega, by go_num, hM.matSet (M' := ind (P (j + 1))) (.there (.there (.there .here))) n1o (by unfold I64; omega) (ind_or2 (fun p q => by rw [HP.out, HP.out, nbrP_succ, HD.out, Int.toNat_natCast, nbrX_free (show freeP (brn xs) (fun k => hasI ss (k : Nat)) (fun k => hasI ts (k : Nat)) d = true from HFD.out), or_assoc]; simp only [HNC.out]))⟩
              case measure => simp [intOf]; omega
            go_wp2_with fail
            apply Mem.atA
            · (repeat' (first | with_reducible exact hM | with_reducible exact hMp | with_reducible apply Mem.drew | with_reducible apply Mem.drewN | with_reducible apply Mem.alloc | with_reducible apply Mem.set | with_reducible exact Sto.row | ((with_reducible refine Sto.rowEq2 ?_ ?_); omega; rfl) | ((with_reducible refine Sto.rowEq ?_); omega) | with_reducible apply Sto.int | with_reducible apply Sto.there | with_reducible assumption | (unfold I64; omega) | (with_reducible (have hMx := Mem.undrew hM; exact hMx)) | (with_reducible (have hMx := Mem.undrew hMp; exact hMx))))
            clear hM
            intro wst hM
            (try simp only [World.size_alloc, World.size_setCell, World.heap_drewN, heapDrew, Nat.add_assoc, Nat.reduceAdd, List.setIfInBounds_toArray, List.set_cons_zero, List.set_cons_succ, List.cons_append, List.nil_append] at hM)
            refine (has_any a1 n1 c1 ss d _ (h1.ext hM.below)).mono ?_
            rw [HSD.out]
            rintro e w6 ⟨rfl, rfl⟩
            cases sd
            rotate_left
            · have htd : td = false := by rw [← HTD.out]; exact HDIS.out _ (hasI_iff.1 HSD.out)
              subst htd
              have hsl := (hM.mat (.there (.there (.there .here)))).sl n1m
              have hml := (hM.mat (.there (.there (.there .here)))).lt n1m
              have hmb2 := (hM.mat (.there (.there (.there .here)))).ltb
              have hat := (hM.mat (.there (.there (.there .here)))).at n1m n1x
              have hfe := (hM.mat (.there (.there (.there .here)))).free n1m cx
              obtain ⟨k2, f2, l2⟩ := hM.row (.there (.there .here))
              go_wp2_with fail
              clear hsl hml hmb2 hat hfe k2 f2 l2
              go_roundw
              case rel => exact ⟨j + 1, by omega, by go_num, hM.matSet (M' := ind (P (j + 1))) (.there (.there (.there .here))) n1m (by unfold I64; omega) (ind_or2 (fun p q => by rw [HP.out, HP.out, nbrP_succ, HD.out, Int.toNat_natCast, nbrX_src (show freeP (brn xs) (fun k => hasI ss (k : Nat)) (fun k => hasI ts (k : Nat)) d = false from HFD.out) HBD.out HSD.out HTD.out, or_assoc]; simp only [HMM.out]))⟩
              case measure => simp [intOf]; omega
            go_wp2_with fail
            apply Mem.atA
            · (repeat' (first | with_reducible exact hM | with_reducible exact hMp | with_reducible apply Mem.drew | with_reducible apply Mem.drewN | with_reducible apply Mem.alloc | with_reducible apply Mem.set | with_reducible exact Sto.row | ((with_reducible refine Sto.rowEq2 ?_ ?_); omega; rfl) | ((with_reducible refine Sto.rowEq ?_); omega) | with_reducible apply Sto.int | with_reducible apply Sto.there | with_reducible assumption | (unfold I64; omega) | (with_reducible (have hMx := Mem.undrew hM; exact hMx)) | (with_reducible (have hMx := Mem.undrew hMp; exact hMx))))
            clear hM
            intro wst hM
            (try simp only [World.size_alloc, World.size_setCell, World.heap_drewN, heapDrew, Nat.add_assoc, Nat.reduceAdd, List.setIfInBounds_toArray, List.set_cons_zero, List.set_cons_succ, List.cons_append, List.nil_append] at hM)
            refine (has_any a2 n2 c2 ts d _ (h2.ext hM.below)).mono ?_
            rw [HTD.out]
            rintro e w6 ⟨rfl, rfl⟩
            cases td
            · go_wp2
              go_roundw
              case rel => exact ⟨j + 1, by omega, by go_num, hM.matTo (.there (.there (.there .here))) (fun x y _ _ => ind_iff (fun p q => by rw [HP.out, HP.out, nbrP_succ, HD.out, Int.toNat_natCast, nbrX_oth (show freeP (brn xs) (fun k => hasI ss (k : Nat)) (fun k => hasI ts (k : Nat)) d = false from HFD.out) HSD.out HTD.out, or_false]) x y)⟩
              case measure => simp [intOf]; omega
            · have n1d2 := n1d
              have hsl := (hM.mat (.there (.there (.there .here)))).sl n1o
              have hml := (hM.mat (.there (.there (.there .here)))).lt n1o
              have hmb2 := (hM.mat (.there (.there (.there .here)))).ltb
              have hat := (hM.mat (.there (.there (.there .here)))).at n1o n1t
              have hfe := (hM.mat (.there (.there (.there .here)))).free n1o mt
              obtain ⟨k2, f2, l2⟩ := hM.row (.there (.there .here))
              go_wp2_with fail
              clear hsl hml hmb2 hat hfe k2 f2 l2
              go_roundw
              case rel => exact ⟨j + 1, by omega, by go_num, hM.matSet (M' := ind (P (j + 1))) (.there (.there (.there .here))) n1o (by unfold I64; omega) (ind_or2 (fun p q => by rw [HP.out, HP.out, nbrP_succ, HD.out, Int.toNat_natCast, nbrX_snk (show freeP (brn xs) (fun k => hasI ss (k : Nat)) (fun k => hasI ts (k : Nat)) d = false from HFD.out) HBD.out HSD.out HTD.out, or_assoc]; simp only [HNC.out, HMT.out]))⟩
              case measure => simp [intOf]; omega
          · obtain rfl : j = ys.length := by omega
            go_wp2
            go_roundw
            case rel => exact ⟨k + 1, by omega, by go_num, hM.tail.matTo (.there (.there .here)) (fun x y _ _ => ind_iff (fun p q => HFIN.out p q) x y)⟩
            case measure => simp [intOf]; omega
      · obtain rfl : k = n3 := by omega
        replace hM := hM.matTo (M' := capA n (nearN W) (brn xs) (fun k => hasI ss k) (fun k => hasI ts k) (2 * n) (2 * n + 1) (fun x => x) (fun x => n + x)) (.there (.there .here)) (fun x y _ _ => by
          rw [ind_arc]
          refine (ind_iff (fun p q => ?_) x y).symm
          rw [← HL3.out]
          exact arcM_all HMAY.out.symm p q)
        obtain ⟨M0, hM0⟩ : ∃ M0, capA n (nearN W) (brn xs) (fun k => hasI ss k) (fun k => hasI ts k) (2 * n) (2 * n + 1) (fun x => x) (fun x => n + x) = M0 := ⟨_, rfl⟩
        rw [hM0] at hM
        have HM0 := Lib.hid hM0
        have hc1 : ∀ p q, M0 p q ≤ 1 := fun p q => by rw [← hM0]; exact (cap_01 p q).2
        have hf0 : Flow N m mt M0 M0 0 := Flow.start (fun p q _ _ => by rw [← hM0]; exact (cap_01 p q).1)
        have HC1 := Lib.hid hc1; have HF0 := Lib.hid hf0
        clear hM0 hc1 hf0
        obtain ⟨k1, f1, l1⟩ := hM.row (.there .here)
        go_wp2_with fail
        clear k1 f1 l1
        apply Mem.atA
        · (repeat' (first | with_reducible exact hM | with_reducible exact hMp | with_reducible apply Mem.drew | with_reducible apply Mem.drewN | with_reducible apply Mem.alloc | with_reducible apply Mem.set | with_reducible exact Sto.row | ((with_reducible refine Sto.rowEq2 ?_ ?_); omega; rfl) | ((with_reducible refine Sto.rowEq ?_); omega) | with_reducible apply Sto.int | with_reducible apply Sto.there | with_reducible assumption | (unfold I64; omega) | (with_reducible (have hMx := Mem.undrew hM; exact hMx)) | (with_reducible (have hMx := Mem.undrew hMp; exact hMx))))
        clear hM
        intro wst hM
        replace hM : Mem w.heap.size w wst (matE 24 (some ⟨b, 0, none⟩) N cc N bs M0 :: [rowE w.heap.size 26 #[.int .i64 W, .int .i64 Hn, .slice a n c]]) := hM.tail.tail
        refine (flow_any b cc N m mt bs M0 _ (by omega) (by omega) (by omega) HF0.out HC1.out hM).mono ?_
        rintro e w3 ⟨kf, M, rfl, hk100, hf, ⟨S, hs, ht, hfull⟩, hm⟩
        have hfew : FewT W n xs ss ts kf := by
          have hcap := HM0.out
          have hn := net_impl n
          rw [← hcap] at hf
          rw [HN.out, HMT.out, HMM.out] at hn
          rw [HMT.out, HMM.out] at hf
          exact (flow_few hn (fun p q => nearN_symm W p q) (fun p _ hp => HDIS.out _ (hasI_iff.1 hp)) HOP.out hf hs ht hfull)
        have HFW := Lib.hid hfew
        clear hfew hfull hs ht hM hf
        have hM := hm
        clear hm
        go_wp2
        go_ret
        exact ⟨kf, HFW.out, hk100, rfl, (by apply Mem.below; (repeat' (first | with_reducible exact hM | with_reducible exact hMp | with_reducible apply Mem.drew | with_reducible apply Mem.drewN | with_reducible apply Mem.alloc | with_reducible apply Mem.set | with_reducible exact Sto.row | ((with_reducible refine Sto.rowEq2 ?_ ?_); omega; rfl) | ((with_reducible refine Sto.rowEq ?_); omega) | with_reducible apply Sto.int | with_reducible apply Sto.there | with_reducible assumption | (unfold I64; omega) | (with_reducible (have hMx := Mem.undrew hM; exact hMx)) | (with_reducible (have hMx := Mem.undrew hMp; exact hMx)))))⟩
end Go.Proofs.Ytbgegmignhghnaa
